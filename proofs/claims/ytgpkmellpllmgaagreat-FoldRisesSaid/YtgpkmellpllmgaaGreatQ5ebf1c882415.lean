/-
  Merged from FoJob, FiJob, FpJob, FoTim, FiTim, FpTim, FoSub, FiSub, FpSub, FoKept, FiKept, FpKept, FoLst, FiLst.
-/
import Derived.Test.YtgpkmellpllmgaaGreatQ7b67ab243e98
import Derived.Deep.LoopGhost
import Derived.Deep.RegionLaw
import Derived.Test.YtgpkmellpllmgaaGreatQ39ed21976fe9
/-
  Lists of Job: searched, copied. Printed by gfold.py.
-/
set_option linter.unusedVariables false
set_option linter.unusedSimpArgs false
namespace Go.Proofs.YtgpkmellpllmgaaGreat
open Go Go.RowKit Go.Proofs.Base
open Go.Sort (grow)
set_option maxRecDepth 100000 in
set_option maxHeartbeats 2000000 in
theorem clone_Job (A : Option Addr) (n c : Nat) (l : List EJob) (w : World) (S : Nat → Prop) (hl : l.length = n) (hby : n * 64 ≤ 140737488355328) (hr : Row w S 6 n (.slice A n c) (l.flatMap encJob)) :
    Calls Tryz.prog 25 #[.slice A n c] w fun e w' => ∃ A' c', e = .returned (.slice A' n c') ∧ w'.ownsRow w.heap.size 52 6 (.slice A' n c') n (l.flatMap encJob) ∧ Below w.heap.size w w' := by
  obtain ⟨i0, z, hi0, hz0, hz1, hz2, hzc⟩ := eJob.hi
  have q : ∀ (w : World) (a : Option Addr) (n c n' c' : Nat), (binOp .eql 28 (.slice a n c) (.slice none n' c')).run Tryz.prog w = .ok (.bool a.isNone) w := fun w a n c n' c' => Lib.run_eql_slice_nil w _ _ a n c n' c' Tryz.underlying28
  obtain ⟨A', c', he, hnc, hcm, hlen, hnone, hsome⟩ := hr
  injection he with e1 _ e3
  subst e1 e3
  cases A with
  | none =>
    obtain ⟨rfl, rfl⟩ := hnone rfl
    obtain rfl : l = [] := List.eq_nil_of_length_eq_zero hl
    clear hsome hlen
    go_enter Tryz.func25, Tryz.ntmps25
    go_wp2
    go_ret
    exact ⟨none, 0, rfl, own_nil _ _ _ _, Below.refl _ _⟩
  | some ad =>
    have HC : Hid (∀ j u, (l.flatMap encJob)[j]? = some u → w.cell? (ad.add j) = some u) := Lib.hid (fun j u hu => by
      rcases Nat.eq_zero_or_pos n with h0 | h0
      · subst h0
        obtain rfl : l = [] := List.eq_nil_of_length_eq_zero hl
        simp at hu
      · obtain ⟨b, o, hA, _, _, hc⟩ := hsome h0
        injection hA with hA
        subst hA
        rw [add_plain]
        exact hc j u hu)
    have HVL := Lib.hid hlen
    have H1 := Lib.hid (flat_one (enc := encJob) oneJob l)
    clear hsome hlen hnone hl
    go_enter Tryz.func25, Tryz.ntmps25
    go_wp2_with (at_builtin; refine wpList_append_own _ rfl _ _ 28 rfl w.heap.size 52 i0 z 6 64 Tryz.underlying28 hi0 hz0 hz1 hz2 hzc (by omega) _ _ _ rfl (World.ownsRow_made w #[] 0 (Nat.le_refl _) (Nat.zero_le _) (by simp)) ad n c (l.flatMap encJob) rfl HVL.out (fun j u hj => Lib.cell?_alloc_some _ (HC.out j u hj)) H1.out (by simp only [maxLen]; omega) (by omega) (by simp) ?_; intro v' w1 hown hgrow hnil)
    go_ret
    have hown' : w1.ownsRow w.heap.size 52 6 v' n (l.flatMap encJob) := by simpa using hown
    obtain ⟨A2, c2, rfl, _, _⟩ := (Row.of_own hown').open_
    exact ⟨A2, c2, rfl, hown', ((Below.refl _ w).alloc (Nat.le_refl _) _).grown hgrow (by simp) (by intro k hk; injection hk with hk; exact Nat.le_of_eq hk)⟩
set_option maxRecDepth 100000 in
set_option maxHeartbeats 1000000 in
theorem idx_Job (A : Option Addr) (n c g : Nat) (lb : Array Value) (l : List EJob) (p : EJob → Bool) (w0 w : World) (S : Nat → Prop) (eg : ∀ args w, (callFunc g args).run Tryz.prog w = .ok (.enter g args) w) (hl : l.length = n) (hr : Row w S 6 n (.slice A n c) (l.flatMap encJob)) (h0 : Below w0.heap.size w0 w)
    (hp : ∀ W, Below w0.heap.size w0 W → ∀ x ∈ l, Calls Tryz.prog g (#[.agg #[.int .u64 x.key, .int .u64 x.token, .string x.typ, .int .i64 x.retries, .string x.worker, .int .i64 x.till]] ++ lb) W fun e w' => e = .returned (.bool (p x)) ∧ Below W.heap.size W w') :
    Calls Tryz.prog 77 #[.slice A n c, .func (.func g) #[] lb] w fun e w' => e = .returned (.int .i64 (idxP p l)) ∧ Below w.heap.size w w' := by
  obtain ⟨A', c', he, hnc, hcm⟩ := hr.open_
  injection he with e1 _ e3
  subst e1 e3
  have HR := Lib.hid hr
  have HL := Lib.hid hl
  have H0 := Lib.hid h0
  have HP := Lib.hid hp
  clear hr hl h0 hp
  go_enter Tryz.func77, Tryz.ntmps77
  go_wp2_with fail
  go_loopw [5, 8] (fun _ i wr => ∃ k : Nat, k ≤ n ∧ i = .int .i64 k ∧ Hid (idxP p l = idxGoP p (l.drop k) k) ∧ Below w.heap.size w wr) (fun _ i _ => n - (intOf i).toNat)
  case atStart => exact ⟨0, by omega, rfl, Lib.hid rfl, Below.refl _ _⟩
  case round =>
    obtain ⟨k, hk, rfl, HK, hbl⟩ := hrel
    have HBL := Lib.hid hbl
    by_cases hkn : k < n
    · have hk1 : k < l.length := by rw [HL.out]; exact hkn
      obtain ⟨b, o, rfl, _, hlt, hc⟩ := HR.out.at_ (by omega)
      have c0 : wr.cell? ⟨b, o + k * 6, none⟩ = some (.int .u64 l[k].key) := (hbl.cell (p := ⟨b, o + k * 6, none⟩) hlt).trans (by simpa using hc k 0 _ ((flat_at (enc := encJob) lenJob hk1 0 (by decide)).trans rfl))
      have c1 : wr.cell? ⟨b, o + k * 6 + 1, none⟩ = some (.int .u64 l[k].token) := (hbl.cell (p := ⟨b, o + k * 6 + 1, none⟩) hlt).trans (by simpa using hc k 1 _ ((flat_at (enc := encJob) lenJob hk1 1 (by decide)).trans rfl))
      have c2 : wr.cell? ⟨b, o + k * 6 + 2, none⟩ = some (.string l[k].typ) := (hbl.cell (p := ⟨b, o + k * 6 + 2, none⟩) hlt).trans (by simpa using hc k 2 _ ((flat_at (enc := encJob) lenJob hk1 2 (by decide)).trans rfl))
      have c3 : wr.cell? ⟨b, o + k * 6 + 3, none⟩ = some (.int .i64 l[k].retries) := (hbl.cell (p := ⟨b, o + k * 6 + 3, none⟩) hlt).trans (by simpa using hc k 3 _ ((flat_at (enc := encJob) lenJob hk1 3 (by decide)).trans rfl))
      have c4 : wr.cell? ⟨b, o + k * 6 + 4, none⟩ = some (.string l[k].worker) := (hbl.cell (p := ⟨b, o + k * 6 + 4, none⟩) hlt).trans (by simpa using hc k 4 _ ((flat_at (enc := encJob) lenJob hk1 4 (by decide)).trans rfl))
      have c5 : wr.cell? ⟨b, o + k * 6 + 5, none⟩ = some (.int .i64 l[k].till) := (hbl.cell (p := ⟨b, o + k * 6 + 5, none⟩) hlt).trans (by simpa using hc k 5 _ ((flat_at (enc := encJob) lenJob hk1 5 (by decide)).trans rfl))
      have hcall := HP.out wr (below2 H0.out hbl) l[k] (List.getElem_mem hk1)
      have hq := HK.out
      rw [List.drop_eq_getElem_cons hk1] at hq
      clear hc
      generalize l[k] = x at *
      have HQ := Lib.hid hq
      clear hq hbl HK
      by_cases hx : p x = true
      · rw [hx] at hcall
        have HX := Lib.hid hx
        clear hx
        go_wp2_with (go_at_fn g; refine hcall.mono ?_; rintro e w1 ⟨rfl, hb1⟩)
        go_ret
        refine ⟨?_, below2 HBL.out hb1⟩
        have e2 : idxGoP p (x :: l.drop (k + 1)) k = k := by show (if _ then _ else _) = _; rw [if_pos HX.out]
        rw [HQ.out, e2]; rfl
      · have hx2 : p x = false := by simpa using hx
        rw [hx2] at hcall
        have HQ2 : Hid (idxP p l = idxGoP p (l.drop (k + 1)) (k + 1)) := Lib.hid (by rw [HQ.out]; show (if _ then _ else _) = _; rw [if_neg hx])
        clear hx hx2
        go_wp2_with (go_at_fn g; refine hcall.mono ?_; rintro e w1 ⟨rfl, hb1⟩)
        go_roundw
        case rel => exact ⟨k + 1, by omega, by go_num, HQ2, below2 HBL.out hb1⟩
        case measure => simp [intOf]; omega
    · have HQ : Hid (idxP p l = -1) := Lib.hid (by rw [HK.out, List.drop_eq_nil_of_le (by rw [HL.out]; omega)]; rfl)
      clear HK
      go_wp2_with fail
      go_ret
      exact ⟨by rw [HQ.out]; rfl, hbl⟩
end Go.Proofs.YtgpkmellpllmgaaGreat
/-
  slices.Insert of one Job. Printed by gfold.py out of XIns.
-/
set_option linter.unusedVariables false
set_option linter.unusedSimpArgs false
namespace Go.Proofs.YtgpkmellpllmgaaGreat
open Go Go.RowKit Go.Proofs.Base
set_option maxRecDepth 100000 in
set_option maxHeartbeats 2000000 in
theorem ins_end_Job (base : Nat) (v : Value) (n xb : Nat) (xs cs : List Value) (w0 w : World) (hown : w.ownsRow base 52 6 v n xs) (hx : w.heap[xb]? = some (.cells cs.toArray 52 (0, 0))) (hcs : cs.length = 6) (h1c : ∀ u ∈ cs, u.oneCell' = true)
    (hB : Below base w0 w) (hbase : base ≤ w.heap.size) (hbig : (n + 1) * 64 ≤ 140737488355328) :
    Calls Tryz.prog 154 #[v, .int .i64 n, .slice (some ⟨xb, 0, none⟩) 1 1] w fun e w' => ∃ v', e = .returned v' ∧ w'.ownsRow base 52 6 v' (n + 1) (xs ++ cs) ∧ Below base w0 w' := by
  obtain ⟨i0, z, hi, hz0, hz1, hz2, hzc⟩ := eJob.hi
  have HO := Lib.hid hown
  have HX := Lib.hid (World.news_of_block (cs := cs.toArray) (t := 52) (fr := (0, 0)) hx)
  have HCS := Lib.hid hcs
  have H1C := Lib.hid h1c
  have HB := Lib.hid hB
  have hvn : ∃ A c, v = .slice A n c ∧ n ≤ c ∧ c ≤ 9223372036854775807 := by
    obtain ⟨_, h2⟩ := id hown
    have hl0 := hown.1
    clear hown HO
    rcases h2 with ⟨rfl, hn0⟩ | ⟨g, cap, cur, rfl, hb, hh, hnc, hcm, _⟩
    · obtain rfl : n = 0 := by rw [hn0] at hl0; simp at hl0; omega
      exact ⟨none, 0, rfl, Nat.le_refl _, by omega⟩
    · exact ⟨_, _, rfl, hnc, by simpa [maxLen] using hcm⟩
  obtain ⟨A, c, rfl, hnc, hc⟩ := hvn
  clear hown hx hcs h1c hB
  go_enter Tryz.func154, Tryz.ntmps154
  go_wp2_with (at_builtin; refine wpList_append_own_at _ rfl _ _ 28 rfl base 52 i0 z 6 64 eJob.ht hi hz0 hz1 hz2 hzc (by omega) _ n xs rfl HO.out ⟨xb, 0, none⟩ 1 1 cs rfl (by rw [HCS.out]) (by simpa using HX.out) H1C.out (by simp only [maxLen]; omega) hbig hbase ?_; intro v1 w1 hown1 hg1 _ _)
  all_goals (go_ret; exact ⟨v1, rfl, hown1, HB.out.grown hg1 hbase (fun k hk => (HO.out.lt k hk).1)⟩)
theorem zeros_len_Job (z : Value) (m : Nat) (hz : z.cells.size = 6) : (Builtin.zeroCells z.cells m).toList.length = m * 6 := by
  rw [Array.length_toList, size_zeroCells, hz]
set_option maxRecDepth 100000 in
set_option maxHeartbeats 4000000 in
theorem ins_grow_Job (base g cap n i xb m vc : Nat) (xs cs : List Value) (w0 w : World) (hi : i < n) (hm0 : 0 < m) (hcap : cap < n + m) (hown : w.ownsRow base 52 6 (.slice (some ⟨g, 0, none⟩) n cap) n xs) (hx : w.heap[xb]? = some (.cells cs.toArray 52 (0, 0))) (hcs : cs.length = m * 6) (h1c : ∀ u ∈ cs, u.oneCell' = true) (h1x : ∀ u ∈ xs, u.oneCell' = true)
    (hB : Below base w0 w) (hbase : base ≤ w.heap.size) (hbig : (n + m) * 64 ≤ 140737488355328) :
    Calls Tryz.prog 154 #[.slice (some ⟨g, 0, none⟩) n cap, .int .i64 i, .slice (some ⟨xb, 0, none⟩) m vc] w fun e w' => ∃ v', e = .returned v' ∧ w'.ownsRow base 52 6 v' (n + m) (xs.take (i * 6) ++ cs ++ xs.drop (i * 6)) ∧ Below base w0 w' := by
  obtain ⟨i0, z, hi0, hz0, hz1, hz2, hzc⟩ := eJob.hi
  have hnc : n ≤ cap := by
    rcases hown.2 with ⟨h, _⟩ | ⟨g', cap', cur, he, _, _, hnc, _⟩
    · cases h
    · injection he with _ _ e3; omega
  have hxl := hown.1
  have hgr : ∀ ty, (Builtin.append_ #[28, 3] ty #[.slice (some ⟨g, 0, none⟩) i cap, .int .i64 ((n + m - i : Nat) : Int)]).run Tryz.prog w = _ := fun ty =>
    run_append_zeros_grows w base 28 3 ty 52 i0 z 6 64 eJob.ht Tryz.underlying3 hi0 hz0 hz1 hz2 hzc (by omega) (by omega) g i cap (xs.take (i * 6)) (own_take hown (Nat.le_of_lt hi)) .i64 (n + m - i) (by omega) (by omega) (by rw [show i + (n + m - i) = n + m by omega]; exact hbig) hbase
  rw [show i + (n + m - i) = n + m by omega] at hgr
  have hge := grownCap_ge w (n + m) cap 52
  have hcm : grownCap w (n + m) cap 52 ≤ maxLen := grownCap_le_maxLen w (n + m) cap 52 (by simp only [maxLen]; omega)
  generalize grownCap w (n + m) cap 52 = k at *
  generalize hCUR : (xs.take (i * 6)).toArray ++ Builtin.zeroCells z.cells (n + m - i) ++ Builtin.zeroCells z.cells (k - (n + m)) = CUR at hgr
  have hCl : CUR.toList = xs.take (i * 6) ++ (Builtin.zeroCells z.cells (n + m - i)).toList ++ (Builtin.zeroCells z.cells (k - (n + m))).toList := by rw [← hCUR]; simp
  have htl : (xs.take (i * 6)).length = i * 6 := by rw [List.length_take, hxl]; omega
  have hdl : (xs.drop (i * 6)).length = (n - i) * 6 := by rw [List.length_drop, hxl]; omega
  have hCs : CUR.size = k * 6 := by
    rw [← Array.length_toList, hCl, List.length_append, List.length_append, htl, zeros_len_Job z _ hzc, zeros_len_Job z _ hzc]; omega
  have hW1 : (w.drew.alloc (.cells CUR 52)).heap[w.heap.size]? = some (.cells CUR 52 (0, 0)) := heap_alloc_new w.drew _
  have hb1 : Below base w0 (w.drew.alloc (.cells CUR 52)) := (show Below base w0 w.drew from ⟨hB.os, hB.tape, hB.output, hB.size, hB.block⟩).alloc hbase _
  have hxb := lt_of_blk hx
  have hx1 : (w.drew.alloc (.cells CUR 52)).heap[xb]? = some (.cells cs.toArray 52 (0, 0)) := (heap_alloc_old w.drew _ hxb).trans hx
  generalize hWW : w.drew.alloc (.cells CUR 52) = W1 at *
  have hc1 : ∀ ty dc, (Builtin.copy_ #[28, 28] ty #[.slice (some ⟨w.heap.size, i * 6, none⟩) (n + m - i) dc, .slice (some ⟨xb, 0, none⟩) m vc]).run Tryz.prog W1 = .ok (goInt (m : Int)) (W1.setRow w.heap.size (splice CUR.toList (i * 6) cs).toArray) := fun ty dc =>
    run_copy_wide W1 _ _ ty 52 6 w.heap.size (i * 6) (n + m - i) dc ⟨xb, 0, none⟩ m vc m CUR 52 cs eJob.ht sJob hW1 (by simp only [Nat.min_def]; split <;> omega) (by omega) (by simpa using World.news_of_block (cs := cs.toArray) (t := 52) (fr := (0, 0)) hx1) (by omega) h1c
  have hW2 := setRow_heap W1 w.heap.size CUR (splice CUR.toList (i * 6) cs).toArray 52 (0, 0) hW1
  have hb2 : Below base w0 (W1.setRow w.heap.size (splice CUR.toList (i * 6) cs).toArray) := below_setRow hb1 hbase _
  have hg2 : ∀ j v, (xs.drop (i * 6))[j]? = some v → (W1.setRow w.heap.size (splice CUR.toList (i * 6) cs).toArray).cell? ((⟨g, i * 6, none⟩ : Addr).add j) = some v := by
    intro j v hj
    have hglt := (hown.lt g rfl).2
    have h1 : w.cell? ((⟨g, 0, none⟩ : Addr).add (i * 6 + j)) = some v := hown.cells rfl (i * 6 + j) v (by rw [List.getElem?_drop] at hj; exact hj)
    rw [add_plain] at h1 ⊢
    rw [Nat.zero_add] at h1
    have h2 : (W1.setRow w.heap.size (splice CUR.toList (i * 6) cs).toArray).heap[g]? = w.heap[g]? := by
      rw [setRow_other _ _ _ _ (by omega), ← hWW]
      exact heap_alloc_old w.drew _ hglt
    exact (World.cell?_of_block (w := w) (a := ⟨g, i * 6 + j, none⟩) h2).trans h1
  generalize hW3 : W1.setRow w.heap.size (splice CUR.toList (i * 6) cs).toArray = W2 at *
  have hsl : (splice CUR.toList (i * 6) cs).length = k * 6 := by rw [length_splice CUR.toList (i * 6) cs (by rw [hcs, Array.length_toList, hCs]; omega), Array.length_toList, hCs]
  have hc2 : ∀ W : World, (∀ b, W.heap[b]? = W2.heap[b]?) → (∀ x, W.cell? x = W2.cell? x) → ∀ ty dc sc, (Builtin.copy_ #[28, 28] ty #[.slice (some ⟨w.heap.size, (i + m) * 6, none⟩) (n + m - (i + m)) dc, .slice (some ⟨g, i * 6, none⟩) (n - i) sc]).run Tryz.prog W = .ok (goInt ((n - i : Nat) : Int)) (W.setRow w.heap.size (splice (splice CUR.toList (i * 6) cs) ((i + m) * 6) (xs.drop (i * 6))).toArray) := fun W hWb hWc ty dc sc => by
    have h := run_copy_wide (P := Tryz.prog) W 28 28 ty 52 6 w.heap.size ((i + m) * 6) (n + m - (i + m)) dc ⟨g, i * 6, none⟩ (n - i) sc (n - i) (splice CUR.toList (i * 6) cs).toArray 52 (xs.drop (i * 6)) eJob.ht sJob ((hWb _).trans hW2) (by simp only [Nat.min_def]; split <;> omega) hdl (fun j v hj => (hWc _).trans (hg2 j v hj)) (by simp only [List.size_toArray]; rw [hsl, hdl]; omega) (fun u hu => h1x u (List.mem_of_mem_drop hu))
    rw [List.toList_toArray] at h
    exact h
  have hfin : (splice (splice CUR.toList (i * 6) cs) ((i + m) * 6) (xs.drop (i * 6))) = xs.take (i * 6) ++ cs ++ xs.drop (i * 6) ++ (Builtin.zeroCells z.cells (k - (n + m))).toList := by
    rw [hCl, show (i + m) * 6 = i * 6 + m * 6 by omega]
    exact ins_list (n := n * 6) (m * 6) hxl (by omega) hcs (by rw [zeros_len_Job z _ hzc]; omega) _
  have hout : ∀ W : World, W.heap[w.heap.size]? = some (.cells (splice (splice CUR.toList (i * 6) cs) ((i + m) * 6) (xs.drop (i * 6))).toArray 52 (0, 0)) → W.ownsRow base 52 6 (.slice (some ⟨w.heap.size, 0, none⟩) (n + m) k) (n + m) (xs.take (i * 6) ++ cs ++ xs.drop (i * 6)) := by
    intro W hW
    have hl : (xs.take (i * 6) ++ cs ++ xs.drop (i * 6)).length = (n + m) * 6 := by rw [List.length_append, List.length_append, htl, hcs, hdl]; omega
    refine ⟨hl, .inr ⟨_, _, _, rfl, hbase, hW, hge, hcm, ?_, ?_⟩⟩
    · simp only [List.size_toArray]; rw [length_splice _ _ _ (by rw [hsl, hdl]; omega), hsl]
    · rw [hfin, ← hl, List.take_left]
  have q1 : IntKind.i64.wrap ((n : Int) + m) = (n : Int) + m := by rw [IntKind.wrap_i64]; omega
  have q2 : IntKind.i64.wrap ((i : Int) + m) = (i : Int) + m := by rw [IntKind.wrap_i64]; omega
  have q3 : ((n : Int) + m - i) = ((n + m - i : Nat) : Int) := by omega
  have q4 : ((n : Int) == (i : Int)) = false := beq_f (by omega)
  have q5 : ((i : Int) == (n : Int)) = false := beq_f (by omega)
  have q6 : ((i : Int) + m).toNat = i + m := by omega
  have HB2 := Lib.hid hb2
  have HC1 := Lib.hid hc1
  have HC2 := Lib.hid hc2
  have HGR := Lib.hid hgr
  have HOUT := Lib.hid hout
  have HW2 := Lib.hid hW2
  have hck : i < k := by omega
  have kb1 : (0 : Int) ≤ (i : Int) + (m : Int) := by omega
  have kb2 : ¬ (k = i + m) := by omega
  have kb3 : (i : Int) ≤ (n : Int) + (m : Int) := by omega
  have kb4 : ¬ (cap = i) := by omega
  have kb5 : ¬ (k = i) := by omega
  have kb6 : i ≤ n := by omega
  have hz1 : ¬ ((m : Int) = 0) := by omega
  clear hc1 hc2 hgr hfin hsl hg2 hb2 hW2 hx1 hxb hb1 hW1 hCl hCs htl hdl hown hx h1c h1x hB hxl hz0 hz1 hz2 hzc hi0 hcs hCUR hbig hWW hW3
  unfold maxLen at hcm
  go_enter Tryz.func154, Tryz.ntmps154
  go_wp2_with (first | (at_builtin; with_reducible refine Lib.wpList_append_run _ rfl _ _ 28 3 rfl _ _ rfl rfl _ _ (HGR.out _) ?_) | (with_reducible refine wpList_copy_runI _ rfl _ _ 28 28 rfl _ _ rfl rfl (HC1.out _ _) ?_))
  go_region_law (refine step_copy_runI rfl _ _ 28 28 rfl _ _ (by simp [Act.eval, Act.put]) (by simp [Act.eval, Act.put]) (HC2.out W2.drew (fun _ => rfl) (fun _ => rfl) _ (k - (i + m)) (cap - i)) ?_)
  go_wp2_with fail
  go_ret
  refine ⟨_, rfl, by simpa [List.append_assoc] using HOUT.out _ (setRow_heap W2.drew _ _ _ 52 (0, 0) HW2.out), ?_⟩
  exact below_setRow (show Below base w0 W2.drew from ⟨HB2.out.os, HB2.out.tape, HB2.out.output, HB2.out.size, HB2.out.block⟩) hbase _
set_option maxRecDepth 100000 in
set_option maxHeartbeats 4000000 in
theorem ins_room_Job (base g cap n i xb m vc : Nat) (xs cs : List Value) (w0 w : World) (hi : i < n) (hm0 : 0 < m) (hcap : n + m ≤ cap) (hown : w.ownsRow base 52 6 (.slice (some ⟨g, 0, none⟩) n cap) n xs) (hx : w.heap[xb]? = some (.cells cs.toArray 52 (0, 0))) (hxg : xb ≠ g) (hcs : cs.length = m * 6) (h1c : ∀ u ∈ cs, u.oneCell' = true) (h1x : ∀ u ∈ xs, u.oneCell' = true)
    (hB : Below base w0 w) :
    Calls Tryz.prog 154 #[.slice (some ⟨g, 0, none⟩) n cap, .int .i64 i, .slice (some ⟨xb, 0, none⟩) m vc] w fun e w' => ∃ v', e = .returned v' ∧ w'.ownsRow base 52 6 v' (n + m) (xs.take (i * 6) ++ cs ++ xs.drop (i * 6)) ∧ Below base w0 w' := by
  have hxl := hown.1
  obtain ⟨cur, hbg, hg, hcm, hcsz, htk⟩ : ∃ cur : Array Value, base ≤ g ∧ w.heap[g]? = some (.cells cur 52 (0, 0)) ∧ cap ≤ maxLen ∧ cur.size = cap * 6 ∧ cur.toList.take (n * 6) = xs := by
    rcases hown.2 with ⟨h, _⟩ | ⟨g', cap', cur, he, hb, hh, hnc, hcm, hcs, htk⟩
    · cases h
    · injection he with e1 e2 e3
      injection e1 with e1
      injection e1 with e1
      subst e1 e3
      exact ⟨cur, hb, hh, hcm, by omega, htk⟩
  have hdl : (xs.drop (i * 6)).length = (n - i) * 6 := by rw [List.length_drop, hxl]; omega
  have hov : ∀ lb cb, (callFunc 196 #[.slice (some ⟨xb, 0, none⟩) m vc, .slice (some ⟨g, (i + m) * 6, none⟩) lb cb]).run Tryz.prog w = .ok (.value (.bool false)) w := fun lb cb => by
    rw [run_callFunc_extern Tryz.func196 (by kernel_rfl) (by kernel_rfl) (by kernel_rfl) (e := Extern.SlicesOverlaps.overlaps #[28, 28] #[4]) (by kernel_rfl),
      Lib.run_overlaps_apart w 28 4 52 Tryz.underlying28 6 Tryz.sizeOf52 ⟨xb, 0, none⟩ ⟨g, (i + m) * 6, none⟩ m vc lb cb hxg 52 52 cs.toArray.size cur.size (by simp [World.shape?, hx]) (by simp [World.shape?, hg]) (by omega) (frozen_of_blk hx _) (frozen_of_blk hx _)]
    rfl
  have hg1 := setRow_heap w.drew g cur (splice cur.toList ((i + m) * 6) (xs.drop (i * 6))).toArray 52 (0, 0) hg
  have hc1 : ∀ ty dc sc, (Builtin.copy_ #[28, 28] ty #[.slice (some ⟨g, (i + m) * 6, none⟩) (n + m - (i + m)) dc, .slice (some ⟨g, i * 6, none⟩) (n + m - i) sc]).run Tryz.prog w.drew = .ok (goInt ((n - i : Nat) : Int)) (w.drew.setRow g (splice cur.toList ((i + m) * 6) (xs.drop (i * 6))).toArray) := fun ty dc sc =>
    run_copy_wide (P := Tryz.prog) w.drew 28 28 ty 52 6 g ((i + m) * 6) (n + m - (i + m)) dc ⟨g, i * 6, none⟩ (n + m - i) sc (n - i) cur 52 (xs.drop (i * 6)) eJob.ht sJob hg (by simp only [Nat.min_def]; split <;> omega) hdl
      (fun j v hj => by
        have h1 : w.cell? ((⟨g, 0, none⟩ : Addr).add (i * 6 + j)) = some v := hown.cells rfl (i * 6 + j) v (by rw [List.getElem?_drop] at hj; exact hj)
        rw [add_plain] at h1 ⊢
        rw [Nat.zero_add] at h1
        exact h1) (by rw [hdl, hcsz]; omega) (fun u hu => h1x u (List.mem_of_mem_drop hu))
  have hxb := lt_of_blk hx
  have hx1 : (w.drew.setRow g (splice cur.toList ((i + m) * 6) (xs.drop (i * 6))).toArray).heap[xb]? = some (.cells cs.toArray 52 (0, 0)) := (setRow_other w.drew g xb _ hxg).trans hx
  have hbd : Below base w0 (w.drew.setRow g (splice cur.toList ((i + m) * 6) (xs.drop (i * 6))).toArray) := below_setRow (show Below base w0 w.drew from ⟨hB.os, hB.tape, hB.output, hB.size, hB.block⟩) hbg _
  generalize hWW : w.drew.setRow g (splice cur.toList ((i + m) * 6) (xs.drop (i * 6))).toArray = W1 at *
  have hsl : (splice cur.toList ((i + m) * 6) (xs.drop (i * 6))).length = cap * 6 := by rw [length_splice cur.toList ((i + m) * 6) (xs.drop (i * 6)) (by rw [hdl, Array.length_toList, hcsz]; omega), Array.length_toList, hcsz]
  have hc2 : ∀ ty dc, (Builtin.copy_ #[28, 28] ty #[.slice (some ⟨g, i * 6, none⟩) (n + m - i) dc, .slice (some ⟨xb, 0, none⟩) m vc]).run Tryz.prog W1 = .ok (goInt (m : Int)) (W1.setRow g (splice (splice cur.toList ((i + m) * 6) (xs.drop (i * 6))) (i * 6) cs).toArray) := fun ty dc => by
    have h := run_copy_wide (P := Tryz.prog) W1 28 28 ty 52 6 g (i * 6) (n + m - i) dc ⟨xb, 0, none⟩ m vc m (splice cur.toList ((i + m) * 6) (xs.drop (i * 6))).toArray 52 cs eJob.ht sJob hg1 (by simp only [Nat.min_def]; split <;> omega) hcs (by simpa using World.news_of_block (cs := cs.toArray) (t := 52) (fr := (0, 0)) hx1) (by simp only [List.size_toArray]; rw [hsl, hcs]; omega) h1c
    rw [List.toList_toArray] at h
    exact h
  have hg2 := setRow_heap W1 g _ (splice (splice cur.toList ((i + m) * 6) (xs.drop (i * 6))) (i * 6) cs).toArray 52 (0, 0) hg1
  have hb2 := below_setRow hbd hbg (splice (splice cur.toList ((i + m) * 6) (xs.drop (i * 6))) (i * 6) cs).toArray
  have hout : (W1.setRow g (splice (splice cur.toList ((i + m) * 6) (xs.drop (i * 6))) (i * 6) cs).toArray).ownsRow base 52 6 (.slice (some ⟨g, 0, none⟩) (n + m) cap) (n + m) (xs.take (i * 6) ++ cs ++ xs.drop (i * 6)) := by
    have htl : (xs.take (i * 6)).length = i * 6 := by rw [List.length_take, hxl]; omega
    have hl : (xs.take (i * 6) ++ cs ++ xs.drop (i * 6)).length = (n + m) * 6 := by rw [List.length_append, List.length_append, htl, hcs, hdl]; omega
    refine ⟨hl, .inr ⟨_, _, _, rfl, hbg, hg2, hcap, hcm, ?_, ?_⟩⟩
    · simp only [List.size_toArray]; rw [length_splice _ _ _ (by rw [hsl, hcs]; omega), hsl]
    · have h := ins_list2 (xs := xs) (cs := cs) (cur := cur.toList) (i := i * 6) (n := n * 6) (m * 6) htk (by rw [Array.length_toList, hcsz]; omega) (by omega) hcs
      rw [show i * 6 + m * 6 = (i + m) * 6 by omega, show n * 6 + m * 6 = (n + m) * 6 by omega] at h
      exact h
  generalize hWW2 : W1.setRow g (splice (splice cur.toList ((i + m) * 6) (xs.drop (i * 6))) (i * 6) cs).toArray = W2 at *
  have HB2 := Lib.hid hb2
  have HC1 := Lib.hid hc1
  have HC2 := Lib.hid hc2
  have HOV := Lib.hid hov
  have HOUT := Lib.hid hout
  have hck : i < cap := by omega
  have q1 : IntKind.i64.wrap ((n : Int) + m) = (n : Int) + m := by rw [IntKind.wrap_i64]; unfold maxLen at hcm; omega
  have q2 : IntKind.i64.wrap ((i : Int) + m) = (i : Int) + m := by rw [IntKind.wrap_i64]; unfold maxLen at hcm; omega
  have q5 : ((i : Int) == (n : Int)) = false := beq_f (by omega)
  have q6 : ((i : Int) + m).toNat = i + m := by omega
  have q7 : ((n : Int) + m).toNat = n + m := by omega
  have kb1 : (0 : Int) ≤ (i : Int) + (m : Int) := by omega
  have kb2 : ¬ (cap = i + m) := by omega
  have kb3 : (i : Int) ≤ (n : Int) + (m : Int) := by omega
  have kb4 : ¬ (cap = i) := by omega
  have kb6 : i ≤ n := by omega
  have hz1 : ¬ ((m : Int) = 0) := by omega
  clear hb2 hc1 hc2 hov hout hown hx h1c h1x hB hxl hcs hWW hWW2 hg hg1 hg2 hcsz htk hdl hxb hx1 hbd hsl
  unfold maxLen at hcm
  go_enter Tryz.func154, Tryz.ntmps154
  go_wp2_with (simp only [HOV.out])
  go_region_law (refine step_copy_runI rfl _ _ 28 28 rfl _ _ (by simp [Act.eval, Act.put]) (by simp [Act.eval, Act.put]) (HC1.out _ (cap - (i + m)) (cap - i)) ?_)
  go_wp2_with (with_reducible refine wpList_copy_runI _ rfl _ _ 28 28 rfl _ _ rfl rfl (HC2.out _ _) ?_)
  go_ret
  exact ⟨_, rfl, by simpa [List.append_assoc] using HOUT.out, HB2.out⟩
theorem ins_one_Job (base : Nat) (v : Value) (n i xb : Nat) (xs cs : List Value) (w0 w : World) (hi : i ≤ n) (hown : w.ownsRow base 52 6 v n xs) (hx : w.heap[xb]? = some (.cells cs.toArray 52 (0, 0))) (hxv : ∀ g, v.ownBlock = some g → xb ≠ g) (hcs : cs.length = 6) (h1c : ∀ u ∈ cs, u.oneCell' = true) (h1x : ∀ u ∈ xs, u.oneCell' = true)
    (hB : Below base w0 w) (hbase : base ≤ w.heap.size) (hbig : (n + 1) * 64 ≤ 140737488355328) :
    Calls Tryz.prog 154 #[v, .int .i64 i, .slice (some ⟨xb, 0, none⟩) 1 1] w fun e w' => ∃ v', e = .returned v' ∧ w'.ownsRow base 52 6 v' (n + 1) (xs.take (i * 6) ++ cs ++ xs.drop (i * 6)) ∧ Below base w0 w' := by
  by_cases he : i = n
  · subst he
    have hxl := hown.1
    have h := ins_end_Job base v i xb xs cs w0 w hown hx hcs h1c hB hbase hbig
    rw [List.take_of_length_le (by omega), List.drop_of_length_le (by omega), List.append_nil]
    exact h
  · have hlt : i < n := by omega
    have h2 := hown.2
    rcases h2 with ⟨_, hn0⟩ | ⟨g, cap, cur, rfl, hb, hh, hnc, hcm, _⟩
    · have := hown.1; rw [hn0] at this; simp at this; omega
    · by_cases hc : n + 1 ≤ cap
      · exact ins_room_Job base g cap n i xb 1 1 xs cs w0 w hlt (by omega) hc hown hx (hxv g rfl) (by omega) h1c h1x hB
      · exact ins_grow_Job base g cap n i xb 1 1 xs cs w0 w hlt (by omega) (by omega) hown hx (by omega) h1c h1x hB hbase hbig
end Go.Proofs.YtgpkmellpllmgaaGreat
/-
  fold.put of Job. Printed by gfold.py.
-/
set_option linter.unusedVariables false
set_option linter.unusedSimpArgs false
namespace Go.Proofs.YtgpkmellpllmgaaGreat
open Go Go.RowKit Go.Proofs.Base
open Go.Sort (grow)
set_option maxRecDepth 100000 in
theorem ord_Job (y x : EJob) (w : World) : Calls Tryz.prog 90 #[.agg #[.int .u64 y.key, .int .u64 y.token, .string y.typ, .int .i64 y.retries, .string y.worker, .int .i64 y.till], .agg #[.int .u64 x.key, .int .u64 x.token, .string x.typ, .int .i64 x.retries, .string x.worker, .int .i64 x.till]] w fun e w' => e = .returned (.int .i64 (cmpJob y x)) ∧ Below w.heap.size w w' := by
  have hB : Below w.heap.size w ((w.alloc (.cells #[.int .u64 y.key, .int .u64 y.token, .string y.typ, .int .i64 y.retries, .string y.worker, .int .i64 y.till] 52)).alloc (.cells #[.int .u64 x.key, .int .u64 x.token, .string x.typ, .int .i64 x.retries, .string x.worker, .int .i64 x.till] 52)) := below_alloc (below_alloc (Below.refl _ _) _) _
  have HB := Lib.hid hB
  clear hB
  go_enter Tryz.func90, Tryz.ntmps90
  go_wp2_with (go_at_call 83; refine (cmp_u64 _ _ _).mono ?_; rintro e w' ⟨rfl, rfl⟩)
  go_ret
  exact ⟨rfl, HB.out⟩
set_option maxRecDepth 100000 in
theorem put1_Job (B1 B2 : Nat) (y x : EJob) (w : World) (h1 : w.cell? ⟨B1, 0, none⟩ = some (.func (.func 90) #[] #[])) (h2 : w.heap[B2]? = some (.cells #[.int .u64 x.key, .int .u64 x.token, .string x.typ, .int .i64 x.retries, .string x.worker, .int .i64 x.till] 52 (0, 0))) :
    Calls Tryz.prog 152 (#[.agg #[.int .u64 y.key, .int .u64 y.token, .string y.typ, .int .i64 y.retries, .string y.worker, .int .i64 y.till]] ++ #[.pointer (some ⟨B1, 0, none⟩), .pointer (some ⟨B2, 0, none⟩)]) w fun e w' => e = .returned (.bool (decide (cmpJob y x = 0))) ∧ Below w.heap.size w w' := by
  have hB : Below w.heap.size w (w.alloc (.cells #[.int .u64 y.key, .int .u64 y.token, .string y.typ, .int .i64 y.retries, .string y.worker, .int .i64 y.till] 52)) := below_alloc (Below.refl _ _) _
  have hc := (hB.cell (p := ⟨B1, 0, none⟩) (World.block_lt_of_cell? w _ h1)).trans h1
  have hk := block_below hB h2
  have k0 := cell_of_blk hk 0
  have k1 := cell_of_blk hk 1
  have k2 := cell_of_blk hk 2
  have k3 := cell_of_blk hk 3
  have k4 := cell_of_blk hk 4
  have k5 := cell_of_blk hk 5
  have HB := Lib.hid hB
  obtain ⟨cc, hcc⟩ : ∃ cc, cc = cmpJob y x := ⟨_, rfl⟩
  have ho := fun w => ord_Job y x w
  simp only [← hcc] at ho
  have HO := Lib.hid ho
  rw [← hcc]
  clear hB h1 h2 hk hcc ho
  go_enter Tryz.func152, Tryz.ntmps152
  go_wp2_with (go_at_call 90; refine (HO.out _).mono ?_; rintro e w' ⟨rfl, hb⟩)
  go_ret
  exact ⟨by first | rfl | (refine congrArg (fun b => Ending.returned (Value.bool b)) ?_; rw [Bool.eq_iff_iff]; simp), below2 HB.out hb⟩
set_option maxRecDepth 100000 in
theorem put2_Job (B1 B2 : Nat) (y x : EJob) (w : World) (h1 : w.cell? ⟨B1, 0, none⟩ = some (.func (.func 90) #[] #[])) (h2 : w.heap[B2]? = some (.cells #[.int .u64 x.key, .int .u64 x.token, .string x.typ, .int .i64 x.retries, .string x.worker, .int .i64 x.till] 52 (0, 0))) :
    Calls Tryz.prog 153 (#[.agg #[.int .u64 y.key, .int .u64 y.token, .string y.typ, .int .i64 y.retries, .string y.worker, .int .i64 y.till]] ++ #[.pointer (some ⟨B1, 0, none⟩), .pointer (some ⟨B2, 0, none⟩)]) w fun e w' => e = .returned (.bool (decide (0 < cmpJob y x))) ∧ Below w.heap.size w w' := by
  have hB : Below w.heap.size w (w.alloc (.cells #[.int .u64 y.key, .int .u64 y.token, .string y.typ, .int .i64 y.retries, .string y.worker, .int .i64 y.till] 52)) := below_alloc (Below.refl _ _) _
  have hc := (hB.cell (p := ⟨B1, 0, none⟩) (World.block_lt_of_cell? w _ h1)).trans h1
  have hk := block_below hB h2
  have k0 := cell_of_blk hk 0
  have k1 := cell_of_blk hk 1
  have k2 := cell_of_blk hk 2
  have k3 := cell_of_blk hk 3
  have k4 := cell_of_blk hk 4
  have k5 := cell_of_blk hk 5
  have HB := Lib.hid hB
  obtain ⟨cc, hcc⟩ : ∃ cc, cc = cmpJob y x := ⟨_, rfl⟩
  have ho := fun w => ord_Job y x w
  simp only [← hcc] at ho
  have HO := Lib.hid ho
  rw [← hcc]
  clear hB h1 h2 hk hcc ho
  go_enter Tryz.func153, Tryz.ntmps153
  go_wp2_with (go_at_call 90; refine (HO.out _).mono ?_; rintro e w' ⟨rfl, hb⟩)
  go_ret
  exact ⟨by first | rfl | (refine congrArg (fun b => Ending.returned (Value.bool b)) ?_; rw [Bool.eq_iff_iff]; simp), below2 HB.out hb⟩
set_option maxRecDepth 100000 in
set_option maxHeartbeats 4000000 in
theorem put_Job (A : Option Addr) (n c : Nat) (x : EJob) (l : List EJob) (w : World) (S : Nat → Prop) (hl : l.length = n) (hby : (n + 1) * 64 ≤ 140737488355328) (hr : Row w S 6 n (.slice A n c) (l.flatMap encJob)) :
    Calls Tryz.prog 89 #[.slice A n c, .agg #[.int .u64 x.key, .int .u64 x.token, .string x.typ, .int .i64 x.retries, .string x.worker, .int .i64 x.till], .func (.func 90) #[] #[]] w fun e w' => ∃ A' c', e = .returned (.slice A' (putL cmpJob x l).length c') ∧ w'.ownsRow w.heap.size 52 6 (.slice A' (putL cmpJob x l).length c') (putL cmpJob x l).length ((putL cmpJob x l).flatMap encJob) ∧ Below w.heap.size w w' := by
  obtain ⟨N, hN⟩ : ∃ N, N = (w.alloc (.cells #[.int .u64 x.key, .int .u64 x.token, .string x.typ, .int .i64 x.retries, .string x.worker, .int .i64 x.till] 52)).alloc (.cells #[.func (.func 90) #[] #[]] 122) := ⟨_, rfl⟩
  have b0 : N.heap[w.heap.size]? = some (.cells #[.int .u64 x.key, .int .u64 x.token, .string x.typ, .int .i64 x.retries, .string x.worker, .int .i64 x.till] 52 (0, 0)) := by rw [hN]; exact blk_alloc (blk_new _) _
  have b1 : N.heap[w.heap.size + 1]? = some (.cells #[.func (.func 90) #[] #[]] 122 (0, 0)) := by rw [hN]; exact blk_new_of _ (by simp)
  have hB : Below w.heap.size w N := by rw [hN]; exact below_alloc (below_alloc (Below.refl _ _) _) _
  have hsz : N.heap.size = w.heap.size + 2 := by rw [hN]; simp
  have HN := Lib.hid hN
  have HB := Lib.hid hB
  have HSZ := Lib.hid hsz
  have HP1 : Hid (∀ W, Below N.heap.size N W → ∀ y ∈ l, Calls Tryz.prog 152 (#[.agg #[.int .u64 y.key, .int .u64 y.token, .string y.typ, .int .i64 y.retries, .string y.worker, .int .i64 y.till]] ++ #[.pointer (some ⟨w.heap.size + 1, 0, none⟩), .pointer (some ⟨w.heap.size, 0, none⟩)]) W fun e w' => e = .returned (.bool (decide (cmpJob y x = 0))) ∧ Below W.heap.size W w') :=
    Lib.hid (fun W hW y _ => put1_Job _ _ y x W (cell_of_blk (block_below hW b1) 0) (block_below hW b0))
  have HP2 : Hid (∀ W, Below N.heap.size N W → ∀ y ∈ l, Calls Tryz.prog 153 (#[.agg #[.int .u64 y.key, .int .u64 y.token, .string y.typ, .int .i64 y.retries, .string y.worker, .int .i64 y.till]] ++ #[.pointer (some ⟨w.heap.size + 1, 0, none⟩), .pointer (some ⟨w.heap.size, 0, none⟩)]) W fun e w' => e = .returned (.bool (decide (0 < cmpJob y x))) ∧ Below W.heap.size W w') :=
    Lib.hid (fun W hW y _ => put2_Job _ _ y x W (cell_of_blk (block_below hW b1) 0) (block_below hW b0))
  have HCL := Lib.hid (clone_Job A n c l N S hl (by omega) (hr.below (hB)))
  have e1 : ∀ args w, (callFunc 152 args).run Tryz.prog w = .ok (.enter 152 args) w := enters_of Tryz.func152 (by kernel_rfl) rfl
  have e2 : ∀ args w, (callFunc 153 args).run Tryz.prog w = .ok (.enter 153 args) w := enters_of Tryz.func153 (by kernel_rfl) rfl
  have E1 := Lib.hid e1
  have E2 := Lib.hid e2
  have HK := Lib.hid b0
  have HL := Lib.hid hl
  have HBY := Lib.hid hby
  obtain ⟨A0, c0, he0, hnc0, hcm0⟩ := hr.open_
  injection he0 with q1 _ q3
  subst q1 q3
  clear hN b0 b1 hB hr hsz e1 e2
  have HPL : Hid (putL cmpJob x l = if 0 ≤ idxP (fun y => decide (cmpJob y x = 0)) l then l.set (idxP (fun y => decide (cmpJob y x = 0)) l).toNat x else l.take (spotL cmpJob x l) ++ x :: l.drop (spotL cmpJob x l)) := Lib.hid rfl
  generalize putL cmpJob x l = L at *
  have hi1 := idxP_spec (fun y => decide (cmpJob y x = 0)) l
  have hi2 := idxP_spec (fun y => decide (0 < cmpJob y x)) l
  have HSP : Hid (spotL cmpJob x l = if idxP (fun y => decide (0 < cmpJob y x)) l < 0 then l.length else (idxP (fun y => decide (0 < cmpJob y x)) l).toNat) := Lib.hid rfl
  rcases hi1 with ⟨h1, _⟩ | ⟨j, hj, h1, -, -⟩
  · -- a new one
    obtain ⟨sp, hsp⟩ : ∃ sp, sp = spotL cmpJob x l := ⟨_, rfl⟩
    have hLe : Hid (L = l.take sp ++ x :: l.drop sp) := Lib.hid (by rw [HPL.out, h1, if_neg (by decide), hsp])
    have hspn : sp ≤ n := by rw [hsp, ← hl]; exact spotL_le _ _ _
    have HLe := hLe
    have hLL : L.length = n + 1 := by
      rw [hLe.out, List.length_append, List.length_cons, List.length_take, List.length_drop, hl]; omega
    have HINS : Hid (∀ (w5 : World) A5 c5, w5.ownsRow N.heap.size 52 6 (.slice A5 n c5) n (l.flatMap encJob) → Below N.heap.size N w5 → Calls Tryz.prog 154 #[.slice A5 n c5, .int .i64 sp, .slice (some ⟨w5.heap.size, 0, none⟩) 1 1] (w5.alloc (.cells #[.int .u64 x.key, .int .u64 x.token, .string x.typ, .int .i64 x.retries, .string x.worker, .int .i64 x.till] 52)) fun e w' => ∃ A' c', e = .returned (.slice A' (n + 1) c') ∧ w'.ownsRow w.heap.size 52 6 (.slice A' (n + 1) c') (n + 1) (L.flatMap encJob) ∧ Below w.heap.size w w') := Lib.hid (fun w5 A5 c5 hown hb5 => by
      have hb5s := hb5.size
      have hNs := HSZ.out
      refine (ins_one_Job w.heap.size _ n sp w5.heap.size (l.flatMap encJob) (encJob x) w (w5.alloc (.cells #[.int .u64 x.key, .int .u64 x.token, .string x.typ, .int .i64 x.retries, .string x.worker, .int .i64 x.till] 52)) hspn ((own_base hown (by omega)).alloc _) (blk_new _) (fun g hg => by have := (hown.lt g hg).2; omega) rfl (oneJob x) (flat_one oneJob l) (below_alloc (below2 HB.out hb5) _) (by simp; omega) HBY.out).mono ?_
      rintro e w6 ⟨v6, rfl, hown6, hb6⟩
      rw [flat_ins (enc := encJob) lenJob, ← HLe.out] at hown6
      obtain ⟨A6, c6, rfl, _, _⟩ := (Row.of_own hown6).open_
      exact ⟨A6, c6, rfl, hown6, hb6⟩)
    rw [hLL]
    clear HPL hLe
    rcases hi2 with ⟨h2, _⟩ | ⟨j, hj, h2, -, -⟩
    · have hspv : sp = n := by rw [hsp, HSP.out, h2, if_pos (by decide), hl]
      subst hspv
      clear hsp HSP hLL
      go_enter Tryz.func89, Tryz.ntmps89
      go_wp2_with fail
      rw [show (w.alloc (.cells #[.int .u64 x.key, .int .u64 x.token, .string x.typ, .int .i64 x.retries, .string x.worker, .int .i64 x.till] 52)).alloc (.cells #[.func (.func 90) #[] #[]] 122) = N from HN.out.symm]
      go_wp2_with (go_at_call 25; refine HCL.out.mono ?_; rintro e w1 ⟨A1, c1, rfl, hown, hb⟩; have HO1 := Lib.hid hown; have HB1 := Lib.hid hb; obtain ⟨_, _, _, hnc1, hcm1⟩ := (Row.of_own hown).open_; clear hown hb)
      refine (idx_Job _ _ _ 152 _ l _ N _ _ E1.out HL.out (Row.of_own HO1.out) HB1.out HP1.out).mono ?_
      rintro e w2 ⟨rfl, hb⟩
      rw [h1]
      have HB2 := Lib.hid (below2 HB1.out hb)
      have HO2 := Lib.hid (own_mut HO1.out (Mut.of_below hb (fun _ => False)) (fun _ _ h => h))
      clear hb
      go_wp2_with fail
      refine (idx_Job _ _ _ 153 _ l _ N _ _ E2.out HL.out (Row.of_own HO2.out) HB2.out HP2.out).mono ?_
      rintro e w3 ⟨rfl, hb⟩
      rw [h2]
      have HB3 := Lib.hid (below2 HB2.out hb)
      have HO3 := Lib.hid (own_mut HO2.out (Mut.of_below hb (fun _ => False)) (fun _ _ h => h))
      have hk3 := block_below HB3.out HK.out
      have k0 := cell_of_blk hk3 0; have k1 := cell_of_blk hk3 1; have k2 := cell_of_blk hk3 2; have k3 := cell_of_blk hk3 3; have k4 := cell_of_blk hk3 4; have k5 := cell_of_blk hk3 5
      clear hb hk3
      go_wp2_with (go_at_call 154; refine (HINS.out _ _ _ HO3.out HB3.out).mono ?_; rintro e w4 ⟨A4, c4, rfl, hown, hb⟩; have HO4 := Lib.hid hown; have HB4 := Lib.hid hb; clear hown hb)
      go_ret
      exact ⟨A4, c4, rfl, HO4.out, HB4.out⟩
    · have hspv : sp = j := by rw [hsp, HSP.out, h2, if_neg (by omega)]; simp
      subst hspv
      have hj0 : ¬ ((sp : Int) < 0) := by omega
      clear hsp HSP hLL
      go_enter Tryz.func89, Tryz.ntmps89
      go_wp2_with fail
      rw [show (w.alloc (.cells #[.int .u64 x.key, .int .u64 x.token, .string x.typ, .int .i64 x.retries, .string x.worker, .int .i64 x.till] 52)).alloc (.cells #[.func (.func 90) #[] #[]] 122) = N from HN.out.symm]
      go_wp2_with (go_at_call 25; refine HCL.out.mono ?_; rintro e w1 ⟨A1, c1, rfl, hown, hb⟩; have HO1 := Lib.hid hown; have HB1 := Lib.hid hb; obtain ⟨_, _, _, hnc1, hcm1⟩ := (Row.of_own hown).open_; clear hown hb)
      refine (idx_Job _ _ _ 152 _ l _ N _ _ E1.out HL.out (Row.of_own HO1.out) HB1.out HP1.out).mono ?_
      rintro e w2 ⟨rfl, hb⟩
      rw [h1]
      have HB2 := Lib.hid (below2 HB1.out hb)
      have HO2 := Lib.hid (own_mut HO1.out (Mut.of_below hb (fun _ => False)) (fun _ _ h => h))
      clear hb
      go_wp2_with fail
      refine (idx_Job _ _ _ 153 _ l _ N _ _ E2.out HL.out (Row.of_own HO2.out) HB2.out HP2.out).mono ?_
      rintro e w3 ⟨rfl, hb⟩
      rw [h2]
      have HB3 := Lib.hid (below2 HB2.out hb)
      have HO3 := Lib.hid (own_mut HO2.out (Mut.of_below hb (fun _ => False)) (fun _ _ h => h))
      have hk3 := block_below HB3.out HK.out
      have k0 := cell_of_blk hk3 0; have k1 := cell_of_blk hk3 1; have k2 := cell_of_blk hk3 2; have k3 := cell_of_blk hk3 3; have k4 := cell_of_blk hk3 4; have k5 := cell_of_blk hk3 5
      clear hb hk3
      go_wp2_with (go_at_call 154; refine (HINS.out _ _ _ HO3.out HB3.out).mono ?_; rintro e w4 ⟨A4, c4, rfl, hown, hb⟩; have HO4 := Lib.hid hown; have HB4 := Lib.hid hb; clear hown hb)
      go_ret
      exact ⟨A4, c4, rfl, HO4.out, HB4.out⟩
  · -- one that is there
    have hLe : Hid (L = l.set j x) := Lib.hid (by rw [HPL.out, h1, if_pos (by omega)]; simp)
    have hLL : L.length = n := by rw [hLe.out, List.length_set, hl]
    have hjn : j < n := by omega
    have hj0 : (0 : Int) ≤ (j : Int) := by omega
    have HFS := Lib.hid (flat_splice (enc := encJob) lenJob hj x)
    have HVL : Hid ((l.flatMap encJob).length = n * 6) := Lib.hid (by rw [flat_len (enc := encJob) lenJob, hl])
    rw [hLL]
    clear HPL hi2 HSP hj HP2
    go_enter Tryz.func89, Tryz.ntmps89
    go_wp2_with fail
    rw [show (w.alloc (.cells #[.int .u64 x.key, .int .u64 x.token, .string x.typ, .int .i64 x.retries, .string x.worker, .int .i64 x.till] 52)).alloc (.cells #[.func (.func 90) #[] #[]] 122) = N from HN.out.symm]
    go_wp2_with (go_at_call 25; refine HCL.out.mono ?_; rintro e w1 ⟨A1, c1, rfl, hown, hb⟩; have HO1 := Lib.hid hown; have HB1 := Lib.hid hb; obtain ⟨_, _, _, hnc1, hcm1⟩ := (Row.of_own hown).open_; clear hown hb)
    refine (idx_Job _ _ _ 152 _ l _ N _ _ E1.out HL.out (Row.of_own HO1.out) HB1.out HP1.out).mono ?_
    rintro e w2 ⟨rfl, hb⟩
    rw [h1]
    have HB2 := Lib.hid (below2 HB1.out hb)
    have HO2 := Lib.hid (own_mut HO1.out (Mut.of_below hb (fun _ => False)) (fun _ _ h => h))
    have hk3 := block_below HB2.out HK.out
    have k0 := cell_of_blk hk3 0; have k1 := cell_of_blk hk3 1; have k2 := cell_of_blk hk3 2; have k3 := cell_of_blk hk3 3; have k4 := cell_of_blk hk3 4; have k5 := cell_of_blk hk3 5
    clear hb hk3
    obtain ⟨g, cap, cur, hv, hbg, hhg, hnc5, hcm5, hcs5, htk5⟩ := own_some HO2.out (by omega)
    injection hv with hv1 hv2 hv3
    subst hv1 hv3
    obtain ⟨u0, hu0⟩ : ∃ u, cur[j * 6]? = some u := ⟨_, Array.getElem?_eq_getElem (by omega)⟩; have j0 := (cell_of_blk hhg (j * 6)).trans hu0; have f0 := frozen_of_blk hhg (j * 6); clear hu0; obtain ⟨u1, hu1⟩ : ∃ u, cur[j * 6 + 1]? = some u := ⟨_, Array.getElem?_eq_getElem (by omega)⟩; have j1 := (cell_of_blk hhg (j * 6 + 1)).trans hu1; have f1 := frozen_of_blk hhg (j * 6 + 1); clear hu1; obtain ⟨u2, hu2⟩ : ∃ u, cur[j * 6 + 2]? = some u := ⟨_, Array.getElem?_eq_getElem (by omega)⟩; have j2 := (cell_of_blk hhg (j * 6 + 2)).trans hu2; have f2 := frozen_of_blk hhg (j * 6 + 2); clear hu2; obtain ⟨u3, hu3⟩ : ∃ u, cur[j * 6 + 3]? = some u := ⟨_, Array.getElem?_eq_getElem (by omega)⟩; have j3 := (cell_of_blk hhg (j * 6 + 3)).trans hu3; have f3 := frozen_of_blk hhg (j * 6 + 3); clear hu3; obtain ⟨u4, hu4⟩ : ∃ u, cur[j * 6 + 4]? = some u := ⟨_, Array.getElem?_eq_getElem (by omega)⟩; have j4 := (cell_of_blk hhg (j * 6 + 4)).trans hu4; have f4 := frozen_of_blk hhg (j * 6 + 4); clear hu4; obtain ⟨u5, hu5⟩ : ∃ u, cur[j * 6 + 5]? = some u := ⟨_, Array.getElem?_eq_getElem (by omega)⟩; have j5 := (cell_of_blk hhg (j * 6 + 5)).trans hu5; have f5 := frozen_of_blk hhg (j * 6 + 5); clear hu5
    have HG := Lib.hid hhg
    have HTK := Lib.hid htk5
    have HCS := Lib.hid hcs5
    have HBG := Lib.hid hbg
    have HCM := Lib.hid hcm5
    clear hhg htk5 hcs5 hbg hcm5
    go_wp2_with fail
    go_ret
    have hg2 := set_blk (o := j * 6 + 5) (set_blk (o := j * 6 + 4) (set_blk (o := j * 6 + 3) (set_blk (o := j * 6 + 2) (set_blk (o := j * 6 + 1) (set_blk (o := j * 6) (HG.out) (.int .u64 x.key)) (.int .u64 x.token)) (.string x.typ)) (.int .i64 x.retries)) (.string x.worker)) (.int .i64 x.till)
    have hbg := HBG.out
    have hNs := HSZ.out
    refine ⟨_, _, rfl, ?_, ?_⟩
    · refine ⟨by rw [flat_len (enc := encJob) lenJob, hLL], .inr ⟨g, _, _, rfl, by omega, hg2, hnc5, HCM.out, by simp only [Array.size_setIfInBounds]; have := HCS.out; omega, ?_⟩⟩
      rw [hLe.out, ← HFS.out, ← setAll_splice _ _ _ (by rw [HVL.out, lenJob]; omega), ← HTK.out]
      simp only [Array.toList_setIfInBounds, List.take_set]
      rfl
    · exact (((((((below2 HB.out HB2.out)).setCell (p := ⟨g, j * 6, none⟩) (by show _ ≤ g; omega) _).setCell (p := ⟨g, j * 6 + 1, none⟩) (by show _ ≤ g; omega) _).setCell (p := ⟨g, j * 6 + 2, none⟩) (by show _ ≤ g; omega) _).setCell (p := ⟨g, j * 6 + 3, none⟩) (by show _ ≤ g; omega) _).setCell (p := ⟨g, j * 6 + 4, none⟩) (by show _ ≤ g; omega) _).setCell (p := ⟨g, j * 6 + 5, none⟩) (by show _ ≤ g; omega) _
end Go.Proofs.YtgpkmellpllmgaaGreat
/-
  Lists of Timer: searched, copied. Printed by gfold.py.
-/
set_option linter.unusedVariables false
set_option linter.unusedSimpArgs false
namespace Go.Proofs.YtgpkmellpllmgaaGreat
open Go Go.RowKit Go.Proofs.Base
open Go.Sort (grow)
set_option maxRecDepth 100000 in
set_option maxHeartbeats 2000000 in
theorem clone_Tim (A : Option Addr) (n c : Nat) (l : List ETim) (w : World) (S : Nat → Prop) (hl : l.length = n) (hby : n * 24 ≤ 140737488355328) (hr : Row w S 3 n (.slice A n c) (l.flatMap encTim)) :
    Calls Tryz.prog 26 #[.slice A n c] w fun e w' => ∃ A' c', e = .returned (.slice A' n c') ∧ w'.ownsRow w.heap.size 66 3 (.slice A' n c') n (l.flatMap encTim) ∧ Below w.heap.size w w' := by
  obtain ⟨i0, z, hi0, hz0, hz1, hz2, hzc⟩ := eTim.hi
  have q : ∀ (w : World) (a : Option Addr) (n c n' c' : Nat), (binOp .eql 29 (.slice a n c) (.slice none n' c')).run Tryz.prog w = .ok (.bool a.isNone) w := fun w a n c n' c' => Lib.run_eql_slice_nil w _ _ a n c n' c' Tryz.underlying29
  obtain ⟨A', c', he, hnc, hcm, hlen, hnone, hsome⟩ := hr
  injection he with e1 _ e3
  subst e1 e3
  cases A with
  | none =>
    obtain ⟨rfl, rfl⟩ := hnone rfl
    obtain rfl : l = [] := List.eq_nil_of_length_eq_zero hl
    clear hsome hlen
    go_enter Tryz.func26, Tryz.ntmps26
    go_wp2
    go_ret
    exact ⟨none, 0, rfl, own_nil _ _ _ _, Below.refl _ _⟩
  | some ad =>
    have HC : Hid (∀ j u, (l.flatMap encTim)[j]? = some u → w.cell? (ad.add j) = some u) := Lib.hid (fun j u hu => by
      rcases Nat.eq_zero_or_pos n with h0 | h0
      · subst h0
        obtain rfl : l = [] := List.eq_nil_of_length_eq_zero hl
        simp at hu
      · obtain ⟨b, o, hA, _, _, hc⟩ := hsome h0
        injection hA with hA
        subst hA
        rw [add_plain]
        exact hc j u hu)
    have HVL := Lib.hid hlen
    have H1 := Lib.hid (flat_one (enc := encTim) oneTim l)
    clear hsome hlen hnone hl
    go_enter Tryz.func26, Tryz.ntmps26
    go_wp2_with (at_builtin; refine wpList_append_own _ rfl _ _ 29 rfl w.heap.size 66 i0 z 3 24 Tryz.underlying29 hi0 hz0 hz1 hz2 hzc (by omega) _ _ _ rfl (World.ownsRow_made w #[] 0 (Nat.le_refl _) (Nat.zero_le _) (by simp)) ad n c (l.flatMap encTim) rfl HVL.out (fun j u hj => Lib.cell?_alloc_some _ (HC.out j u hj)) H1.out (by simp only [maxLen]; omega) (by omega) (by simp) ?_; intro v' w1 hown hgrow hnil)
    go_ret
    have hown' : w1.ownsRow w.heap.size 66 3 v' n (l.flatMap encTim) := by simpa using hown
    obtain ⟨A2, c2, rfl, _, _⟩ := (Row.of_own hown').open_
    exact ⟨A2, c2, rfl, hown', ((Below.refl _ w).alloc (Nat.le_refl _) _).grown hgrow (by simp) (by intro k hk; injection hk with hk; exact Nat.le_of_eq hk)⟩
set_option maxRecDepth 100000 in
set_option maxHeartbeats 1000000 in
theorem idx_Tim (A : Option Addr) (n c g : Nat) (lb : Array Value) (l : List ETim) (p : ETim → Bool) (w0 w : World) (S : Nat → Prop) (eg : ∀ args w, (callFunc g args).run Tryz.prog w = .ok (.enter g args) w) (hl : l.length = n) (hr : Row w S 3 n (.slice A n c) (l.flatMap encTim)) (h0 : Below w0.heap.size w0 w)
    (hp : ∀ W, Below w0.heap.size w0 W → ∀ x ∈ l, Calls Tryz.prog g (#[.agg #[.int .u64 x.token, .int .i64 x.node, .int .i64 x.due]] ++ lb) W fun e w' => e = .returned (.bool (p x)) ∧ Below W.heap.size W w') :
    Calls Tryz.prog 156 #[.slice A n c, .func (.func g) #[] lb] w fun e w' => e = .returned (.int .i64 (idxP p l)) ∧ Below w.heap.size w w' := by
  obtain ⟨A', c', he, hnc, hcm⟩ := hr.open_
  injection he with e1 _ e3
  subst e1 e3
  have HR := Lib.hid hr
  have HL := Lib.hid hl
  have H0 := Lib.hid h0
  have HP := Lib.hid hp
  clear hr hl h0 hp
  go_enter Tryz.func156, Tryz.ntmps156
  go_wp2_with fail
  go_loopw [5, 8] (fun _ i wr => ∃ k : Nat, k ≤ n ∧ i = .int .i64 k ∧ Hid (idxP p l = idxGoP p (l.drop k) k) ∧ Below w.heap.size w wr) (fun _ i _ => n - (intOf i).toNat)
  case atStart => exact ⟨0, by omega, rfl, Lib.hid rfl, Below.refl _ _⟩
  case round =>
    obtain ⟨k, hk, rfl, HK, hbl⟩ := hrel
    have HBL := Lib.hid hbl
    by_cases hkn : k < n
    · have hk1 : k < l.length := by rw [HL.out]; exact hkn
      obtain ⟨b, o, rfl, _, hlt, hc⟩ := HR.out.at_ (by omega)
      have c0 : wr.cell? ⟨b, o + k * 3, none⟩ = some (.int .u64 l[k].token) := (hbl.cell (p := ⟨b, o + k * 3, none⟩) hlt).trans (by simpa using hc k 0 _ ((flat_at (enc := encTim) lenTim hk1 0 (by decide)).trans rfl))
      have c1 : wr.cell? ⟨b, o + k * 3 + 1, none⟩ = some (.int .i64 l[k].node) := (hbl.cell (p := ⟨b, o + k * 3 + 1, none⟩) hlt).trans (by simpa using hc k 1 _ ((flat_at (enc := encTim) lenTim hk1 1 (by decide)).trans rfl))
      have c2 : wr.cell? ⟨b, o + k * 3 + 2, none⟩ = some (.int .i64 l[k].due) := (hbl.cell (p := ⟨b, o + k * 3 + 2, none⟩) hlt).trans (by simpa using hc k 2 _ ((flat_at (enc := encTim) lenTim hk1 2 (by decide)).trans rfl))
      have hcall := HP.out wr (below2 H0.out hbl) l[k] (List.getElem_mem hk1)
      have hq := HK.out
      rw [List.drop_eq_getElem_cons hk1] at hq
      clear hc
      generalize l[k] = x at *
      have HQ := Lib.hid hq
      clear hq hbl HK
      by_cases hx : p x = true
      · rw [hx] at hcall
        have HX := Lib.hid hx
        clear hx
        go_wp2_with (go_at_fn g; refine hcall.mono ?_; rintro e w1 ⟨rfl, hb1⟩)
        go_ret
        refine ⟨?_, below2 HBL.out hb1⟩
        have e2 : idxGoP p (x :: l.drop (k + 1)) k = k := by show (if _ then _ else _) = _; rw [if_pos HX.out]
        rw [HQ.out, e2]; rfl
      · have hx2 : p x = false := by simpa using hx
        rw [hx2] at hcall
        have HQ2 : Hid (idxP p l = idxGoP p (l.drop (k + 1)) (k + 1)) := Lib.hid (by rw [HQ.out]; show (if _ then _ else _) = _; rw [if_neg hx])
        clear hx hx2
        go_wp2_with (go_at_fn g; refine hcall.mono ?_; rintro e w1 ⟨rfl, hb1⟩)
        go_roundw
        case rel => exact ⟨k + 1, by omega, by go_num, HQ2, below2 HBL.out hb1⟩
        case measure => simp [intOf]; omega
    · have HQ : Hid (idxP p l = -1) := Lib.hid (by rw [HK.out, List.drop_eq_nil_of_le (by rw [HL.out]; omega)]; rfl)
      clear HK
      go_wp2_with fail
      go_ret
      exact ⟨by rw [HQ.out]; rfl, hbl⟩
end Go.Proofs.YtgpkmellpllmgaaGreat
/-
  slices.Insert of one Timer. Printed by gfold.py out of XIns.
-/
set_option linter.unusedVariables false
set_option linter.unusedSimpArgs false
namespace Go.Proofs.YtgpkmellpllmgaaGreat
open Go Go.RowKit Go.Proofs.Base
set_option maxRecDepth 100000 in
set_option maxHeartbeats 2000000 in
theorem ins_end_Tim (base : Nat) (v : Value) (n xb : Nat) (xs cs : List Value) (w0 w : World) (hown : w.ownsRow base 66 3 v n xs) (hx : w.heap[xb]? = some (.cells cs.toArray 66 (0, 0))) (hcs : cs.length = 3) (h1c : ∀ u ∈ cs, u.oneCell' = true)
    (hB : Below base w0 w) (hbase : base ≤ w.heap.size) (hbig : (n + 1) * 24 ≤ 140737488355328) :
    Calls Tryz.prog 159 #[v, .int .i64 n, .slice (some ⟨xb, 0, none⟩) 1 1] w fun e w' => ∃ v', e = .returned v' ∧ w'.ownsRow base 66 3 v' (n + 1) (xs ++ cs) ∧ Below base w0 w' := by
  obtain ⟨i0, z, hi, hz0, hz1, hz2, hzc⟩ := eTim.hi
  have HO := Lib.hid hown
  have HX := Lib.hid (World.news_of_block (cs := cs.toArray) (t := 66) (fr := (0, 0)) hx)
  have HCS := Lib.hid hcs
  have H1C := Lib.hid h1c
  have HB := Lib.hid hB
  have hvn : ∃ A c, v = .slice A n c ∧ n ≤ c ∧ c ≤ 9223372036854775807 := by
    obtain ⟨_, h2⟩ := id hown
    have hl0 := hown.1
    clear hown HO
    rcases h2 with ⟨rfl, hn0⟩ | ⟨g, cap, cur, rfl, hb, hh, hnc, hcm, _⟩
    · obtain rfl : n = 0 := by rw [hn0] at hl0; simp at hl0; omega
      exact ⟨none, 0, rfl, Nat.le_refl _, by omega⟩
    · exact ⟨_, _, rfl, hnc, by simpa [maxLen] using hcm⟩
  obtain ⟨A, c, rfl, hnc, hc⟩ := hvn
  clear hown hx hcs h1c hB
  go_enter Tryz.func159, Tryz.ntmps159
  go_wp2_with (at_builtin; refine wpList_append_own_at _ rfl _ _ 29 rfl base 66 i0 z 3 24 eTim.ht hi hz0 hz1 hz2 hzc (by omega) _ n xs rfl HO.out ⟨xb, 0, none⟩ 1 1 cs rfl (by rw [HCS.out]) (by simpa using HX.out) H1C.out (by simp only [maxLen]; omega) hbig hbase ?_; intro v1 w1 hown1 hg1 _ _)
  all_goals (go_ret; exact ⟨v1, rfl, hown1, HB.out.grown hg1 hbase (fun k hk => (HO.out.lt k hk).1)⟩)
theorem zeros_len_Tim (z : Value) (m : Nat) (hz : z.cells.size = 3) : (Builtin.zeroCells z.cells m).toList.length = m * 3 := by
  rw [Array.length_toList, size_zeroCells, hz]
set_option maxRecDepth 100000 in
set_option maxHeartbeats 4000000 in
theorem ins_grow_Tim (base g cap n i xb m vc : Nat) (xs cs : List Value) (w0 w : World) (hi : i < n) (hm0 : 0 < m) (hcap : cap < n + m) (hown : w.ownsRow base 66 3 (.slice (some ⟨g, 0, none⟩) n cap) n xs) (hx : w.heap[xb]? = some (.cells cs.toArray 66 (0, 0))) (hcs : cs.length = m * 3) (h1c : ∀ u ∈ cs, u.oneCell' = true) (h1x : ∀ u ∈ xs, u.oneCell' = true)
    (hB : Below base w0 w) (hbase : base ≤ w.heap.size) (hbig : (n + m) * 24 ≤ 140737488355328) :
    Calls Tryz.prog 159 #[.slice (some ⟨g, 0, none⟩) n cap, .int .i64 i, .slice (some ⟨xb, 0, none⟩) m vc] w fun e w' => ∃ v', e = .returned v' ∧ w'.ownsRow base 66 3 v' (n + m) (xs.take (i * 3) ++ cs ++ xs.drop (i * 3)) ∧ Below base w0 w' := by
  obtain ⟨i0, z, hi0, hz0, hz1, hz2, hzc⟩ := eTim.hi
  have hnc : n ≤ cap := by
    rcases hown.2 with ⟨h, _⟩ | ⟨g', cap', cur, he, _, _, hnc, _⟩
    · cases h
    · injection he with _ _ e3; omega
  have hxl := hown.1
  have hgr : ∀ ty, (Builtin.append_ #[29, 3] ty #[.slice (some ⟨g, 0, none⟩) i cap, .int .i64 ((n + m - i : Nat) : Int)]).run Tryz.prog w = _ := fun ty =>
    run_append_zeros_grows w base 29 3 ty 66 i0 z 3 24 eTim.ht Tryz.underlying3 hi0 hz0 hz1 hz2 hzc (by omega) (by omega) g i cap (xs.take (i * 3)) (own_take hown (Nat.le_of_lt hi)) .i64 (n + m - i) (by omega) (by omega) (by rw [show i + (n + m - i) = n + m by omega]; exact hbig) hbase
  rw [show i + (n + m - i) = n + m by omega] at hgr
  have hge := grownCap_ge w (n + m) cap 66
  have hcm : grownCap w (n + m) cap 66 ≤ maxLen := grownCap_le_maxLen w (n + m) cap 66 (by simp only [maxLen]; omega)
  generalize grownCap w (n + m) cap 66 = k at *
  generalize hCUR : (xs.take (i * 3)).toArray ++ Builtin.zeroCells z.cells (n + m - i) ++ Builtin.zeroCells z.cells (k - (n + m)) = CUR at hgr
  have hCl : CUR.toList = xs.take (i * 3) ++ (Builtin.zeroCells z.cells (n + m - i)).toList ++ (Builtin.zeroCells z.cells (k - (n + m))).toList := by rw [← hCUR]; simp
  have htl : (xs.take (i * 3)).length = i * 3 := by rw [List.length_take, hxl]; omega
  have hdl : (xs.drop (i * 3)).length = (n - i) * 3 := by rw [List.length_drop, hxl]; omega
  have hCs : CUR.size = k * 3 := by
    rw [← Array.length_toList, hCl, List.length_append, List.length_append, htl, zeros_len_Tim z _ hzc, zeros_len_Tim z _ hzc]; omega
  have hW1 : (w.drew.alloc (.cells CUR 66)).heap[w.heap.size]? = some (.cells CUR 66 (0, 0)) := heap_alloc_new w.drew _
  have hb1 : Below base w0 (w.drew.alloc (.cells CUR 66)) := (show Below base w0 w.drew from ⟨hB.os, hB.tape, hB.output, hB.size, hB.block⟩).alloc hbase _
  have hxb := lt_of_blk hx
  have hx1 : (w.drew.alloc (.cells CUR 66)).heap[xb]? = some (.cells cs.toArray 66 (0, 0)) := (heap_alloc_old w.drew _ hxb).trans hx
  generalize hWW : w.drew.alloc (.cells CUR 66) = W1 at *
  have hc1 : ∀ ty dc, (Builtin.copy_ #[29, 29] ty #[.slice (some ⟨w.heap.size, i * 3, none⟩) (n + m - i) dc, .slice (some ⟨xb, 0, none⟩) m vc]).run Tryz.prog W1 = .ok (goInt (m : Int)) (W1.setRow w.heap.size (splice CUR.toList (i * 3) cs).toArray) := fun ty dc =>
    run_copy_wide W1 _ _ ty 66 3 w.heap.size (i * 3) (n + m - i) dc ⟨xb, 0, none⟩ m vc m CUR 66 cs eTim.ht sTim hW1 (by simp only [Nat.min_def]; split <;> omega) (by omega) (by simpa using World.news_of_block (cs := cs.toArray) (t := 66) (fr := (0, 0)) hx1) (by omega) h1c
  have hW2 := setRow_heap W1 w.heap.size CUR (splice CUR.toList (i * 3) cs).toArray 66 (0, 0) hW1
  have hb2 : Below base w0 (W1.setRow w.heap.size (splice CUR.toList (i * 3) cs).toArray) := below_setRow hb1 hbase _
  have hg2 : ∀ j v, (xs.drop (i * 3))[j]? = some v → (W1.setRow w.heap.size (splice CUR.toList (i * 3) cs).toArray).cell? ((⟨g, i * 3, none⟩ : Addr).add j) = some v := by
    intro j v hj
    have hglt := (hown.lt g rfl).2
    have h1 : w.cell? ((⟨g, 0, none⟩ : Addr).add (i * 3 + j)) = some v := hown.cells rfl (i * 3 + j) v (by rw [List.getElem?_drop] at hj; exact hj)
    rw [add_plain] at h1 ⊢
    rw [Nat.zero_add] at h1
    have h2 : (W1.setRow w.heap.size (splice CUR.toList (i * 3) cs).toArray).heap[g]? = w.heap[g]? := by
      rw [setRow_other _ _ _ _ (by omega), ← hWW]
      exact heap_alloc_old w.drew _ hglt
    exact (World.cell?_of_block (w := w) (a := ⟨g, i * 3 + j, none⟩) h2).trans h1
  generalize hW3 : W1.setRow w.heap.size (splice CUR.toList (i * 3) cs).toArray = W2 at *
  have hsl : (splice CUR.toList (i * 3) cs).length = k * 3 := by rw [length_splice CUR.toList (i * 3) cs (by rw [hcs, Array.length_toList, hCs]; omega), Array.length_toList, hCs]
  have hc2 : ∀ W : World, (∀ b, W.heap[b]? = W2.heap[b]?) → (∀ x, W.cell? x = W2.cell? x) → ∀ ty dc sc, (Builtin.copy_ #[29, 29] ty #[.slice (some ⟨w.heap.size, (i + m) * 3, none⟩) (n + m - (i + m)) dc, .slice (some ⟨g, i * 3, none⟩) (n - i) sc]).run Tryz.prog W = .ok (goInt ((n - i : Nat) : Int)) (W.setRow w.heap.size (splice (splice CUR.toList (i * 3) cs) ((i + m) * 3) (xs.drop (i * 3))).toArray) := fun W hWb hWc ty dc sc => by
    have h := run_copy_wide (P := Tryz.prog) W 29 29 ty 66 3 w.heap.size ((i + m) * 3) (n + m - (i + m)) dc ⟨g, i * 3, none⟩ (n - i) sc (n - i) (splice CUR.toList (i * 3) cs).toArray 66 (xs.drop (i * 3)) eTim.ht sTim ((hWb _).trans hW2) (by simp only [Nat.min_def]; split <;> omega) hdl (fun j v hj => (hWc _).trans (hg2 j v hj)) (by simp only [List.size_toArray]; rw [hsl, hdl]; omega) (fun u hu => h1x u (List.mem_of_mem_drop hu))
    rw [List.toList_toArray] at h
    exact h
  have hfin : (splice (splice CUR.toList (i * 3) cs) ((i + m) * 3) (xs.drop (i * 3))) = xs.take (i * 3) ++ cs ++ xs.drop (i * 3) ++ (Builtin.zeroCells z.cells (k - (n + m))).toList := by
    rw [hCl, show (i + m) * 3 = i * 3 + m * 3 by omega]
    exact ins_list (n := n * 3) (m * 3) hxl (by omega) hcs (by rw [zeros_len_Tim z _ hzc]; omega) _
  have hout : ∀ W : World, W.heap[w.heap.size]? = some (.cells (splice (splice CUR.toList (i * 3) cs) ((i + m) * 3) (xs.drop (i * 3))).toArray 66 (0, 0)) → W.ownsRow base 66 3 (.slice (some ⟨w.heap.size, 0, none⟩) (n + m) k) (n + m) (xs.take (i * 3) ++ cs ++ xs.drop (i * 3)) := by
    intro W hW
    have hl : (xs.take (i * 3) ++ cs ++ xs.drop (i * 3)).length = (n + m) * 3 := by rw [List.length_append, List.length_append, htl, hcs, hdl]; omega
    refine ⟨hl, .inr ⟨_, _, _, rfl, hbase, hW, hge, hcm, ?_, ?_⟩⟩
    · simp only [List.size_toArray]; rw [length_splice _ _ _ (by rw [hsl, hdl]; omega), hsl]
    · rw [hfin, ← hl, List.take_left]
  have q1 : IntKind.i64.wrap ((n : Int) + m) = (n : Int) + m := by rw [IntKind.wrap_i64]; omega
  have q2 : IntKind.i64.wrap ((i : Int) + m) = (i : Int) + m := by rw [IntKind.wrap_i64]; omega
  have q3 : ((n : Int) + m - i) = ((n + m - i : Nat) : Int) := by omega
  have q4 : ((n : Int) == (i : Int)) = false := beq_f (by omega)
  have q5 : ((i : Int) == (n : Int)) = false := beq_f (by omega)
  have q6 : ((i : Int) + m).toNat = i + m := by omega
  have HB2 := Lib.hid hb2
  have HC1 := Lib.hid hc1
  have HC2 := Lib.hid hc2
  have HGR := Lib.hid hgr
  have HOUT := Lib.hid hout
  have HW2 := Lib.hid hW2
  have hck : i < k := by omega
  have kb1 : (0 : Int) ≤ (i : Int) + (m : Int) := by omega
  have kb2 : ¬ (k = i + m) := by omega
  have kb3 : (i : Int) ≤ (n : Int) + (m : Int) := by omega
  have kb4 : ¬ (cap = i) := by omega
  have kb5 : ¬ (k = i) := by omega
  have kb6 : i ≤ n := by omega
  have hz1 : ¬ ((m : Int) = 0) := by omega
  clear hc1 hc2 hgr hfin hsl hg2 hb2 hW2 hx1 hxb hb1 hW1 hCl hCs htl hdl hown hx h1c h1x hB hxl hz0 hz1 hz2 hzc hi0 hcs hCUR hbig hWW hW3
  unfold maxLen at hcm
  go_enter Tryz.func159, Tryz.ntmps159
  go_wp2_with (first | (at_builtin; with_reducible refine Lib.wpList_append_run _ rfl _ _ 29 3 rfl _ _ rfl rfl _ _ (HGR.out _) ?_) | (with_reducible refine wpList_copy_runI _ rfl _ _ 29 29 rfl _ _ rfl rfl (HC1.out _ _) ?_))
  go_region_law (refine step_copy_runI rfl _ _ 29 29 rfl _ _ (by simp [Act.eval, Act.put]) (by simp [Act.eval, Act.put]) (HC2.out W2.drew (fun _ => rfl) (fun _ => rfl) _ (k - (i + m)) (cap - i)) ?_)
  go_wp2_with fail
  go_ret
  refine ⟨_, rfl, by simpa [List.append_assoc] using HOUT.out _ (setRow_heap W2.drew _ _ _ 66 (0, 0) HW2.out), ?_⟩
  exact below_setRow (show Below base w0 W2.drew from ⟨HB2.out.os, HB2.out.tape, HB2.out.output, HB2.out.size, HB2.out.block⟩) hbase _
set_option maxRecDepth 100000 in
set_option maxHeartbeats 4000000 in
theorem ins_room_Tim (base g cap n i xb m vc : Nat) (xs cs : List Value) (w0 w : World) (hi : i < n) (hm0 : 0 < m) (hcap : n + m ≤ cap) (hown : w.ownsRow base 66 3 (.slice (some ⟨g, 0, none⟩) n cap) n xs) (hx : w.heap[xb]? = some (.cells cs.toArray 66 (0, 0))) (hxg : xb ≠ g) (hcs : cs.length = m * 3) (h1c : ∀ u ∈ cs, u.oneCell' = true) (h1x : ∀ u ∈ xs, u.oneCell' = true)
    (hB : Below base w0 w) :
    Calls Tryz.prog 159 #[.slice (some ⟨g, 0, none⟩) n cap, .int .i64 i, .slice (some ⟨xb, 0, none⟩) m vc] w fun e w' => ∃ v', e = .returned v' ∧ w'.ownsRow base 66 3 v' (n + m) (xs.take (i * 3) ++ cs ++ xs.drop (i * 3)) ∧ Below base w0 w' := by
  have hxl := hown.1
  obtain ⟨cur, hbg, hg, hcm, hcsz, htk⟩ : ∃ cur : Array Value, base ≤ g ∧ w.heap[g]? = some (.cells cur 66 (0, 0)) ∧ cap ≤ maxLen ∧ cur.size = cap * 3 ∧ cur.toList.take (n * 3) = xs := by
    rcases hown.2 with ⟨h, _⟩ | ⟨g', cap', cur, he, hb, hh, hnc, hcm, hcs, htk⟩
    · cases h
    · injection he with e1 e2 e3
      injection e1 with e1
      injection e1 with e1
      subst e1 e3
      exact ⟨cur, hb, hh, hcm, by omega, htk⟩
  have hdl : (xs.drop (i * 3)).length = (n - i) * 3 := by rw [List.length_drop, hxl]; omega
  have hov : ∀ lb cb, (callFunc 198 #[.slice (some ⟨xb, 0, none⟩) m vc, .slice (some ⟨g, (i + m) * 3, none⟩) lb cb]).run Tryz.prog w = .ok (.value (.bool false)) w := fun lb cb => by
    rw [run_callFunc_extern Tryz.func198 (by kernel_rfl) (by kernel_rfl) (by kernel_rfl) (e := Extern.SlicesOverlaps.overlaps #[29, 29] #[4]) (by kernel_rfl),
      Lib.run_overlaps_apart w 29 4 66 Tryz.underlying29 3 Tryz.sizeOf66 ⟨xb, 0, none⟩ ⟨g, (i + m) * 3, none⟩ m vc lb cb hxg 66 66 cs.toArray.size cur.size (by simp [World.shape?, hx]) (by simp [World.shape?, hg]) (by omega) (frozen_of_blk hx _) (frozen_of_blk hx _)]
    rfl
  have hg1 := setRow_heap w.drew g cur (splice cur.toList ((i + m) * 3) (xs.drop (i * 3))).toArray 66 (0, 0) hg
  have hc1 : ∀ ty dc sc, (Builtin.copy_ #[29, 29] ty #[.slice (some ⟨g, (i + m) * 3, none⟩) (n + m - (i + m)) dc, .slice (some ⟨g, i * 3, none⟩) (n + m - i) sc]).run Tryz.prog w.drew = .ok (goInt ((n - i : Nat) : Int)) (w.drew.setRow g (splice cur.toList ((i + m) * 3) (xs.drop (i * 3))).toArray) := fun ty dc sc =>
    run_copy_wide (P := Tryz.prog) w.drew 29 29 ty 66 3 g ((i + m) * 3) (n + m - (i + m)) dc ⟨g, i * 3, none⟩ (n + m - i) sc (n - i) cur 66 (xs.drop (i * 3)) eTim.ht sTim hg (by simp only [Nat.min_def]; split <;> omega) hdl
      (fun j v hj => by
        have h1 : w.cell? ((⟨g, 0, none⟩ : Addr).add (i * 3 + j)) = some v := hown.cells rfl (i * 3 + j) v (by rw [List.getElem?_drop] at hj; exact hj)
        rw [add_plain] at h1 ⊢
        rw [Nat.zero_add] at h1
        exact h1) (by rw [hdl, hcsz]; omega) (fun u hu => h1x u (List.mem_of_mem_drop hu))
  have hxb := lt_of_blk hx
  have hx1 : (w.drew.setRow g (splice cur.toList ((i + m) * 3) (xs.drop (i * 3))).toArray).heap[xb]? = some (.cells cs.toArray 66 (0, 0)) := (setRow_other w.drew g xb _ hxg).trans hx
  have hbd : Below base w0 (w.drew.setRow g (splice cur.toList ((i + m) * 3) (xs.drop (i * 3))).toArray) := below_setRow (show Below base w0 w.drew from ⟨hB.os, hB.tape, hB.output, hB.size, hB.block⟩) hbg _
  generalize hWW : w.drew.setRow g (splice cur.toList ((i + m) * 3) (xs.drop (i * 3))).toArray = W1 at *
  have hsl : (splice cur.toList ((i + m) * 3) (xs.drop (i * 3))).length = cap * 3 := by rw [length_splice cur.toList ((i + m) * 3) (xs.drop (i * 3)) (by rw [hdl, Array.length_toList, hcsz]; omega), Array.length_toList, hcsz]
  have hc2 : ∀ ty dc, (Builtin.copy_ #[29, 29] ty #[.slice (some ⟨g, i * 3, none⟩) (n + m - i) dc, .slice (some ⟨xb, 0, none⟩) m vc]).run Tryz.prog W1 = .ok (goInt (m : Int)) (W1.setRow g (splice (splice cur.toList ((i + m) * 3) (xs.drop (i * 3))) (i * 3) cs).toArray) := fun ty dc => by
    have h := run_copy_wide (P := Tryz.prog) W1 29 29 ty 66 3 g (i * 3) (n + m - i) dc ⟨xb, 0, none⟩ m vc m (splice cur.toList ((i + m) * 3) (xs.drop (i * 3))).toArray 66 cs eTim.ht sTim hg1 (by simp only [Nat.min_def]; split <;> omega) hcs (by simpa using World.news_of_block (cs := cs.toArray) (t := 66) (fr := (0, 0)) hx1) (by simp only [List.size_toArray]; rw [hsl, hcs]; omega) h1c
    rw [List.toList_toArray] at h
    exact h
  have hg2 := setRow_heap W1 g _ (splice (splice cur.toList ((i + m) * 3) (xs.drop (i * 3))) (i * 3) cs).toArray 66 (0, 0) hg1
  have hb2 := below_setRow hbd hbg (splice (splice cur.toList ((i + m) * 3) (xs.drop (i * 3))) (i * 3) cs).toArray
  have hout : (W1.setRow g (splice (splice cur.toList ((i + m) * 3) (xs.drop (i * 3))) (i * 3) cs).toArray).ownsRow base 66 3 (.slice (some ⟨g, 0, none⟩) (n + m) cap) (n + m) (xs.take (i * 3) ++ cs ++ xs.drop (i * 3)) := by
    have htl : (xs.take (i * 3)).length = i * 3 := by rw [List.length_take, hxl]; omega
    have hl : (xs.take (i * 3) ++ cs ++ xs.drop (i * 3)).length = (n + m) * 3 := by rw [List.length_append, List.length_append, htl, hcs, hdl]; omega
    refine ⟨hl, .inr ⟨_, _, _, rfl, hbg, hg2, hcap, hcm, ?_, ?_⟩⟩
    · simp only [List.size_toArray]; rw [length_splice _ _ _ (by rw [hsl, hcs]; omega), hsl]
    · have h := ins_list2 (xs := xs) (cs := cs) (cur := cur.toList) (i := i * 3) (n := n * 3) (m * 3) htk (by rw [Array.length_toList, hcsz]; omega) (by omega) hcs
      rw [show i * 3 + m * 3 = (i + m) * 3 by omega, show n * 3 + m * 3 = (n + m) * 3 by omega] at h
      exact h
  generalize hWW2 : W1.setRow g (splice (splice cur.toList ((i + m) * 3) (xs.drop (i * 3))) (i * 3) cs).toArray = W2 at *
  have HB2 := Lib.hid hb2
  have HC1 := Lib.hid hc1
  have HC2 := Lib.hid hc2
  have HOV := Lib.hid hov
  have HOUT := Lib.hid hout
  have hck : i < cap := by omega
  have q1 : IntKind.i64.wrap ((n : Int) + m) = (n : Int) + m := by rw [IntKind.wrap_i64]; unfold maxLen at hcm; omega
  have q2 : IntKind.i64.wrap ((i : Int) + m) = (i : Int) + m := by rw [IntKind.wrap_i64]; unfold maxLen at hcm; omega
  have q5 : ((i : Int) == (n : Int)) = false := beq_f (by omega)
  have q6 : ((i : Int) + m).toNat = i + m := by omega
  have q7 : ((n : Int) + m).toNat = n + m := by omega
  have kb1 : (0 : Int) ≤ (i : Int) + (m : Int) := by omega
  have kb2 : ¬ (cap = i + m) := by omega
  have kb3 : (i : Int) ≤ (n : Int) + (m : Int) := by omega
  have kb4 : ¬ (cap = i) := by omega
  have kb6 : i ≤ n := by omega
  have hz1 : ¬ ((m : Int) = 0) := by omega
  clear hb2 hc1 hc2 hov hout hown hx h1c h1x hB hxl hcs hWW hWW2 hg hg1 hg2 hcsz htk hdl hxb hx1 hbd hsl
  unfold maxLen at hcm
  go_enter Tryz.func159, Tryz.ntmps159
  go_wp2_with (simp only [HOV.out])
  go_region_law (refine step_copy_runI rfl _ _ 29 29 rfl _ _ (by simp [Act.eval, Act.put]) (by simp [Act.eval, Act.put]) (HC1.out _ (cap - (i + m)) (cap - i)) ?_)
  go_wp2_with (with_reducible refine wpList_copy_runI _ rfl _ _ 29 29 rfl _ _ rfl rfl (HC2.out _ _) ?_)
  go_ret
  exact ⟨_, rfl, by simpa [List.append_assoc] using HOUT.out, HB2.out⟩
theorem ins_one_Tim (base : Nat) (v : Value) (n i xb : Nat) (xs cs : List Value) (w0 w : World) (hi : i ≤ n) (hown : w.ownsRow base 66 3 v n xs) (hx : w.heap[xb]? = some (.cells cs.toArray 66 (0, 0))) (hxv : ∀ g, v.ownBlock = some g → xb ≠ g) (hcs : cs.length = 3) (h1c : ∀ u ∈ cs, u.oneCell' = true) (h1x : ∀ u ∈ xs, u.oneCell' = true)
    (hB : Below base w0 w) (hbase : base ≤ w.heap.size) (hbig : (n + 1) * 24 ≤ 140737488355328) :
    Calls Tryz.prog 159 #[v, .int .i64 i, .slice (some ⟨xb, 0, none⟩) 1 1] w fun e w' => ∃ v', e = .returned v' ∧ w'.ownsRow base 66 3 v' (n + 1) (xs.take (i * 3) ++ cs ++ xs.drop (i * 3)) ∧ Below base w0 w' := by
  by_cases he : i = n
  · subst he
    have hxl := hown.1
    have h := ins_end_Tim base v i xb xs cs w0 w hown hx hcs h1c hB hbase hbig
    rw [List.take_of_length_le (by omega), List.drop_of_length_le (by omega), List.append_nil]
    exact h
  · have hlt : i < n := by omega
    have h2 := hown.2
    rcases h2 with ⟨_, hn0⟩ | ⟨g, cap, cur, rfl, hb, hh, hnc, hcm, _⟩
    · have := hown.1; rw [hn0] at this; simp at this; omega
    · by_cases hc : n + 1 ≤ cap
      · exact ins_room_Tim base g cap n i xb 1 1 xs cs w0 w hlt (by omega) hc hown hx (hxv g rfl) (by omega) h1c h1x hB
      · exact ins_grow_Tim base g cap n i xb 1 1 xs cs w0 w hlt (by omega) (by omega) hown hx (by omega) h1c h1x hB hbase hbig
end Go.Proofs.YtgpkmellpllmgaaGreat
/-
  fold.put of Timer. Printed by gfold.py.
-/
set_option linter.unusedVariables false
set_option linter.unusedSimpArgs false
namespace Go.Proofs.YtgpkmellpllmgaaGreat
open Go Go.RowKit Go.Proofs.Base
open Go.Sort (grow)
set_option maxRecDepth 100000 in
theorem ord_Tim (y x : ETim) (w : World) : Calls Tryz.prog 99 #[.agg #[.int .u64 y.token, .int .i64 y.node, .int .i64 y.due], .agg #[.int .u64 x.token, .int .i64 x.node, .int .i64 x.due]] w fun e w' => e = .returned (.int .i64 (cmpTim y x)) ∧ Below w.heap.size w w' := by
  have hB : Below w.heap.size w ((w.alloc (.cells #[.int .u64 y.token, .int .i64 y.node, .int .i64 y.due] 66)).alloc (.cells #[.int .u64 x.token, .int .i64 x.node, .int .i64 x.due] 66)) := below_alloc (below_alloc (Below.refl _ _) _) _
  have HB := Lib.hid hB
  clear hB
  go_enter Tryz.func99, Tryz.ntmps99
  go_wp2_with (go_at_call 100; refine (ahead_c _ _ _ _ _).mono ?_; rintro e w' ⟨rfl, hb⟩)
  go_ret
  exact ⟨rfl, below2 HB.out hb⟩
set_option maxRecDepth 100000 in
theorem put1_Tim (B1 B2 : Nat) (y x : ETim) (w : World) (h1 : w.cell? ⟨B1, 0, none⟩ = some (.func (.func 99) #[] #[])) (h2 : w.heap[B2]? = some (.cells #[.int .u64 x.token, .int .i64 x.node, .int .i64 x.due] 66 (0, 0))) :
    Calls Tryz.prog 157 (#[.agg #[.int .u64 y.token, .int .i64 y.node, .int .i64 y.due]] ++ #[.pointer (some ⟨B1, 0, none⟩), .pointer (some ⟨B2, 0, none⟩)]) w fun e w' => e = .returned (.bool (decide (cmpTim y x = 0))) ∧ Below w.heap.size w w' := by
  have hB : Below w.heap.size w (w.alloc (.cells #[.int .u64 y.token, .int .i64 y.node, .int .i64 y.due] 66)) := below_alloc (Below.refl _ _) _
  have hc := (hB.cell (p := ⟨B1, 0, none⟩) (World.block_lt_of_cell? w _ h1)).trans h1
  have hk := block_below hB h2
  have k0 := cell_of_blk hk 0
  have k1 := cell_of_blk hk 1
  have k2 := cell_of_blk hk 2
  have HB := Lib.hid hB
  obtain ⟨cc, hcc⟩ : ∃ cc, cc = cmpTim y x := ⟨_, rfl⟩
  have ho := fun w => ord_Tim y x w
  simp only [← hcc] at ho
  have HO := Lib.hid ho
  rw [← hcc]
  clear hB h1 h2 hk hcc ho
  go_enter Tryz.func157, Tryz.ntmps157
  go_wp2_with (go_at_call 99; refine (HO.out _).mono ?_; rintro e w' ⟨rfl, hb⟩)
  go_ret
  exact ⟨by first | rfl | (refine congrArg (fun b => Ending.returned (Value.bool b)) ?_; rw [Bool.eq_iff_iff]; simp), below2 HB.out hb⟩
set_option maxRecDepth 100000 in
theorem put2_Tim (B1 B2 : Nat) (y x : ETim) (w : World) (h1 : w.cell? ⟨B1, 0, none⟩ = some (.func (.func 99) #[] #[])) (h2 : w.heap[B2]? = some (.cells #[.int .u64 x.token, .int .i64 x.node, .int .i64 x.due] 66 (0, 0))) :
    Calls Tryz.prog 158 (#[.agg #[.int .u64 y.token, .int .i64 y.node, .int .i64 y.due]] ++ #[.pointer (some ⟨B1, 0, none⟩), .pointer (some ⟨B2, 0, none⟩)]) w fun e w' => e = .returned (.bool (decide (0 < cmpTim y x))) ∧ Below w.heap.size w w' := by
  have hB : Below w.heap.size w (w.alloc (.cells #[.int .u64 y.token, .int .i64 y.node, .int .i64 y.due] 66)) := below_alloc (Below.refl _ _) _
  have hc := (hB.cell (p := ⟨B1, 0, none⟩) (World.block_lt_of_cell? w _ h1)).trans h1
  have hk := block_below hB h2
  have k0 := cell_of_blk hk 0
  have k1 := cell_of_blk hk 1
  have k2 := cell_of_blk hk 2
  have HB := Lib.hid hB
  obtain ⟨cc, hcc⟩ : ∃ cc, cc = cmpTim y x := ⟨_, rfl⟩
  have ho := fun w => ord_Tim y x w
  simp only [← hcc] at ho
  have HO := Lib.hid ho
  rw [← hcc]
  clear hB h1 h2 hk hcc ho
  go_enter Tryz.func158, Tryz.ntmps158
  go_wp2_with (go_at_call 99; refine (HO.out _).mono ?_; rintro e w' ⟨rfl, hb⟩)
  go_ret
  exact ⟨by first | rfl | (refine congrArg (fun b => Ending.returned (Value.bool b)) ?_; rw [Bool.eq_iff_iff]; simp), below2 HB.out hb⟩
set_option maxRecDepth 100000 in
set_option maxHeartbeats 4000000 in
theorem put_Tim (A : Option Addr) (n c : Nat) (x : ETim) (l : List ETim) (w : World) (S : Nat → Prop) (hl : l.length = n) (hby : (n + 1) * 24 ≤ 140737488355328) (hr : Row w S 3 n (.slice A n c) (l.flatMap encTim)) :
    Calls Tryz.prog 98 #[.slice A n c, .agg #[.int .u64 x.token, .int .i64 x.node, .int .i64 x.due], .func (.func 99) #[] #[]] w fun e w' => ∃ A' c', e = .returned (.slice A' (putL cmpTim x l).length c') ∧ w'.ownsRow w.heap.size 66 3 (.slice A' (putL cmpTim x l).length c') (putL cmpTim x l).length ((putL cmpTim x l).flatMap encTim) ∧ Below w.heap.size w w' := by
  obtain ⟨N, hN⟩ : ∃ N, N = (w.alloc (.cells #[.int .u64 x.token, .int .i64 x.node, .int .i64 x.due] 66)).alloc (.cells #[.func (.func 99) #[] #[]] 135) := ⟨_, rfl⟩
  have b0 : N.heap[w.heap.size]? = some (.cells #[.int .u64 x.token, .int .i64 x.node, .int .i64 x.due] 66 (0, 0)) := by rw [hN]; exact blk_alloc (blk_new _) _
  have b1 : N.heap[w.heap.size + 1]? = some (.cells #[.func (.func 99) #[] #[]] 135 (0, 0)) := by rw [hN]; exact blk_new_of _ (by simp)
  have hB : Below w.heap.size w N := by rw [hN]; exact below_alloc (below_alloc (Below.refl _ _) _) _
  have hsz : N.heap.size = w.heap.size + 2 := by rw [hN]; simp
  have HN := Lib.hid hN
  have HB := Lib.hid hB
  have HSZ := Lib.hid hsz
  have HP1 : Hid (∀ W, Below N.heap.size N W → ∀ y ∈ l, Calls Tryz.prog 157 (#[.agg #[.int .u64 y.token, .int .i64 y.node, .int .i64 y.due]] ++ #[.pointer (some ⟨w.heap.size + 1, 0, none⟩), .pointer (some ⟨w.heap.size, 0, none⟩)]) W fun e w' => e = .returned (.bool (decide (cmpTim y x = 0))) ∧ Below W.heap.size W w') :=
    Lib.hid (fun W hW y _ => put1_Tim _ _ y x W (cell_of_blk (block_below hW b1) 0) (block_below hW b0))
  have HP2 : Hid (∀ W, Below N.heap.size N W → ∀ y ∈ l, Calls Tryz.prog 158 (#[.agg #[.int .u64 y.token, .int .i64 y.node, .int .i64 y.due]] ++ #[.pointer (some ⟨w.heap.size + 1, 0, none⟩), .pointer (some ⟨w.heap.size, 0, none⟩)]) W fun e w' => e = .returned (.bool (decide (0 < cmpTim y x))) ∧ Below W.heap.size W w') :=
    Lib.hid (fun W hW y _ => put2_Tim _ _ y x W (cell_of_blk (block_below hW b1) 0) (block_below hW b0))
  have HCL := Lib.hid (clone_Tim A n c l N S hl (by omega) (hr.below (hB)))
  have e1 : ∀ args w, (callFunc 157 args).run Tryz.prog w = .ok (.enter 157 args) w := enters_of Tryz.func157 (by kernel_rfl) rfl
  have e2 : ∀ args w, (callFunc 158 args).run Tryz.prog w = .ok (.enter 158 args) w := enters_of Tryz.func158 (by kernel_rfl) rfl
  have E1 := Lib.hid e1
  have E2 := Lib.hid e2
  have HK := Lib.hid b0
  have HL := Lib.hid hl
  have HBY := Lib.hid hby
  obtain ⟨A0, c0, he0, hnc0, hcm0⟩ := hr.open_
  injection he0 with q1 _ q3
  subst q1 q3
  clear hN b0 b1 hB hr hsz e1 e2
  have HPL : Hid (putL cmpTim x l = if 0 ≤ idxP (fun y => decide (cmpTim y x = 0)) l then l.set (idxP (fun y => decide (cmpTim y x = 0)) l).toNat x else l.take (spotL cmpTim x l) ++ x :: l.drop (spotL cmpTim x l)) := Lib.hid rfl
  generalize putL cmpTim x l = L at *
  have hi1 := idxP_spec (fun y => decide (cmpTim y x = 0)) l
  have hi2 := idxP_spec (fun y => decide (0 < cmpTim y x)) l
  have HSP : Hid (spotL cmpTim x l = if idxP (fun y => decide (0 < cmpTim y x)) l < 0 then l.length else (idxP (fun y => decide (0 < cmpTim y x)) l).toNat) := Lib.hid rfl
  rcases hi1 with ⟨h1, _⟩ | ⟨j, hj, h1, -, -⟩
  · -- a new one
    obtain ⟨sp, hsp⟩ : ∃ sp, sp = spotL cmpTim x l := ⟨_, rfl⟩
    have hLe : Hid (L = l.take sp ++ x :: l.drop sp) := Lib.hid (by rw [HPL.out, h1, if_neg (by decide), hsp])
    have hspn : sp ≤ n := by rw [hsp, ← hl]; exact spotL_le _ _ _
    have HLe := hLe
    have hLL : L.length = n + 1 := by
      rw [hLe.out, List.length_append, List.length_cons, List.length_take, List.length_drop, hl]; omega
    have HINS : Hid (∀ (w5 : World) A5 c5, w5.ownsRow N.heap.size 66 3 (.slice A5 n c5) n (l.flatMap encTim) → Below N.heap.size N w5 → Calls Tryz.prog 159 #[.slice A5 n c5, .int .i64 sp, .slice (some ⟨w5.heap.size, 0, none⟩) 1 1] (w5.alloc (.cells #[.int .u64 x.token, .int .i64 x.node, .int .i64 x.due] 66)) fun e w' => ∃ A' c', e = .returned (.slice A' (n + 1) c') ∧ w'.ownsRow w.heap.size 66 3 (.slice A' (n + 1) c') (n + 1) (L.flatMap encTim) ∧ Below w.heap.size w w') := Lib.hid (fun w5 A5 c5 hown hb5 => by
      have hb5s := hb5.size
      have hNs := HSZ.out
      refine (ins_one_Tim w.heap.size _ n sp w5.heap.size (l.flatMap encTim) (encTim x) w (w5.alloc (.cells #[.int .u64 x.token, .int .i64 x.node, .int .i64 x.due] 66)) hspn ((own_base hown (by omega)).alloc _) (blk_new _) (fun g hg => by have := (hown.lt g hg).2; omega) rfl (oneTim x) (flat_one oneTim l) (below_alloc (below2 HB.out hb5) _) (by simp; omega) HBY.out).mono ?_
      rintro e w6 ⟨v6, rfl, hown6, hb6⟩
      rw [flat_ins (enc := encTim) lenTim, ← HLe.out] at hown6
      obtain ⟨A6, c6, rfl, _, _⟩ := (Row.of_own hown6).open_
      exact ⟨A6, c6, rfl, hown6, hb6⟩)
    rw [hLL]
    clear HPL hLe
    rcases hi2 with ⟨h2, _⟩ | ⟨j, hj, h2, -, -⟩
    · have hspv : sp = n := by rw [hsp, HSP.out, h2, if_pos (by decide), hl]
      subst hspv
      clear hsp HSP hLL
      go_enter Tryz.func98, Tryz.ntmps98
      go_wp2_with fail
      rw [show (w.alloc (.cells #[.int .u64 x.token, .int .i64 x.node, .int .i64 x.due] 66)).alloc (.cells #[.func (.func 99) #[] #[]] 135) = N from HN.out.symm]
      go_wp2_with (go_at_call 26; refine HCL.out.mono ?_; rintro e w1 ⟨A1, c1, rfl, hown, hb⟩; have HO1 := Lib.hid hown; have HB1 := Lib.hid hb; obtain ⟨_, _, _, hnc1, hcm1⟩ := (Row.of_own hown).open_; clear hown hb)
      refine (idx_Tim _ _ _ 157 _ l _ N _ _ E1.out HL.out (Row.of_own HO1.out) HB1.out HP1.out).mono ?_
      rintro e w2 ⟨rfl, hb⟩
      rw [h1]
      have HB2 := Lib.hid (below2 HB1.out hb)
      have HO2 := Lib.hid (own_mut HO1.out (Mut.of_below hb (fun _ => False)) (fun _ _ h => h))
      clear hb
      go_wp2_with fail
      refine (idx_Tim _ _ _ 158 _ l _ N _ _ E2.out HL.out (Row.of_own HO2.out) HB2.out HP2.out).mono ?_
      rintro e w3 ⟨rfl, hb⟩
      rw [h2]
      have HB3 := Lib.hid (below2 HB2.out hb)
      have HO3 := Lib.hid (own_mut HO2.out (Mut.of_below hb (fun _ => False)) (fun _ _ h => h))
      have hk3 := block_below HB3.out HK.out
      have k0 := cell_of_blk hk3 0; have k1 := cell_of_blk hk3 1; have k2 := cell_of_blk hk3 2
      clear hb hk3
      go_wp2_with (go_at_call 159; refine (HINS.out _ _ _ HO3.out HB3.out).mono ?_; rintro e w4 ⟨A4, c4, rfl, hown, hb⟩; have HO4 := Lib.hid hown; have HB4 := Lib.hid hb; clear hown hb)
      go_ret
      exact ⟨A4, c4, rfl, HO4.out, HB4.out⟩
    · have hspv : sp = j := by rw [hsp, HSP.out, h2, if_neg (by omega)]; simp
      subst hspv
      have hj0 : ¬ ((sp : Int) < 0) := by omega
      clear hsp HSP hLL
      go_enter Tryz.func98, Tryz.ntmps98
      go_wp2_with fail
      rw [show (w.alloc (.cells #[.int .u64 x.token, .int .i64 x.node, .int .i64 x.due] 66)).alloc (.cells #[.func (.func 99) #[] #[]] 135) = N from HN.out.symm]
      go_wp2_with (go_at_call 26; refine HCL.out.mono ?_; rintro e w1 ⟨A1, c1, rfl, hown, hb⟩; have HO1 := Lib.hid hown; have HB1 := Lib.hid hb; obtain ⟨_, _, _, hnc1, hcm1⟩ := (Row.of_own hown).open_; clear hown hb)
      refine (idx_Tim _ _ _ 157 _ l _ N _ _ E1.out HL.out (Row.of_own HO1.out) HB1.out HP1.out).mono ?_
      rintro e w2 ⟨rfl, hb⟩
      rw [h1]
      have HB2 := Lib.hid (below2 HB1.out hb)
      have HO2 := Lib.hid (own_mut HO1.out (Mut.of_below hb (fun _ => False)) (fun _ _ h => h))
      clear hb
      go_wp2_with fail
      refine (idx_Tim _ _ _ 158 _ l _ N _ _ E2.out HL.out (Row.of_own HO2.out) HB2.out HP2.out).mono ?_
      rintro e w3 ⟨rfl, hb⟩
      rw [h2]
      have HB3 := Lib.hid (below2 HB2.out hb)
      have HO3 := Lib.hid (own_mut HO2.out (Mut.of_below hb (fun _ => False)) (fun _ _ h => h))
      have hk3 := block_below HB3.out HK.out
      have k0 := cell_of_blk hk3 0; have k1 := cell_of_blk hk3 1; have k2 := cell_of_blk hk3 2
      clear hb hk3
      go_wp2_with (go_at_call 159; refine (HINS.out _ _ _ HO3.out HB3.out).mono ?_; rintro e w4 ⟨A4, c4, rfl, hown, hb⟩; have HO4 := Lib.hid hown; have HB4 := Lib.hid hb; clear hown hb)
      go_ret
      exact ⟨A4, c4, rfl, HO4.out, HB4.out⟩
  · -- one that is there
    have hLe : Hid (L = l.set j x) := Lib.hid (by rw [HPL.out, h1, if_pos (by omega)]; simp)
    have hLL : L.length = n := by rw [hLe.out, List.length_set, hl]
    have hjn : j < n := by omega
    have hj0 : (0 : Int) ≤ (j : Int) := by omega
    have HFS := Lib.hid (flat_splice (enc := encTim) lenTim hj x)
    have HVL : Hid ((l.flatMap encTim).length = n * 3) := Lib.hid (by rw [flat_len (enc := encTim) lenTim, hl])
    rw [hLL]
    clear HPL hi2 HSP hj HP2
    go_enter Tryz.func98, Tryz.ntmps98
    go_wp2_with fail
    rw [show (w.alloc (.cells #[.int .u64 x.token, .int .i64 x.node, .int .i64 x.due] 66)).alloc (.cells #[.func (.func 99) #[] #[]] 135) = N from HN.out.symm]
    go_wp2_with (go_at_call 26; refine HCL.out.mono ?_; rintro e w1 ⟨A1, c1, rfl, hown, hb⟩; have HO1 := Lib.hid hown; have HB1 := Lib.hid hb; obtain ⟨_, _, _, hnc1, hcm1⟩ := (Row.of_own hown).open_; clear hown hb)
    refine (idx_Tim _ _ _ 157 _ l _ N _ _ E1.out HL.out (Row.of_own HO1.out) HB1.out HP1.out).mono ?_
    rintro e w2 ⟨rfl, hb⟩
    rw [h1]
    have HB2 := Lib.hid (below2 HB1.out hb)
    have HO2 := Lib.hid (own_mut HO1.out (Mut.of_below hb (fun _ => False)) (fun _ _ h => h))
    have hk3 := block_below HB2.out HK.out
    have k0 := cell_of_blk hk3 0; have k1 := cell_of_blk hk3 1; have k2 := cell_of_blk hk3 2
    clear hb hk3
    obtain ⟨g, cap, cur, hv, hbg, hhg, hnc5, hcm5, hcs5, htk5⟩ := own_some HO2.out (by omega)
    injection hv with hv1 hv2 hv3
    subst hv1 hv3
    obtain ⟨u0, hu0⟩ : ∃ u, cur[j * 3]? = some u := ⟨_, Array.getElem?_eq_getElem (by omega)⟩; have j0 := (cell_of_blk hhg (j * 3)).trans hu0; have f0 := frozen_of_blk hhg (j * 3); clear hu0; obtain ⟨u1, hu1⟩ : ∃ u, cur[j * 3 + 1]? = some u := ⟨_, Array.getElem?_eq_getElem (by omega)⟩; have j1 := (cell_of_blk hhg (j * 3 + 1)).trans hu1; have f1 := frozen_of_blk hhg (j * 3 + 1); clear hu1; obtain ⟨u2, hu2⟩ : ∃ u, cur[j * 3 + 2]? = some u := ⟨_, Array.getElem?_eq_getElem (by omega)⟩; have j2 := (cell_of_blk hhg (j * 3 + 2)).trans hu2; have f2 := frozen_of_blk hhg (j * 3 + 2); clear hu2
    have HG := Lib.hid hhg
    have HTK := Lib.hid htk5
    have HCS := Lib.hid hcs5
    have HBG := Lib.hid hbg
    have HCM := Lib.hid hcm5
    clear hhg htk5 hcs5 hbg hcm5
    go_wp2_with fail
    go_ret
    have hg2 := set_blk (o := j * 3 + 2) (set_blk (o := j * 3 + 1) (set_blk (o := j * 3) (HG.out) (.int .u64 x.token)) (.int .i64 x.node)) (.int .i64 x.due)
    have hbg := HBG.out
    have hNs := HSZ.out
    refine ⟨_, _, rfl, ?_, ?_⟩
    · refine ⟨by rw [flat_len (enc := encTim) lenTim, hLL], .inr ⟨g, _, _, rfl, by omega, hg2, hnc5, HCM.out, by simp only [Array.size_setIfInBounds]; have := HCS.out; omega, ?_⟩⟩
      rw [hLe.out, ← HFS.out, ← setAll_splice _ _ _ (by rw [HVL.out, lenTim]; omega), ← HTK.out]
      simp only [Array.toList_setIfInBounds, List.take_set]
      rfl
    · exact ((((below2 HB.out HB2.out)).setCell (p := ⟨g, j * 3, none⟩) (by show _ ≤ g; omega) _).setCell (p := ⟨g, j * 3 + 1, none⟩) (by show _ ≤ g; omega) _).setCell (p := ⟨g, j * 3 + 2, none⟩) (by show _ ≤ g; omega) _
end Go.Proofs.YtgpkmellpllmgaaGreat
/-
  Lists of Sub: searched, copied. Printed by gfold.py.
-/
set_option linter.unusedVariables false
set_option linter.unusedSimpArgs false
namespace Go.Proofs.YtgpkmellpllmgaaGreat
open Go Go.RowKit Go.Proofs.Base
open Go.Sort (grow)
set_option maxRecDepth 100000 in
set_option maxHeartbeats 2000000 in
theorem clone_Sub (A : Option Addr) (n c : Nat) (l : List ESub) (w : World) (S : Nat → Prop) (hl : l.length = n) (hby : n * 64 ≤ 140737488355328) (hr : Row w S 6 n (.slice A n c) (l.flatMap encSub)) :
    Calls Tryz.prog 27 #[.slice A n c] w fun e w' => ∃ A' c', e = .returned (.slice A' n c') ∧ w'.ownsRow w.heap.size 73 6 (.slice A' n c') n (l.flatMap encSub) ∧ Below w.heap.size w w' := by
  obtain ⟨i0, z, hi0, hz0, hz1, hz2, hzc⟩ := eSub.hi
  have q : ∀ (w : World) (a : Option Addr) (n c n' c' : Nat), (binOp .eql 30 (.slice a n c) (.slice none n' c')).run Tryz.prog w = .ok (.bool a.isNone) w := fun w a n c n' c' => Lib.run_eql_slice_nil w _ _ a n c n' c' Tryz.underlying30
  obtain ⟨A', c', he, hnc, hcm, hlen, hnone, hsome⟩ := hr
  injection he with e1 _ e3
  subst e1 e3
  cases A with
  | none =>
    obtain ⟨rfl, rfl⟩ := hnone rfl
    obtain rfl : l = [] := List.eq_nil_of_length_eq_zero hl
    clear hsome hlen
    go_enter Tryz.func27, Tryz.ntmps27
    go_wp2
    go_ret
    exact ⟨none, 0, rfl, own_nil _ _ _ _, Below.refl _ _⟩
  | some ad =>
    have HC : Hid (∀ j u, (l.flatMap encSub)[j]? = some u → w.cell? (ad.add j) = some u) := Lib.hid (fun j u hu => by
      rcases Nat.eq_zero_or_pos n with h0 | h0
      · subst h0
        obtain rfl : l = [] := List.eq_nil_of_length_eq_zero hl
        simp at hu
      · obtain ⟨b, o, hA, _, _, hc⟩ := hsome h0
        injection hA with hA
        subst hA
        rw [add_plain]
        exact hc j u hu)
    have HVL := Lib.hid hlen
    have H1 := Lib.hid (flat_one (enc := encSub) oneSub l)
    clear hsome hlen hnone hl
    go_enter Tryz.func27, Tryz.ntmps27
    go_wp2_with (at_builtin; refine wpList_append_own _ rfl _ _ 30 rfl w.heap.size 73 i0 z 6 64 Tryz.underlying30 hi0 hz0 hz1 hz2 hzc (by omega) _ _ _ rfl (World.ownsRow_made w #[] 0 (Nat.le_refl _) (Nat.zero_le _) (by simp)) ad n c (l.flatMap encSub) rfl HVL.out (fun j u hj => Lib.cell?_alloc_some _ (HC.out j u hj)) H1.out (by simp only [maxLen]; omega) (by omega) (by simp) ?_; intro v' w1 hown hgrow hnil)
    go_ret
    have hown' : w1.ownsRow w.heap.size 73 6 v' n (l.flatMap encSub) := by simpa using hown
    obtain ⟨A2, c2, rfl, _, _⟩ := (Row.of_own hown').open_
    exact ⟨A2, c2, rfl, hown', ((Below.refl _ w).alloc (Nat.le_refl _) _).grown hgrow (by simp) (by intro k hk; injection hk with hk; exact Nat.le_of_eq hk)⟩
set_option maxRecDepth 100000 in
set_option maxHeartbeats 1000000 in
theorem idx_Sub (A : Option Addr) (n c g : Nat) (lb : Array Value) (l : List ESub) (p : ESub → Bool) (w0 w : World) (S : Nat → Prop) (eg : ∀ args w, (callFunc g args).run Tryz.prog w = .ok (.enter g args) w) (hl : l.length = n) (hr : Row w S 6 n (.slice A n c) (l.flatMap encSub)) (h0 : Below w0.heap.size w0 w)
    (hp : ∀ W, Below w0.heap.size w0 W → ∀ x ∈ l, Calls Tryz.prog g (#[.agg #[.int .u64 x.token, .int .u64 x.inst, .int .i64 x.node, .string x.name, .string x.key, .bool x.opn]] ++ lb) W fun e w' => e = .returned (.bool (p x)) ∧ Below W.heap.size W w') :
    Calls Tryz.prog 162 #[.slice A n c, .func (.func g) #[] lb] w fun e w' => e = .returned (.int .i64 (idxP p l)) ∧ Below w.heap.size w w' := by
  obtain ⟨A', c', he, hnc, hcm⟩ := hr.open_
  injection he with e1 _ e3
  subst e1 e3
  have HR := Lib.hid hr
  have HL := Lib.hid hl
  have H0 := Lib.hid h0
  have HP := Lib.hid hp
  clear hr hl h0 hp
  go_enter Tryz.func162, Tryz.ntmps162
  go_wp2_with fail
  go_loopw [5, 8] (fun _ i wr => ∃ k : Nat, k ≤ n ∧ i = .int .i64 k ∧ Hid (idxP p l = idxGoP p (l.drop k) k) ∧ Below w.heap.size w wr) (fun _ i _ => n - (intOf i).toNat)
  case atStart => exact ⟨0, by omega, rfl, Lib.hid rfl, Below.refl _ _⟩
  case round =>
    obtain ⟨k, hk, rfl, HK, hbl⟩ := hrel
    have HBL := Lib.hid hbl
    by_cases hkn : k < n
    · have hk1 : k < l.length := by rw [HL.out]; exact hkn
      obtain ⟨b, o, rfl, _, hlt, hc⟩ := HR.out.at_ (by omega)
      have c0 : wr.cell? ⟨b, o + k * 6, none⟩ = some (.int .u64 l[k].token) := (hbl.cell (p := ⟨b, o + k * 6, none⟩) hlt).trans (by simpa using hc k 0 _ ((flat_at (enc := encSub) lenSub hk1 0 (by decide)).trans rfl))
      have c1 : wr.cell? ⟨b, o + k * 6 + 1, none⟩ = some (.int .u64 l[k].inst) := (hbl.cell (p := ⟨b, o + k * 6 + 1, none⟩) hlt).trans (by simpa using hc k 1 _ ((flat_at (enc := encSub) lenSub hk1 1 (by decide)).trans rfl))
      have c2 : wr.cell? ⟨b, o + k * 6 + 2, none⟩ = some (.int .i64 l[k].node) := (hbl.cell (p := ⟨b, o + k * 6 + 2, none⟩) hlt).trans (by simpa using hc k 2 _ ((flat_at (enc := encSub) lenSub hk1 2 (by decide)).trans rfl))
      have c3 : wr.cell? ⟨b, o + k * 6 + 3, none⟩ = some (.string l[k].name) := (hbl.cell (p := ⟨b, o + k * 6 + 3, none⟩) hlt).trans (by simpa using hc k 3 _ ((flat_at (enc := encSub) lenSub hk1 3 (by decide)).trans rfl))
      have c4 : wr.cell? ⟨b, o + k * 6 + 4, none⟩ = some (.string l[k].key) := (hbl.cell (p := ⟨b, o + k * 6 + 4, none⟩) hlt).trans (by simpa using hc k 4 _ ((flat_at (enc := encSub) lenSub hk1 4 (by decide)).trans rfl))
      have c5 : wr.cell? ⟨b, o + k * 6 + 5, none⟩ = some (.bool l[k].opn) := (hbl.cell (p := ⟨b, o + k * 6 + 5, none⟩) hlt).trans (by simpa using hc k 5 _ ((flat_at (enc := encSub) lenSub hk1 5 (by decide)).trans rfl))
      have hcall := HP.out wr (below2 H0.out hbl) l[k] (List.getElem_mem hk1)
      have hq := HK.out
      rw [List.drop_eq_getElem_cons hk1] at hq
      clear hc
      generalize l[k] = x at *
      have HQ := Lib.hid hq
      clear hq hbl HK
      by_cases hx : p x = true
      · rw [hx] at hcall
        have HX := Lib.hid hx
        clear hx
        go_wp2_with (go_at_fn g; refine hcall.mono ?_; rintro e w1 ⟨rfl, hb1⟩)
        go_ret
        refine ⟨?_, below2 HBL.out hb1⟩
        have e2 : idxGoP p (x :: l.drop (k + 1)) k = k := by show (if _ then _ else _) = _; rw [if_pos HX.out]
        rw [HQ.out, e2]; rfl
      · have hx2 : p x = false := by simpa using hx
        rw [hx2] at hcall
        have HQ2 : Hid (idxP p l = idxGoP p (l.drop (k + 1)) (k + 1)) := Lib.hid (by rw [HQ.out]; show (if _ then _ else _) = _; rw [if_neg hx])
        clear hx hx2
        go_wp2_with (go_at_fn g; refine hcall.mono ?_; rintro e w1 ⟨rfl, hb1⟩)
        go_roundw
        case rel => exact ⟨k + 1, by omega, by go_num, HQ2, below2 HBL.out hb1⟩
        case measure => simp [intOf]; omega
    · have HQ : Hid (idxP p l = -1) := Lib.hid (by rw [HK.out, List.drop_eq_nil_of_le (by rw [HL.out]; omega)]; rfl)
      clear HK
      go_wp2_with fail
      go_ret
      exact ⟨by rw [HQ.out]; rfl, hbl⟩
end Go.Proofs.YtgpkmellpllmgaaGreat
/-
  slices.Insert of one Sub. Printed by gfold.py out of XIns.
-/
set_option linter.unusedVariables false
set_option linter.unusedSimpArgs false
namespace Go.Proofs.YtgpkmellpllmgaaGreat
open Go Go.RowKit Go.Proofs.Base
set_option maxRecDepth 100000 in
set_option maxHeartbeats 2000000 in
theorem ins_end_Sub (base : Nat) (v : Value) (n xb : Nat) (xs cs : List Value) (w0 w : World) (hown : w.ownsRow base 73 6 v n xs) (hx : w.heap[xb]? = some (.cells cs.toArray 73 (0, 0))) (hcs : cs.length = 6) (h1c : ∀ u ∈ cs, u.oneCell' = true)
    (hB : Below base w0 w) (hbase : base ≤ w.heap.size) (hbig : (n + 1) * 64 ≤ 140737488355328) :
    Calls Tryz.prog 165 #[v, .int .i64 n, .slice (some ⟨xb, 0, none⟩) 1 1] w fun e w' => ∃ v', e = .returned v' ∧ w'.ownsRow base 73 6 v' (n + 1) (xs ++ cs) ∧ Below base w0 w' := by
  obtain ⟨i0, z, hi, hz0, hz1, hz2, hzc⟩ := eSub.hi
  have HO := Lib.hid hown
  have HX := Lib.hid (World.news_of_block (cs := cs.toArray) (t := 73) (fr := (0, 0)) hx)
  have HCS := Lib.hid hcs
  have H1C := Lib.hid h1c
  have HB := Lib.hid hB
  have hvn : ∃ A c, v = .slice A n c ∧ n ≤ c ∧ c ≤ 9223372036854775807 := by
    obtain ⟨_, h2⟩ := id hown
    have hl0 := hown.1
    clear hown HO
    rcases h2 with ⟨rfl, hn0⟩ | ⟨g, cap, cur, rfl, hb, hh, hnc, hcm, _⟩
    · obtain rfl : n = 0 := by rw [hn0] at hl0; simp at hl0; omega
      exact ⟨none, 0, rfl, Nat.le_refl _, by omega⟩
    · exact ⟨_, _, rfl, hnc, by simpa [maxLen] using hcm⟩
  obtain ⟨A, c, rfl, hnc, hc⟩ := hvn
  clear hown hx hcs h1c hB
  go_enter Tryz.func165, Tryz.ntmps165
  go_wp2_with (at_builtin; refine wpList_append_own_at _ rfl _ _ 30 rfl base 73 i0 z 6 64 eSub.ht hi hz0 hz1 hz2 hzc (by omega) _ n xs rfl HO.out ⟨xb, 0, none⟩ 1 1 cs rfl (by rw [HCS.out]) (by simpa using HX.out) H1C.out (by simp only [maxLen]; omega) hbig hbase ?_; intro v1 w1 hown1 hg1 _ _)
  all_goals (go_ret; exact ⟨v1, rfl, hown1, HB.out.grown hg1 hbase (fun k hk => (HO.out.lt k hk).1)⟩)
theorem zeros_len_Sub (z : Value) (m : Nat) (hz : z.cells.size = 6) : (Builtin.zeroCells z.cells m).toList.length = m * 6 := by
  rw [Array.length_toList, size_zeroCells, hz]
set_option maxRecDepth 100000 in
set_option maxHeartbeats 4000000 in
theorem ins_grow_Sub (base g cap n i xb m vc : Nat) (xs cs : List Value) (w0 w : World) (hi : i < n) (hm0 : 0 < m) (hcap : cap < n + m) (hown : w.ownsRow base 73 6 (.slice (some ⟨g, 0, none⟩) n cap) n xs) (hx : w.heap[xb]? = some (.cells cs.toArray 73 (0, 0))) (hcs : cs.length = m * 6) (h1c : ∀ u ∈ cs, u.oneCell' = true) (h1x : ∀ u ∈ xs, u.oneCell' = true)
    (hB : Below base w0 w) (hbase : base ≤ w.heap.size) (hbig : (n + m) * 64 ≤ 140737488355328) :
    Calls Tryz.prog 165 #[.slice (some ⟨g, 0, none⟩) n cap, .int .i64 i, .slice (some ⟨xb, 0, none⟩) m vc] w fun e w' => ∃ v', e = .returned v' ∧ w'.ownsRow base 73 6 v' (n + m) (xs.take (i * 6) ++ cs ++ xs.drop (i * 6)) ∧ Below base w0 w' := by
  obtain ⟨i0, z, hi0, hz0, hz1, hz2, hzc⟩ := eSub.hi
  have hnc : n ≤ cap := by
    rcases hown.2 with ⟨h, _⟩ | ⟨g', cap', cur, he, _, _, hnc, _⟩
    · cases h
    · injection he with _ _ e3; omega
  have hxl := hown.1
  have hgr : ∀ ty, (Builtin.append_ #[30, 3] ty #[.slice (some ⟨g, 0, none⟩) i cap, .int .i64 ((n + m - i : Nat) : Int)]).run Tryz.prog w = _ := fun ty =>
    run_append_zeros_grows w base 30 3 ty 73 i0 z 6 64 eSub.ht Tryz.underlying3 hi0 hz0 hz1 hz2 hzc (by omega) (by omega) g i cap (xs.take (i * 6)) (own_take hown (Nat.le_of_lt hi)) .i64 (n + m - i) (by omega) (by omega) (by rw [show i + (n + m - i) = n + m by omega]; exact hbig) hbase
  rw [show i + (n + m - i) = n + m by omega] at hgr
  have hge := grownCap_ge w (n + m) cap 73
  have hcm : grownCap w (n + m) cap 73 ≤ maxLen := grownCap_le_maxLen w (n + m) cap 73 (by simp only [maxLen]; omega)
  generalize grownCap w (n + m) cap 73 = k at *
  generalize hCUR : (xs.take (i * 6)).toArray ++ Builtin.zeroCells z.cells (n + m - i) ++ Builtin.zeroCells z.cells (k - (n + m)) = CUR at hgr
  have hCl : CUR.toList = xs.take (i * 6) ++ (Builtin.zeroCells z.cells (n + m - i)).toList ++ (Builtin.zeroCells z.cells (k - (n + m))).toList := by rw [← hCUR]; simp
  have htl : (xs.take (i * 6)).length = i * 6 := by rw [List.length_take, hxl]; omega
  have hdl : (xs.drop (i * 6)).length = (n - i) * 6 := by rw [List.length_drop, hxl]; omega
  have hCs : CUR.size = k * 6 := by
    rw [← Array.length_toList, hCl, List.length_append, List.length_append, htl, zeros_len_Sub z _ hzc, zeros_len_Sub z _ hzc]; omega
  have hW1 : (w.drew.alloc (.cells CUR 73)).heap[w.heap.size]? = some (.cells CUR 73 (0, 0)) := heap_alloc_new w.drew _
  have hb1 : Below base w0 (w.drew.alloc (.cells CUR 73)) := (show Below base w0 w.drew from ⟨hB.os, hB.tape, hB.output, hB.size, hB.block⟩).alloc hbase _
  have hxb := lt_of_blk hx
  have hx1 : (w.drew.alloc (.cells CUR 73)).heap[xb]? = some (.cells cs.toArray 73 (0, 0)) := (heap_alloc_old w.drew _ hxb).trans hx
  generalize hWW : w.drew.alloc (.cells CUR 73) = W1 at *
  have hc1 : ∀ ty dc, (Builtin.copy_ #[30, 30] ty #[.slice (some ⟨w.heap.size, i * 6, none⟩) (n + m - i) dc, .slice (some ⟨xb, 0, none⟩) m vc]).run Tryz.prog W1 = .ok (goInt (m : Int)) (W1.setRow w.heap.size (splice CUR.toList (i * 6) cs).toArray) := fun ty dc =>
    run_copy_wide W1 _ _ ty 73 6 w.heap.size (i * 6) (n + m - i) dc ⟨xb, 0, none⟩ m vc m CUR 73 cs eSub.ht sSub hW1 (by simp only [Nat.min_def]; split <;> omega) (by omega) (by simpa using World.news_of_block (cs := cs.toArray) (t := 73) (fr := (0, 0)) hx1) (by omega) h1c
  have hW2 := setRow_heap W1 w.heap.size CUR (splice CUR.toList (i * 6) cs).toArray 73 (0, 0) hW1
  have hb2 : Below base w0 (W1.setRow w.heap.size (splice CUR.toList (i * 6) cs).toArray) := below_setRow hb1 hbase _
  have hg2 : ∀ j v, (xs.drop (i * 6))[j]? = some v → (W1.setRow w.heap.size (splice CUR.toList (i * 6) cs).toArray).cell? ((⟨g, i * 6, none⟩ : Addr).add j) = some v := by
    intro j v hj
    have hglt := (hown.lt g rfl).2
    have h1 : w.cell? ((⟨g, 0, none⟩ : Addr).add (i * 6 + j)) = some v := hown.cells rfl (i * 6 + j) v (by rw [List.getElem?_drop] at hj; exact hj)
    rw [add_plain] at h1 ⊢
    rw [Nat.zero_add] at h1
    have h2 : (W1.setRow w.heap.size (splice CUR.toList (i * 6) cs).toArray).heap[g]? = w.heap[g]? := by
      rw [setRow_other _ _ _ _ (by omega), ← hWW]
      exact heap_alloc_old w.drew _ hglt
    exact (World.cell?_of_block (w := w) (a := ⟨g, i * 6 + j, none⟩) h2).trans h1
  generalize hW3 : W1.setRow w.heap.size (splice CUR.toList (i * 6) cs).toArray = W2 at *
  have hsl : (splice CUR.toList (i * 6) cs).length = k * 6 := by rw [length_splice CUR.toList (i * 6) cs (by rw [hcs, Array.length_toList, hCs]; omega), Array.length_toList, hCs]
  have hc2 : ∀ W : World, (∀ b, W.heap[b]? = W2.heap[b]?) → (∀ x, W.cell? x = W2.cell? x) → ∀ ty dc sc, (Builtin.copy_ #[30, 30] ty #[.slice (some ⟨w.heap.size, (i + m) * 6, none⟩) (n + m - (i + m)) dc, .slice (some ⟨g, i * 6, none⟩) (n - i) sc]).run Tryz.prog W = .ok (goInt ((n - i : Nat) : Int)) (W.setRow w.heap.size (splice (splice CUR.toList (i * 6) cs) ((i + m) * 6) (xs.drop (i * 6))).toArray) := fun W hWb hWc ty dc sc => by
    have h := run_copy_wide (P := Tryz.prog) W 30 30 ty 73 6 w.heap.size ((i + m) * 6) (n + m - (i + m)) dc ⟨g, i * 6, none⟩ (n - i) sc (n - i) (splice CUR.toList (i * 6) cs).toArray 73 (xs.drop (i * 6)) eSub.ht sSub ((hWb _).trans hW2) (by simp only [Nat.min_def]; split <;> omega) hdl (fun j v hj => (hWc _).trans (hg2 j v hj)) (by simp only [List.size_toArray]; rw [hsl, hdl]; omega) (fun u hu => h1x u (List.mem_of_mem_drop hu))
    rw [List.toList_toArray] at h
    exact h
  have hfin : (splice (splice CUR.toList (i * 6) cs) ((i + m) * 6) (xs.drop (i * 6))) = xs.take (i * 6) ++ cs ++ xs.drop (i * 6) ++ (Builtin.zeroCells z.cells (k - (n + m))).toList := by
    rw [hCl, show (i + m) * 6 = i * 6 + m * 6 by omega]
    exact ins_list (n := n * 6) (m * 6) hxl (by omega) hcs (by rw [zeros_len_Sub z _ hzc]; omega) _
  have hout : ∀ W : World, W.heap[w.heap.size]? = some (.cells (splice (splice CUR.toList (i * 6) cs) ((i + m) * 6) (xs.drop (i * 6))).toArray 73 (0, 0)) → W.ownsRow base 73 6 (.slice (some ⟨w.heap.size, 0, none⟩) (n + m) k) (n + m) (xs.take (i * 6) ++ cs ++ xs.drop (i * 6)) := by
    intro W hW
    have hl : (xs.take (i * 6) ++ cs ++ xs.drop (i * 6)).length = (n + m) * 6 := by rw [List.length_append, List.length_append, htl, hcs, hdl]; omega
    refine ⟨hl, .inr ⟨_, _, _, rfl, hbase, hW, hge, hcm, ?_, ?_⟩⟩
    · simp only [List.size_toArray]; rw [length_splice _ _ _ (by rw [hsl, hdl]; omega), hsl]
    · rw [hfin, ← hl, List.take_left]
  have q1 : IntKind.i64.wrap ((n : Int) + m) = (n : Int) + m := by rw [IntKind.wrap_i64]; omega
  have q2 : IntKind.i64.wrap ((i : Int) + m) = (i : Int) + m := by rw [IntKind.wrap_i64]; omega
  have q3 : ((n : Int) + m - i) = ((n + m - i : Nat) : Int) := by omega
  have q4 : ((n : Int) == (i : Int)) = false := beq_f (by omega)
  have q5 : ((i : Int) == (n : Int)) = false := beq_f (by omega)
  have q6 : ((i : Int) + m).toNat = i + m := by omega
  have HB2 := Lib.hid hb2
  have HC1 := Lib.hid hc1
  have HC2 := Lib.hid hc2
  have HGR := Lib.hid hgr
  have HOUT := Lib.hid hout
  have HW2 := Lib.hid hW2
  have hck : i < k := by omega
  have kb1 : (0 : Int) ≤ (i : Int) + (m : Int) := by omega
  have kb2 : ¬ (k = i + m) := by omega
  have kb3 : (i : Int) ≤ (n : Int) + (m : Int) := by omega
  have kb4 : ¬ (cap = i) := by omega
  have kb5 : ¬ (k = i) := by omega
  have kb6 : i ≤ n := by omega
  have hz1 : ¬ ((m : Int) = 0) := by omega
  clear hc1 hc2 hgr hfin hsl hg2 hb2 hW2 hx1 hxb hb1 hW1 hCl hCs htl hdl hown hx h1c h1x hB hxl hz0 hz1 hz2 hzc hi0 hcs hCUR hbig hWW hW3
  unfold maxLen at hcm
  go_enter Tryz.func165, Tryz.ntmps165
  go_wp2_with (first | (at_builtin; with_reducible refine Lib.wpList_append_run _ rfl _ _ 30 3 rfl _ _ rfl rfl _ _ (HGR.out _) ?_) | (with_reducible refine wpList_copy_runI _ rfl _ _ 30 30 rfl _ _ rfl rfl (HC1.out _ _) ?_))
  go_region_law (refine step_copy_runI rfl _ _ 30 30 rfl _ _ (by simp [Act.eval, Act.put]) (by simp [Act.eval, Act.put]) (HC2.out W2.drew (fun _ => rfl) (fun _ => rfl) _ (k - (i + m)) (cap - i)) ?_)
  go_wp2_with fail
  go_ret
  refine ⟨_, rfl, by simpa [List.append_assoc] using HOUT.out _ (setRow_heap W2.drew _ _ _ 73 (0, 0) HW2.out), ?_⟩
  exact below_setRow (show Below base w0 W2.drew from ⟨HB2.out.os, HB2.out.tape, HB2.out.output, HB2.out.size, HB2.out.block⟩) hbase _
set_option maxRecDepth 100000 in
set_option maxHeartbeats 4000000 in
theorem ins_room_Sub (base g cap n i xb m vc : Nat) (xs cs : List Value) (w0 w : World) (hi : i < n) (hm0 : 0 < m) (hcap : n + m ≤ cap) (hown : w.ownsRow base 73 6 (.slice (some ⟨g, 0, none⟩) n cap) n xs) (hx : w.heap[xb]? = some (.cells cs.toArray 73 (0, 0))) (hxg : xb ≠ g) (hcs : cs.length = m * 6) (h1c : ∀ u ∈ cs, u.oneCell' = true) (h1x : ∀ u ∈ xs, u.oneCell' = true)
    (hB : Below base w0 w) :
    Calls Tryz.prog 165 #[.slice (some ⟨g, 0, none⟩) n cap, .int .i64 i, .slice (some ⟨xb, 0, none⟩) m vc] w fun e w' => ∃ v', e = .returned v' ∧ w'.ownsRow base 73 6 v' (n + m) (xs.take (i * 6) ++ cs ++ xs.drop (i * 6)) ∧ Below base w0 w' := by
  have hxl := hown.1
  obtain ⟨cur, hbg, hg, hcm, hcsz, htk⟩ : ∃ cur : Array Value, base ≤ g ∧ w.heap[g]? = some (.cells cur 73 (0, 0)) ∧ cap ≤ maxLen ∧ cur.size = cap * 6 ∧ cur.toList.take (n * 6) = xs := by
    rcases hown.2 with ⟨h, _⟩ | ⟨g', cap', cur, he, hb, hh, hnc, hcm, hcs, htk⟩
    · cases h
    · injection he with e1 e2 e3
      injection e1 with e1
      injection e1 with e1
      subst e1 e3
      exact ⟨cur, hb, hh, hcm, by omega, htk⟩
  have hdl : (xs.drop (i * 6)).length = (n - i) * 6 := by rw [List.length_drop, hxl]; omega
  have hov : ∀ lb cb, (callFunc 201 #[.slice (some ⟨xb, 0, none⟩) m vc, .slice (some ⟨g, (i + m) * 6, none⟩) lb cb]).run Tryz.prog w = .ok (.value (.bool false)) w := fun lb cb => by
    rw [run_callFunc_extern Tryz.func201 (by kernel_rfl) (by kernel_rfl) (by kernel_rfl) (e := Extern.SlicesOverlaps.overlaps #[30, 30] #[4]) (by kernel_rfl),
      Lib.run_overlaps_apart w 30 4 73 Tryz.underlying30 6 Tryz.sizeOf73 ⟨xb, 0, none⟩ ⟨g, (i + m) * 6, none⟩ m vc lb cb hxg 73 73 cs.toArray.size cur.size (by simp [World.shape?, hx]) (by simp [World.shape?, hg]) (by omega) (frozen_of_blk hx _) (frozen_of_blk hx _)]
    rfl
  have hg1 := setRow_heap w.drew g cur (splice cur.toList ((i + m) * 6) (xs.drop (i * 6))).toArray 73 (0, 0) hg
  have hc1 : ∀ ty dc sc, (Builtin.copy_ #[30, 30] ty #[.slice (some ⟨g, (i + m) * 6, none⟩) (n + m - (i + m)) dc, .slice (some ⟨g, i * 6, none⟩) (n + m - i) sc]).run Tryz.prog w.drew = .ok (goInt ((n - i : Nat) : Int)) (w.drew.setRow g (splice cur.toList ((i + m) * 6) (xs.drop (i * 6))).toArray) := fun ty dc sc =>
    run_copy_wide (P := Tryz.prog) w.drew 30 30 ty 73 6 g ((i + m) * 6) (n + m - (i + m)) dc ⟨g, i * 6, none⟩ (n + m - i) sc (n - i) cur 73 (xs.drop (i * 6)) eSub.ht sSub hg (by simp only [Nat.min_def]; split <;> omega) hdl
      (fun j v hj => by
        have h1 : w.cell? ((⟨g, 0, none⟩ : Addr).add (i * 6 + j)) = some v := hown.cells rfl (i * 6 + j) v (by rw [List.getElem?_drop] at hj; exact hj)
        rw [add_plain] at h1 ⊢
        rw [Nat.zero_add] at h1
        exact h1) (by rw [hdl, hcsz]; omega) (fun u hu => h1x u (List.mem_of_mem_drop hu))
  have hxb := lt_of_blk hx
  have hx1 : (w.drew.setRow g (splice cur.toList ((i + m) * 6) (xs.drop (i * 6))).toArray).heap[xb]? = some (.cells cs.toArray 73 (0, 0)) := (setRow_other w.drew g xb _ hxg).trans hx
  have hbd : Below base w0 (w.drew.setRow g (splice cur.toList ((i + m) * 6) (xs.drop (i * 6))).toArray) := below_setRow (show Below base w0 w.drew from ⟨hB.os, hB.tape, hB.output, hB.size, hB.block⟩) hbg _
  generalize hWW : w.drew.setRow g (splice cur.toList ((i + m) * 6) (xs.drop (i * 6))).toArray = W1 at *
  have hsl : (splice cur.toList ((i + m) * 6) (xs.drop (i * 6))).length = cap * 6 := by rw [length_splice cur.toList ((i + m) * 6) (xs.drop (i * 6)) (by rw [hdl, Array.length_toList, hcsz]; omega), Array.length_toList, hcsz]
  have hc2 : ∀ ty dc, (Builtin.copy_ #[30, 30] ty #[.slice (some ⟨g, i * 6, none⟩) (n + m - i) dc, .slice (some ⟨xb, 0, none⟩) m vc]).run Tryz.prog W1 = .ok (goInt (m : Int)) (W1.setRow g (splice (splice cur.toList ((i + m) * 6) (xs.drop (i * 6))) (i * 6) cs).toArray) := fun ty dc => by
    have h := run_copy_wide (P := Tryz.prog) W1 30 30 ty 73 6 g (i * 6) (n + m - i) dc ⟨xb, 0, none⟩ m vc m (splice cur.toList ((i + m) * 6) (xs.drop (i * 6))).toArray 73 cs eSub.ht sSub hg1 (by simp only [Nat.min_def]; split <;> omega) hcs (by simpa using World.news_of_block (cs := cs.toArray) (t := 73) (fr := (0, 0)) hx1) (by simp only [List.size_toArray]; rw [hsl, hcs]; omega) h1c
    rw [List.toList_toArray] at h
    exact h
  have hg2 := setRow_heap W1 g _ (splice (splice cur.toList ((i + m) * 6) (xs.drop (i * 6))) (i * 6) cs).toArray 73 (0, 0) hg1
  have hb2 := below_setRow hbd hbg (splice (splice cur.toList ((i + m) * 6) (xs.drop (i * 6))) (i * 6) cs).toArray
  have hout : (W1.setRow g (splice (splice cur.toList ((i + m) * 6) (xs.drop (i * 6))) (i * 6) cs).toArray).ownsRow base 73 6 (.slice (some ⟨g, 0, none⟩) (n + m) cap) (n + m) (xs.take (i * 6) ++ cs ++ xs.drop (i * 6)) := by
    have htl : (xs.take (i * 6)).length = i * 6 := by rw [List.length_take, hxl]; omega
    have hl : (xs.take (i * 6) ++ cs ++ xs.drop (i * 6)).length = (n + m) * 6 := by rw [List.length_append, List.length_append, htl, hcs, hdl]; omega
    refine ⟨hl, .inr ⟨_, _, _, rfl, hbg, hg2, hcap, hcm, ?_, ?_⟩⟩
    · simp only [List.size_toArray]; rw [length_splice _ _ _ (by rw [hsl, hcs]; omega), hsl]
    · have h := ins_list2 (xs := xs) (cs := cs) (cur := cur.toList) (i := i * 6) (n := n * 6) (m * 6) htk (by rw [Array.length_toList, hcsz]; omega) (by omega) hcs
      rw [show i * 6 + m * 6 = (i + m) * 6 by omega, show n * 6 + m * 6 = (n + m) * 6 by omega] at h
      exact h
  generalize hWW2 : W1.setRow g (splice (splice cur.toList ((i + m) * 6) (xs.drop (i * 6))) (i * 6) cs).toArray = W2 at *
  have HB2 := Lib.hid hb2
  have HC1 := Lib.hid hc1
  have HC2 := Lib.hid hc2
  have HOV := Lib.hid hov
  have HOUT := Lib.hid hout
  have hck : i < cap := by omega
  have q1 : IntKind.i64.wrap ((n : Int) + m) = (n : Int) + m := by rw [IntKind.wrap_i64]; unfold maxLen at hcm; omega
  have q2 : IntKind.i64.wrap ((i : Int) + m) = (i : Int) + m := by rw [IntKind.wrap_i64]; unfold maxLen at hcm; omega
  have q5 : ((i : Int) == (n : Int)) = false := beq_f (by omega)
  have q6 : ((i : Int) + m).toNat = i + m := by omega
  have q7 : ((n : Int) + m).toNat = n + m := by omega
  have kb1 : (0 : Int) ≤ (i : Int) + (m : Int) := by omega
  have kb2 : ¬ (cap = i + m) := by omega
  have kb3 : (i : Int) ≤ (n : Int) + (m : Int) := by omega
  have kb4 : ¬ (cap = i) := by omega
  have kb6 : i ≤ n := by omega
  have hz1 : ¬ ((m : Int) = 0) := by omega
  clear hb2 hc1 hc2 hov hout hown hx h1c h1x hB hxl hcs hWW hWW2 hg hg1 hg2 hcsz htk hdl hxb hx1 hbd hsl
  unfold maxLen at hcm
  go_enter Tryz.func165, Tryz.ntmps165
  go_wp2_with (simp only [HOV.out])
  go_region_law (refine step_copy_runI rfl _ _ 30 30 rfl _ _ (by simp [Act.eval, Act.put]) (by simp [Act.eval, Act.put]) (HC1.out _ (cap - (i + m)) (cap - i)) ?_)
  go_wp2_with (with_reducible refine wpList_copy_runI _ rfl _ _ 30 30 rfl _ _ rfl rfl (HC2.out _ _) ?_)
  go_ret
  exact ⟨_, rfl, by simpa [List.append_assoc] using HOUT.out, HB2.out⟩
theorem ins_one_Sub (base : Nat) (v : Value) (n i xb : Nat) (xs cs : List Value) (w0 w : World) (hi : i ≤ n) (hown : w.ownsRow base 73 6 v n xs) (hx : w.heap[xb]? = some (.cells cs.toArray 73 (0, 0))) (hxv : ∀ g, v.ownBlock = some g → xb ≠ g) (hcs : cs.length = 6) (h1c : ∀ u ∈ cs, u.oneCell' = true) (h1x : ∀ u ∈ xs, u.oneCell' = true)
    (hB : Below base w0 w) (hbase : base ≤ w.heap.size) (hbig : (n + 1) * 64 ≤ 140737488355328) :
    Calls Tryz.prog 165 #[v, .int .i64 i, .slice (some ⟨xb, 0, none⟩) 1 1] w fun e w' => ∃ v', e = .returned v' ∧ w'.ownsRow base 73 6 v' (n + 1) (xs.take (i * 6) ++ cs ++ xs.drop (i * 6)) ∧ Below base w0 w' := by
  by_cases he : i = n
  · subst he
    have hxl := hown.1
    have h := ins_end_Sub base v i xb xs cs w0 w hown hx hcs h1c hB hbase hbig
    rw [List.take_of_length_le (by omega), List.drop_of_length_le (by omega), List.append_nil]
    exact h
  · have hlt : i < n := by omega
    have h2 := hown.2
    rcases h2 with ⟨_, hn0⟩ | ⟨g, cap, cur, rfl, hb, hh, hnc, hcm, _⟩
    · have := hown.1; rw [hn0] at this; simp at this; omega
    · by_cases hc : n + 1 ≤ cap
      · exact ins_room_Sub base g cap n i xb 1 1 xs cs w0 w hlt (by omega) hc hown hx (hxv g rfl) (by omega) h1c h1x hB
      · exact ins_grow_Sub base g cap n i xb 1 1 xs cs w0 w hlt (by omega) (by omega) hown hx (by omega) h1c h1x hB hbase hbig
end Go.Proofs.YtgpkmellpllmgaaGreat
/-
  fold.put of Sub. Printed by gfold.py.
-/
set_option linter.unusedVariables false
set_option linter.unusedSimpArgs false
namespace Go.Proofs.YtgpkmellpllmgaaGreat
open Go Go.RowKit Go.Proofs.Base
open Go.Sort (grow)
set_option maxRecDepth 100000 in
theorem ord_Sub (y x : ESub) (w : World) : Calls Tryz.prog 102 #[.agg #[.int .u64 y.token, .int .u64 y.inst, .int .i64 y.node, .string y.name, .string y.key, .bool y.opn], .agg #[.int .u64 x.token, .int .u64 x.inst, .int .i64 x.node, .string x.name, .string x.key, .bool x.opn]] w fun e w' => e = .returned (.int .i64 (cmpSub y x)) ∧ Below w.heap.size w w' := by
  have hB : Below w.heap.size w ((w.alloc (.cells #[.int .u64 y.token, .int .u64 y.inst, .int .i64 y.node, .string y.name, .string y.key, .bool y.opn] 73)).alloc (.cells #[.int .u64 x.token, .int .u64 x.inst, .int .i64 x.node, .string x.name, .string x.key, .bool x.opn] 73)) := below_alloc (below_alloc (Below.refl _ _) _) _
  have HB := Lib.hid hB
  clear hB
  go_enter Tryz.func102, Tryz.ntmps102
  go_wp2_with (go_at_call 100; refine (ahead_c _ _ _ _ _).mono ?_; rintro e w' ⟨rfl, hb⟩)
  go_ret
  exact ⟨rfl, below2 HB.out hb⟩
set_option maxRecDepth 100000 in
theorem put1_Sub (B1 B2 : Nat) (y x : ESub) (w : World) (h1 : w.cell? ⟨B1, 0, none⟩ = some (.func (.func 102) #[] #[])) (h2 : w.heap[B2]? = some (.cells #[.int .u64 x.token, .int .u64 x.inst, .int .i64 x.node, .string x.name, .string x.key, .bool x.opn] 73 (0, 0))) :
    Calls Tryz.prog 163 (#[.agg #[.int .u64 y.token, .int .u64 y.inst, .int .i64 y.node, .string y.name, .string y.key, .bool y.opn]] ++ #[.pointer (some ⟨B1, 0, none⟩), .pointer (some ⟨B2, 0, none⟩)]) w fun e w' => e = .returned (.bool (decide (cmpSub y x = 0))) ∧ Below w.heap.size w w' := by
  have hB : Below w.heap.size w (w.alloc (.cells #[.int .u64 y.token, .int .u64 y.inst, .int .i64 y.node, .string y.name, .string y.key, .bool y.opn] 73)) := below_alloc (Below.refl _ _) _
  have hc := (hB.cell (p := ⟨B1, 0, none⟩) (World.block_lt_of_cell? w _ h1)).trans h1
  have hk := block_below hB h2
  have k0 := cell_of_blk hk 0
  have k1 := cell_of_blk hk 1
  have k2 := cell_of_blk hk 2
  have k3 := cell_of_blk hk 3
  have k4 := cell_of_blk hk 4
  have k5 := cell_of_blk hk 5
  have HB := Lib.hid hB
  obtain ⟨cc, hcc⟩ : ∃ cc, cc = cmpSub y x := ⟨_, rfl⟩
  have ho := fun w => ord_Sub y x w
  simp only [← hcc] at ho
  have HO := Lib.hid ho
  rw [← hcc]
  clear hB h1 h2 hk hcc ho
  go_enter Tryz.func163, Tryz.ntmps163
  go_wp2_with (go_at_call 102; refine (HO.out _).mono ?_; rintro e w' ⟨rfl, hb⟩)
  go_ret
  exact ⟨by first | rfl | (refine congrArg (fun b => Ending.returned (Value.bool b)) ?_; rw [Bool.eq_iff_iff]; simp), below2 HB.out hb⟩
set_option maxRecDepth 100000 in
theorem put2_Sub (B1 B2 : Nat) (y x : ESub) (w : World) (h1 : w.cell? ⟨B1, 0, none⟩ = some (.func (.func 102) #[] #[])) (h2 : w.heap[B2]? = some (.cells #[.int .u64 x.token, .int .u64 x.inst, .int .i64 x.node, .string x.name, .string x.key, .bool x.opn] 73 (0, 0))) :
    Calls Tryz.prog 164 (#[.agg #[.int .u64 y.token, .int .u64 y.inst, .int .i64 y.node, .string y.name, .string y.key, .bool y.opn]] ++ #[.pointer (some ⟨B1, 0, none⟩), .pointer (some ⟨B2, 0, none⟩)]) w fun e w' => e = .returned (.bool (decide (0 < cmpSub y x))) ∧ Below w.heap.size w w' := by
  have hB : Below w.heap.size w (w.alloc (.cells #[.int .u64 y.token, .int .u64 y.inst, .int .i64 y.node, .string y.name, .string y.key, .bool y.opn] 73)) := below_alloc (Below.refl _ _) _
  have hc := (hB.cell (p := ⟨B1, 0, none⟩) (World.block_lt_of_cell? w _ h1)).trans h1
  have hk := block_below hB h2
  have k0 := cell_of_blk hk 0
  have k1 := cell_of_blk hk 1
  have k2 := cell_of_blk hk 2
  have k3 := cell_of_blk hk 3
  have k4 := cell_of_blk hk 4
  have k5 := cell_of_blk hk 5
  have HB := Lib.hid hB
  obtain ⟨cc, hcc⟩ : ∃ cc, cc = cmpSub y x := ⟨_, rfl⟩
  have ho := fun w => ord_Sub y x w
  simp only [← hcc] at ho
  have HO := Lib.hid ho
  rw [← hcc]
  clear hB h1 h2 hk hcc ho
  go_enter Tryz.func164, Tryz.ntmps164
  go_wp2_with (go_at_call 102; refine (HO.out _).mono ?_; rintro e w' ⟨rfl, hb⟩)
  go_ret
  exact ⟨by first | rfl | (refine congrArg (fun b => Ending.returned (Value.bool b)) ?_; rw [Bool.eq_iff_iff]; simp), below2 HB.out hb⟩
set_option maxRecDepth 100000 in
set_option maxHeartbeats 4000000 in
theorem put_Sub (A : Option Addr) (n c : Nat) (x : ESub) (l : List ESub) (w : World) (S : Nat → Prop) (hl : l.length = n) (hby : (n + 1) * 64 ≤ 140737488355328) (hr : Row w S 6 n (.slice A n c) (l.flatMap encSub)) :
    Calls Tryz.prog 101 #[.slice A n c, .agg #[.int .u64 x.token, .int .u64 x.inst, .int .i64 x.node, .string x.name, .string x.key, .bool x.opn], .func (.func 102) #[] #[]] w fun e w' => ∃ A' c', e = .returned (.slice A' (putL cmpSub x l).length c') ∧ w'.ownsRow w.heap.size 73 6 (.slice A' (putL cmpSub x l).length c') (putL cmpSub x l).length ((putL cmpSub x l).flatMap encSub) ∧ Below w.heap.size w w' := by
  obtain ⟨N, hN⟩ : ∃ N, N = (w.alloc (.cells #[.int .u64 x.token, .int .u64 x.inst, .int .i64 x.node, .string x.name, .string x.key, .bool x.opn] 73)).alloc (.cells #[.func (.func 102) #[] #[]] 137) := ⟨_, rfl⟩
  have b0 : N.heap[w.heap.size]? = some (.cells #[.int .u64 x.token, .int .u64 x.inst, .int .i64 x.node, .string x.name, .string x.key, .bool x.opn] 73 (0, 0)) := by rw [hN]; exact blk_alloc (blk_new _) _
  have b1 : N.heap[w.heap.size + 1]? = some (.cells #[.func (.func 102) #[] #[]] 137 (0, 0)) := by rw [hN]; exact blk_new_of _ (by simp)
  have hB : Below w.heap.size w N := by rw [hN]; exact below_alloc (below_alloc (Below.refl _ _) _) _
  have hsz : N.heap.size = w.heap.size + 2 := by rw [hN]; simp
  have HN := Lib.hid hN
  have HB := Lib.hid hB
  have HSZ := Lib.hid hsz
  have HP1 : Hid (∀ W, Below N.heap.size N W → ∀ y ∈ l, Calls Tryz.prog 163 (#[.agg #[.int .u64 y.token, .int .u64 y.inst, .int .i64 y.node, .string y.name, .string y.key, .bool y.opn]] ++ #[.pointer (some ⟨w.heap.size + 1, 0, none⟩), .pointer (some ⟨w.heap.size, 0, none⟩)]) W fun e w' => e = .returned (.bool (decide (cmpSub y x = 0))) ∧ Below W.heap.size W w') :=
    Lib.hid (fun W hW y _ => put1_Sub _ _ y x W (cell_of_blk (block_below hW b1) 0) (block_below hW b0))
  have HP2 : Hid (∀ W, Below N.heap.size N W → ∀ y ∈ l, Calls Tryz.prog 164 (#[.agg #[.int .u64 y.token, .int .u64 y.inst, .int .i64 y.node, .string y.name, .string y.key, .bool y.opn]] ++ #[.pointer (some ⟨w.heap.size + 1, 0, none⟩), .pointer (some ⟨w.heap.size, 0, none⟩)]) W fun e w' => e = .returned (.bool (decide (0 < cmpSub y x))) ∧ Below W.heap.size W w') :=
    Lib.hid (fun W hW y _ => put2_Sub _ _ y x W (cell_of_blk (block_below hW b1) 0) (block_below hW b0))
  have HCL := Lib.hid (clone_Sub A n c l N S hl (by omega) (hr.below (hB)))
  have e1 : ∀ args w, (callFunc 163 args).run Tryz.prog w = .ok (.enter 163 args) w := enters_of Tryz.func163 (by kernel_rfl) rfl
  have e2 : ∀ args w, (callFunc 164 args).run Tryz.prog w = .ok (.enter 164 args) w := enters_of Tryz.func164 (by kernel_rfl) rfl
  have E1 := Lib.hid e1
  have E2 := Lib.hid e2
  have HK := Lib.hid b0
  have HL := Lib.hid hl
  have HBY := Lib.hid hby
  obtain ⟨A0, c0, he0, hnc0, hcm0⟩ := hr.open_
  injection he0 with q1 _ q3
  subst q1 q3
  clear hN b0 b1 hB hr hsz e1 e2
  have HPL : Hid (putL cmpSub x l = if 0 ≤ idxP (fun y => decide (cmpSub y x = 0)) l then l.set (idxP (fun y => decide (cmpSub y x = 0)) l).toNat x else l.take (spotL cmpSub x l) ++ x :: l.drop (spotL cmpSub x l)) := Lib.hid rfl
  generalize putL cmpSub x l = L at *
  have hi1 := idxP_spec (fun y => decide (cmpSub y x = 0)) l
  have hi2 := idxP_spec (fun y => decide (0 < cmpSub y x)) l
  have HSP : Hid (spotL cmpSub x l = if idxP (fun y => decide (0 < cmpSub y x)) l < 0 then l.length else (idxP (fun y => decide (0 < cmpSub y x)) l).toNat) := Lib.hid rfl
  rcases hi1 with ⟨h1, _⟩ | ⟨j, hj, h1, -, -⟩
  · -- a new one
    obtain ⟨sp, hsp⟩ : ∃ sp, sp = spotL cmpSub x l := ⟨_, rfl⟩
    have hLe : Hid (L = l.take sp ++ x :: l.drop sp) := Lib.hid (by rw [HPL.out, h1, if_neg (by decide), hsp])
    have hspn : sp ≤ n := by rw [hsp, ← hl]; exact spotL_le _ _ _
    have HLe := hLe
    have hLL : L.length = n + 1 := by
      rw [hLe.out, List.length_append, List.length_cons, List.length_take, List.length_drop, hl]; omega
    have HINS : Hid (∀ (w5 : World) A5 c5, w5.ownsRow N.heap.size 73 6 (.slice A5 n c5) n (l.flatMap encSub) → Below N.heap.size N w5 → Calls Tryz.prog 165 #[.slice A5 n c5, .int .i64 sp, .slice (some ⟨w5.heap.size, 0, none⟩) 1 1] (w5.alloc (.cells #[.int .u64 x.token, .int .u64 x.inst, .int .i64 x.node, .string x.name, .string x.key, .bool x.opn] 73)) fun e w' => ∃ A' c', e = .returned (.slice A' (n + 1) c') ∧ w'.ownsRow w.heap.size 73 6 (.slice A' (n + 1) c') (n + 1) (L.flatMap encSub) ∧ Below w.heap.size w w') := Lib.hid (fun w5 A5 c5 hown hb5 => by
      have hb5s := hb5.size
      have hNs := HSZ.out
      refine (ins_one_Sub w.heap.size _ n sp w5.heap.size (l.flatMap encSub) (encSub x) w (w5.alloc (.cells #[.int .u64 x.token, .int .u64 x.inst, .int .i64 x.node, .string x.name, .string x.key, .bool x.opn] 73)) hspn ((own_base hown (by omega)).alloc _) (blk_new _) (fun g hg => by have := (hown.lt g hg).2; omega) rfl (oneSub x) (flat_one oneSub l) (below_alloc (below2 HB.out hb5) _) (by simp; omega) HBY.out).mono ?_
      rintro e w6 ⟨v6, rfl, hown6, hb6⟩
      rw [flat_ins (enc := encSub) lenSub, ← HLe.out] at hown6
      obtain ⟨A6, c6, rfl, _, _⟩ := (Row.of_own hown6).open_
      exact ⟨A6, c6, rfl, hown6, hb6⟩)
    rw [hLL]
    clear HPL hLe
    rcases hi2 with ⟨h2, _⟩ | ⟨j, hj, h2, -, -⟩
    · have hspv : sp = n := by rw [hsp, HSP.out, h2, if_pos (by decide), hl]
      subst hspv
      clear hsp HSP hLL
      go_enter Tryz.func101, Tryz.ntmps101
      go_wp2_with fail
      rw [show (w.alloc (.cells #[.int .u64 x.token, .int .u64 x.inst, .int .i64 x.node, .string x.name, .string x.key, .bool x.opn] 73)).alloc (.cells #[.func (.func 102) #[] #[]] 137) = N from HN.out.symm]
      go_wp2_with (go_at_call 27; refine HCL.out.mono ?_; rintro e w1 ⟨A1, c1, rfl, hown, hb⟩; have HO1 := Lib.hid hown; have HB1 := Lib.hid hb; obtain ⟨_, _, _, hnc1, hcm1⟩ := (Row.of_own hown).open_; clear hown hb)
      refine (idx_Sub _ _ _ 163 _ l _ N _ _ E1.out HL.out (Row.of_own HO1.out) HB1.out HP1.out).mono ?_
      rintro e w2 ⟨rfl, hb⟩
      rw [h1]
      have HB2 := Lib.hid (below2 HB1.out hb)
      have HO2 := Lib.hid (own_mut HO1.out (Mut.of_below hb (fun _ => False)) (fun _ _ h => h))
      clear hb
      go_wp2_with fail
      refine (idx_Sub _ _ _ 164 _ l _ N _ _ E2.out HL.out (Row.of_own HO2.out) HB2.out HP2.out).mono ?_
      rintro e w3 ⟨rfl, hb⟩
      rw [h2]
      have HB3 := Lib.hid (below2 HB2.out hb)
      have HO3 := Lib.hid (own_mut HO2.out (Mut.of_below hb (fun _ => False)) (fun _ _ h => h))
      have hk3 := block_below HB3.out HK.out
      have k0 := cell_of_blk hk3 0; have k1 := cell_of_blk hk3 1; have k2 := cell_of_blk hk3 2; have k3 := cell_of_blk hk3 3; have k4 := cell_of_blk hk3 4; have k5 := cell_of_blk hk3 5
      clear hb hk3
      go_wp2_with (go_at_call 165; refine (HINS.out _ _ _ HO3.out HB3.out).mono ?_; rintro e w4 ⟨A4, c4, rfl, hown, hb⟩; have HO4 := Lib.hid hown; have HB4 := Lib.hid hb; clear hown hb)
      go_ret
      exact ⟨A4, c4, rfl, HO4.out, HB4.out⟩
    · have hspv : sp = j := by rw [hsp, HSP.out, h2, if_neg (by omega)]; simp
      subst hspv
      have hj0 : ¬ ((sp : Int) < 0) := by omega
      clear hsp HSP hLL
      go_enter Tryz.func101, Tryz.ntmps101
      go_wp2_with fail
      rw [show (w.alloc (.cells #[.int .u64 x.token, .int .u64 x.inst, .int .i64 x.node, .string x.name, .string x.key, .bool x.opn] 73)).alloc (.cells #[.func (.func 102) #[] #[]] 137) = N from HN.out.symm]
      go_wp2_with (go_at_call 27; refine HCL.out.mono ?_; rintro e w1 ⟨A1, c1, rfl, hown, hb⟩; have HO1 := Lib.hid hown; have HB1 := Lib.hid hb; obtain ⟨_, _, _, hnc1, hcm1⟩ := (Row.of_own hown).open_; clear hown hb)
      refine (idx_Sub _ _ _ 163 _ l _ N _ _ E1.out HL.out (Row.of_own HO1.out) HB1.out HP1.out).mono ?_
      rintro e w2 ⟨rfl, hb⟩
      rw [h1]
      have HB2 := Lib.hid (below2 HB1.out hb)
      have HO2 := Lib.hid (own_mut HO1.out (Mut.of_below hb (fun _ => False)) (fun _ _ h => h))
      clear hb
      go_wp2_with fail
      refine (idx_Sub _ _ _ 164 _ l _ N _ _ E2.out HL.out (Row.of_own HO2.out) HB2.out HP2.out).mono ?_
      rintro e w3 ⟨rfl, hb⟩
      rw [h2]
      have HB3 := Lib.hid (below2 HB2.out hb)
      have HO3 := Lib.hid (own_mut HO2.out (Mut.of_below hb (fun _ => False)) (fun _ _ h => h))
      have hk3 := block_below HB3.out HK.out
      have k0 := cell_of_blk hk3 0; have k1 := cell_of_blk hk3 1; have k2 := cell_of_blk hk3 2; have k3 := cell_of_blk hk3 3; have k4 := cell_of_blk hk3 4; have k5 := cell_of_blk hk3 5
      clear hb hk3
      go_wp2_with (go_at_call 165; refine (HINS.out _ _ _ HO3.out HB3.out).mono ?_; rintro e w4 ⟨A4, c4, rfl, hown, hb⟩; have HO4 := Lib.hid hown; have HB4 := Lib.hid hb; clear hown hb)
      go_ret
      exact ⟨A4, c4, rfl, HO4.out, HB4.out⟩
  · -- one that is there
    have hLe : Hid (L = l.set j x) := Lib.hid (by rw [HPL.out, h1, if_pos (by omega)]; simp)
    have hLL : L.length = n := by rw [hLe.out, List.length_set, hl]
    have hjn : j < n := by omega
    have hj0 : (0 : Int) ≤ (j : Int) := by omega
    have HFS := Lib.hid (flat_splice (enc := encSub) lenSub hj x)
    have HVL : Hid ((l.flatMap encSub).length = n * 6) := Lib.hid (by rw [flat_len (enc := encSub) lenSub, hl])
    rw [hLL]
    clear HPL hi2 HSP hj HP2
    go_enter Tryz.func101, Tryz.ntmps101
    go_wp2_with fail
    rw [show (w.alloc (.cells #[.int .u64 x.token, .int .u64 x.inst, .int .i64 x.node, .string x.name, .string x.key, .bool x.opn] 73)).alloc (.cells #[.func (.func 102) #[] #[]] 137) = N from HN.out.symm]
    go_wp2_with (go_at_call 27; refine HCL.out.mono ?_; rintro e w1 ⟨A1, c1, rfl, hown, hb⟩; have HO1 := Lib.hid hown; have HB1 := Lib.hid hb; obtain ⟨_, _, _, hnc1, hcm1⟩ := (Row.of_own hown).open_; clear hown hb)
    refine (idx_Sub _ _ _ 163 _ l _ N _ _ E1.out HL.out (Row.of_own HO1.out) HB1.out HP1.out).mono ?_
    rintro e w2 ⟨rfl, hb⟩
    rw [h1]
    have HB2 := Lib.hid (below2 HB1.out hb)
    have HO2 := Lib.hid (own_mut HO1.out (Mut.of_below hb (fun _ => False)) (fun _ _ h => h))
    have hk3 := block_below HB2.out HK.out
    have k0 := cell_of_blk hk3 0; have k1 := cell_of_blk hk3 1; have k2 := cell_of_blk hk3 2; have k3 := cell_of_blk hk3 3; have k4 := cell_of_blk hk3 4; have k5 := cell_of_blk hk3 5
    clear hb hk3
    obtain ⟨g, cap, cur, hv, hbg, hhg, hnc5, hcm5, hcs5, htk5⟩ := own_some HO2.out (by omega)
    injection hv with hv1 hv2 hv3
    subst hv1 hv3
    obtain ⟨u0, hu0⟩ : ∃ u, cur[j * 6]? = some u := ⟨_, Array.getElem?_eq_getElem (by omega)⟩; have j0 := (cell_of_blk hhg (j * 6)).trans hu0; have f0 := frozen_of_blk hhg (j * 6); clear hu0; obtain ⟨u1, hu1⟩ : ∃ u, cur[j * 6 + 1]? = some u := ⟨_, Array.getElem?_eq_getElem (by omega)⟩; have j1 := (cell_of_blk hhg (j * 6 + 1)).trans hu1; have f1 := frozen_of_blk hhg (j * 6 + 1); clear hu1; obtain ⟨u2, hu2⟩ : ∃ u, cur[j * 6 + 2]? = some u := ⟨_, Array.getElem?_eq_getElem (by omega)⟩; have j2 := (cell_of_blk hhg (j * 6 + 2)).trans hu2; have f2 := frozen_of_blk hhg (j * 6 + 2); clear hu2; obtain ⟨u3, hu3⟩ : ∃ u, cur[j * 6 + 3]? = some u := ⟨_, Array.getElem?_eq_getElem (by omega)⟩; have j3 := (cell_of_blk hhg (j * 6 + 3)).trans hu3; have f3 := frozen_of_blk hhg (j * 6 + 3); clear hu3; obtain ⟨u4, hu4⟩ : ∃ u, cur[j * 6 + 4]? = some u := ⟨_, Array.getElem?_eq_getElem (by omega)⟩; have j4 := (cell_of_blk hhg (j * 6 + 4)).trans hu4; have f4 := frozen_of_blk hhg (j * 6 + 4); clear hu4; obtain ⟨u5, hu5⟩ : ∃ u, cur[j * 6 + 5]? = some u := ⟨_, Array.getElem?_eq_getElem (by omega)⟩; have j5 := (cell_of_blk hhg (j * 6 + 5)).trans hu5; have f5 := frozen_of_blk hhg (j * 6 + 5); clear hu5
    have HG := Lib.hid hhg
    have HTK := Lib.hid htk5
    have HCS := Lib.hid hcs5
    have HBG := Lib.hid hbg
    have HCM := Lib.hid hcm5
    clear hhg htk5 hcs5 hbg hcm5
    go_wp2_with fail
    go_ret
    have hg2 := set_blk (o := j * 6 + 5) (set_blk (o := j * 6 + 4) (set_blk (o := j * 6 + 3) (set_blk (o := j * 6 + 2) (set_blk (o := j * 6 + 1) (set_blk (o := j * 6) (HG.out) (.int .u64 x.token)) (.int .u64 x.inst)) (.int .i64 x.node)) (.string x.name)) (.string x.key)) (.bool x.opn)
    have hbg := HBG.out
    have hNs := HSZ.out
    refine ⟨_, _, rfl, ?_, ?_⟩
    · refine ⟨by rw [flat_len (enc := encSub) lenSub, hLL], .inr ⟨g, _, _, rfl, by omega, hg2, hnc5, HCM.out, by simp only [Array.size_setIfInBounds]; have := HCS.out; omega, ?_⟩⟩
      rw [hLe.out, ← HFS.out, ← setAll_splice _ _ _ (by rw [HVL.out, lenSub]; omega), ← HTK.out]
      simp only [Array.toList_setIfInBounds, List.take_set]
      rfl
    · exact (((((((below2 HB.out HB2.out)).setCell (p := ⟨g, j * 6, none⟩) (by show _ ≤ g; omega) _).setCell (p := ⟨g, j * 6 + 1, none⟩) (by show _ ≤ g; omega) _).setCell (p := ⟨g, j * 6 + 2, none⟩) (by show _ ≤ g; omega) _).setCell (p := ⟨g, j * 6 + 3, none⟩) (by show _ ≤ g; omega) _).setCell (p := ⟨g, j * 6 + 4, none⟩) (by show _ ≤ g; omega) _).setCell (p := ⟨g, j * 6 + 5, none⟩) (by show _ ≤ g; omega) _
end Go.Proofs.YtgpkmellpllmgaaGreat
/-
  Lists of Kept: searched, copied. Printed by gfold.py.
-/
set_option linter.unusedVariables false
set_option linter.unusedSimpArgs false
namespace Go.Proofs.YtgpkmellpllmgaaGreat
open Go Go.RowKit Go.Proofs.Base
open Go.Sort (grow)
set_option maxRecDepth 100000 in
set_option maxHeartbeats 2000000 in
theorem clone_Kept (A : Option Addr) (n c : Nat) (l : List EKept) (w : World) (S : Nat → Prop) (hl : l.length = n) (hby : n * 24 ≤ 140737488355328) (hr : Row w S 3 n (.slice A n c) (l.flatMap encKept)) :
    Calls Tryz.prog 28 #[.slice A n c] w fun e w' => ∃ A' c', e = .returned (.slice A' n c') ∧ w'.ownsRow w.heap.size 75 3 (.slice A' n c') n (l.flatMap encKept) ∧ Below w.heap.size w w' := by
  obtain ⟨i0, z, hi0, hz0, hz1, hz2, hzc⟩ := eKept.hi
  have q : ∀ (w : World) (a : Option Addr) (n c n' c' : Nat), (binOp .eql 31 (.slice a n c) (.slice none n' c')).run Tryz.prog w = .ok (.bool a.isNone) w := fun w a n c n' c' => Lib.run_eql_slice_nil w _ _ a n c n' c' Tryz.underlying31
  obtain ⟨A', c', he, hnc, hcm, hlen, hnone, hsome⟩ := hr
  injection he with e1 _ e3
  subst e1 e3
  cases A with
  | none =>
    obtain ⟨rfl, rfl⟩ := hnone rfl
    obtain rfl : l = [] := List.eq_nil_of_length_eq_zero hl
    clear hsome hlen
    go_enter Tryz.func28, Tryz.ntmps28
    go_wp2
    go_ret
    exact ⟨none, 0, rfl, own_nil _ _ _ _, Below.refl _ _⟩
  | some ad =>
    have HC : Hid (∀ j u, (l.flatMap encKept)[j]? = some u → w.cell? (ad.add j) = some u) := Lib.hid (fun j u hu => by
      rcases Nat.eq_zero_or_pos n with h0 | h0
      · subst h0
        obtain rfl : l = [] := List.eq_nil_of_length_eq_zero hl
        simp at hu
      · obtain ⟨b, o, hA, _, _, hc⟩ := hsome h0
        injection hA with hA
        subst hA
        rw [add_plain]
        exact hc j u hu)
    have HVL := Lib.hid hlen
    have H1 := Lib.hid (flat_one (enc := encKept) oneKept l)
    clear hsome hlen hnone hl
    go_enter Tryz.func28, Tryz.ntmps28
    go_wp2_with (at_builtin; refine wpList_append_own _ rfl _ _ 31 rfl w.heap.size 75 i0 z 3 24 Tryz.underlying31 hi0 hz0 hz1 hz2 hzc (by omega) _ _ _ rfl (World.ownsRow_made w #[] 0 (Nat.le_refl _) (Nat.zero_le _) (by simp)) ad n c (l.flatMap encKept) rfl HVL.out (fun j u hj => Lib.cell?_alloc_some _ (HC.out j u hj)) H1.out (by simp only [maxLen]; omega) (by omega) (by simp) ?_; intro v' w1 hown hgrow hnil)
    go_ret
    have hown' : w1.ownsRow w.heap.size 75 3 v' n (l.flatMap encKept) := by simpa using hown
    obtain ⟨A2, c2, rfl, _, _⟩ := (Row.of_own hown').open_
    exact ⟨A2, c2, rfl, hown', ((Below.refl _ w).alloc (Nat.le_refl _) _).grown hgrow (by simp) (by intro k hk; injection hk with hk; exact Nat.le_of_eq hk)⟩
set_option maxRecDepth 100000 in
set_option maxHeartbeats 1000000 in
theorem idx_Kept (A : Option Addr) (n c g : Nat) (lb : Array Value) (l : List EKept) (p : EKept → Bool) (w0 w : World) (S : Nat → Prop) (eg : ∀ args w, (callFunc g args).run Tryz.prog w = .ok (.enter g args) w) (hl : l.length = n) (hr : Row w S 3 n (.slice A n c) (l.flatMap encKept)) (h0 : Below w0.heap.size w0 w)
    (hp : ∀ W, Below w0.heap.size w0 W → ∀ x ∈ l, Calls Tryz.prog g (#[.agg #[.int .u64 x.token, .int .u64 x.message, .int .i64 x.node]] ++ lb) W fun e w' => e = .returned (.bool (p x)) ∧ Below W.heap.size W w') :
    Calls Tryz.prog 170 #[.slice A n c, .func (.func g) #[] lb] w fun e w' => e = .returned (.int .i64 (idxP p l)) ∧ Below w.heap.size w w' := by
  obtain ⟨A', c', he, hnc, hcm⟩ := hr.open_
  injection he with e1 _ e3
  subst e1 e3
  have HR := Lib.hid hr
  have HL := Lib.hid hl
  have H0 := Lib.hid h0
  have HP := Lib.hid hp
  clear hr hl h0 hp
  go_enter Tryz.func170, Tryz.ntmps170
  go_wp2_with fail
  go_loopw [5, 8] (fun _ i wr => ∃ k : Nat, k ≤ n ∧ i = .int .i64 k ∧ Hid (idxP p l = idxGoP p (l.drop k) k) ∧ Below w.heap.size w wr) (fun _ i _ => n - (intOf i).toNat)
  case atStart => exact ⟨0, by omega, rfl, Lib.hid rfl, Below.refl _ _⟩
  case round =>
    obtain ⟨k, hk, rfl, HK, hbl⟩ := hrel
    have HBL := Lib.hid hbl
    by_cases hkn : k < n
    · have hk1 : k < l.length := by rw [HL.out]; exact hkn
      obtain ⟨b, o, rfl, _, hlt, hc⟩ := HR.out.at_ (by omega)
      have c0 : wr.cell? ⟨b, o + k * 3, none⟩ = some (.int .u64 l[k].token) := (hbl.cell (p := ⟨b, o + k * 3, none⟩) hlt).trans (by simpa using hc k 0 _ ((flat_at (enc := encKept) lenKept hk1 0 (by decide)).trans rfl))
      have c1 : wr.cell? ⟨b, o + k * 3 + 1, none⟩ = some (.int .u64 l[k].message) := (hbl.cell (p := ⟨b, o + k * 3 + 1, none⟩) hlt).trans (by simpa using hc k 1 _ ((flat_at (enc := encKept) lenKept hk1 1 (by decide)).trans rfl))
      have c2 : wr.cell? ⟨b, o + k * 3 + 2, none⟩ = some (.int .i64 l[k].node) := (hbl.cell (p := ⟨b, o + k * 3 + 2, none⟩) hlt).trans (by simpa using hc k 2 _ ((flat_at (enc := encKept) lenKept hk1 2 (by decide)).trans rfl))
      have hcall := HP.out wr (below2 H0.out hbl) l[k] (List.getElem_mem hk1)
      have hq := HK.out
      rw [List.drop_eq_getElem_cons hk1] at hq
      clear hc
      generalize l[k] = x at *
      have HQ := Lib.hid hq
      clear hq hbl HK
      by_cases hx : p x = true
      · rw [hx] at hcall
        have HX := Lib.hid hx
        clear hx
        go_wp2_with (go_at_fn g; refine hcall.mono ?_; rintro e w1 ⟨rfl, hb1⟩)
        go_ret
        refine ⟨?_, below2 HBL.out hb1⟩
        have e2 : idxGoP p (x :: l.drop (k + 1)) k = k := by show (if _ then _ else _) = _; rw [if_pos HX.out]
        rw [HQ.out, e2]; rfl
      · have hx2 : p x = false := by simpa using hx
        rw [hx2] at hcall
        have HQ2 : Hid (idxP p l = idxGoP p (l.drop (k + 1)) (k + 1)) := Lib.hid (by rw [HQ.out]; show (if _ then _ else _) = _; rw [if_neg hx])
        clear hx hx2
        go_wp2_with (go_at_fn g; refine hcall.mono ?_; rintro e w1 ⟨rfl, hb1⟩)
        go_roundw
        case rel => exact ⟨k + 1, by omega, by go_num, HQ2, below2 HBL.out hb1⟩
        case measure => simp [intOf]; omega
    · have HQ : Hid (idxP p l = -1) := Lib.hid (by rw [HK.out, List.drop_eq_nil_of_le (by rw [HL.out]; omega)]; rfl)
      clear HK
      go_wp2_with fail
      go_ret
      exact ⟨by rw [HQ.out]; rfl, hbl⟩
end Go.Proofs.YtgpkmellpllmgaaGreat
/-
  slices.Insert of one Kept. Printed by gfold.py out of XIns.
-/
set_option linter.unusedVariables false
set_option linter.unusedSimpArgs false
namespace Go.Proofs.YtgpkmellpllmgaaGreat
open Go Go.RowKit Go.Proofs.Base
set_option maxRecDepth 100000 in
set_option maxHeartbeats 2000000 in
theorem ins_end_Kept (base : Nat) (v : Value) (n xb : Nat) (xs cs : List Value) (w0 w : World) (hown : w.ownsRow base 75 3 v n xs) (hx : w.heap[xb]? = some (.cells cs.toArray 75 (0, 0))) (hcs : cs.length = 3) (h1c : ∀ u ∈ cs, u.oneCell' = true)
    (hB : Below base w0 w) (hbase : base ≤ w.heap.size) (hbig : (n + 1) * 24 ≤ 140737488355328) :
    Calls Tryz.prog 173 #[v, .int .i64 n, .slice (some ⟨xb, 0, none⟩) 1 1] w fun e w' => ∃ v', e = .returned v' ∧ w'.ownsRow base 75 3 v' (n + 1) (xs ++ cs) ∧ Below base w0 w' := by
  obtain ⟨i0, z, hi, hz0, hz1, hz2, hzc⟩ := eKept.hi
  have HO := Lib.hid hown
  have HX := Lib.hid (World.news_of_block (cs := cs.toArray) (t := 75) (fr := (0, 0)) hx)
  have HCS := Lib.hid hcs
  have H1C := Lib.hid h1c
  have HB := Lib.hid hB
  have hvn : ∃ A c, v = .slice A n c ∧ n ≤ c ∧ c ≤ 9223372036854775807 := by
    obtain ⟨_, h2⟩ := id hown
    have hl0 := hown.1
    clear hown HO
    rcases h2 with ⟨rfl, hn0⟩ | ⟨g, cap, cur, rfl, hb, hh, hnc, hcm, _⟩
    · obtain rfl : n = 0 := by rw [hn0] at hl0; simp at hl0; omega
      exact ⟨none, 0, rfl, Nat.le_refl _, by omega⟩
    · exact ⟨_, _, rfl, hnc, by simpa [maxLen] using hcm⟩
  obtain ⟨A, c, rfl, hnc, hc⟩ := hvn
  clear hown hx hcs h1c hB
  go_enter Tryz.func173, Tryz.ntmps173
  go_wp2_with (at_builtin; refine wpList_append_own_at _ rfl _ _ 31 rfl base 75 i0 z 3 24 eKept.ht hi hz0 hz1 hz2 hzc (by omega) _ n xs rfl HO.out ⟨xb, 0, none⟩ 1 1 cs rfl (by rw [HCS.out]) (by simpa using HX.out) H1C.out (by simp only [maxLen]; omega) hbig hbase ?_; intro v1 w1 hown1 hg1 _ _)
  all_goals (go_ret; exact ⟨v1, rfl, hown1, HB.out.grown hg1 hbase (fun k hk => (HO.out.lt k hk).1)⟩)
theorem zeros_len_Kept (z : Value) (m : Nat) (hz : z.cells.size = 3) : (Builtin.zeroCells z.cells m).toList.length = m * 3 := by
  rw [Array.length_toList, size_zeroCells, hz]
set_option maxRecDepth 100000 in
set_option maxHeartbeats 4000000 in
theorem ins_grow_Kept (base g cap n i xb m vc : Nat) (xs cs : List Value) (w0 w : World) (hi : i < n) (hm0 : 0 < m) (hcap : cap < n + m) (hown : w.ownsRow base 75 3 (.slice (some ⟨g, 0, none⟩) n cap) n xs) (hx : w.heap[xb]? = some (.cells cs.toArray 75 (0, 0))) (hcs : cs.length = m * 3) (h1c : ∀ u ∈ cs, u.oneCell' = true) (h1x : ∀ u ∈ xs, u.oneCell' = true)
    (hB : Below base w0 w) (hbase : base ≤ w.heap.size) (hbig : (n + m) * 24 ≤ 140737488355328) :
    Calls Tryz.prog 173 #[.slice (some ⟨g, 0, none⟩) n cap, .int .i64 i, .slice (some ⟨xb, 0, none⟩) m vc] w fun e w' => ∃ v', e = .returned v' ∧ w'.ownsRow base 75 3 v' (n + m) (xs.take (i * 3) ++ cs ++ xs.drop (i * 3)) ∧ Below base w0 w' := by
  obtain ⟨i0, z, hi0, hz0, hz1, hz2, hzc⟩ := eKept.hi
  have hnc : n ≤ cap := by
    rcases hown.2 with ⟨h, _⟩ | ⟨g', cap', cur, he, _, _, hnc, _⟩
    · cases h
    · injection he with _ _ e3; omega
  have hxl := hown.1
  have hgr : ∀ ty, (Builtin.append_ #[31, 3] ty #[.slice (some ⟨g, 0, none⟩) i cap, .int .i64 ((n + m - i : Nat) : Int)]).run Tryz.prog w = _ := fun ty =>
    run_append_zeros_grows w base 31 3 ty 75 i0 z 3 24 eKept.ht Tryz.underlying3 hi0 hz0 hz1 hz2 hzc (by omega) (by omega) g i cap (xs.take (i * 3)) (own_take hown (Nat.le_of_lt hi)) .i64 (n + m - i) (by omega) (by omega) (by rw [show i + (n + m - i) = n + m by omega]; exact hbig) hbase
  rw [show i + (n + m - i) = n + m by omega] at hgr
  have hge := grownCap_ge w (n + m) cap 75
  have hcm : grownCap w (n + m) cap 75 ≤ maxLen := grownCap_le_maxLen w (n + m) cap 75 (by simp only [maxLen]; omega)
  generalize grownCap w (n + m) cap 75 = k at *
  generalize hCUR : (xs.take (i * 3)).toArray ++ Builtin.zeroCells z.cells (n + m - i) ++ Builtin.zeroCells z.cells (k - (n + m)) = CUR at hgr
  have hCl : CUR.toList = xs.take (i * 3) ++ (Builtin.zeroCells z.cells (n + m - i)).toList ++ (Builtin.zeroCells z.cells (k - (n + m))).toList := by rw [← hCUR]; simp
  have htl : (xs.take (i * 3)).length = i * 3 := by rw [List.length_take, hxl]; omega
  have hdl : (xs.drop (i * 3)).length = (n - i) * 3 := by rw [List.length_drop, hxl]; omega
  have hCs : CUR.size = k * 3 := by
    rw [← Array.length_toList, hCl, List.length_append, List.length_append, htl, zeros_len_Kept z _ hzc, zeros_len_Kept z _ hzc]; omega
  have hW1 : (w.drew.alloc (.cells CUR 75)).heap[w.heap.size]? = some (.cells CUR 75 (0, 0)) := heap_alloc_new w.drew _
  have hb1 : Below base w0 (w.drew.alloc (.cells CUR 75)) := (show Below base w0 w.drew from ⟨hB.os, hB.tape, hB.output, hB.size, hB.block⟩).alloc hbase _
  have hxb := lt_of_blk hx
  have hx1 : (w.drew.alloc (.cells CUR 75)).heap[xb]? = some (.cells cs.toArray 75 (0, 0)) := (heap_alloc_old w.drew _ hxb).trans hx
  generalize hWW : w.drew.alloc (.cells CUR 75) = W1 at *
  have hc1 : ∀ ty dc, (Builtin.copy_ #[31, 31] ty #[.slice (some ⟨w.heap.size, i * 3, none⟩) (n + m - i) dc, .slice (some ⟨xb, 0, none⟩) m vc]).run Tryz.prog W1 = .ok (goInt (m : Int)) (W1.setRow w.heap.size (splice CUR.toList (i * 3) cs).toArray) := fun ty dc =>
    run_copy_wide W1 _ _ ty 75 3 w.heap.size (i * 3) (n + m - i) dc ⟨xb, 0, none⟩ m vc m CUR 75 cs eKept.ht sKept hW1 (by simp only [Nat.min_def]; split <;> omega) (by omega) (by simpa using World.news_of_block (cs := cs.toArray) (t := 75) (fr := (0, 0)) hx1) (by omega) h1c
  have hW2 := setRow_heap W1 w.heap.size CUR (splice CUR.toList (i * 3) cs).toArray 75 (0, 0) hW1
  have hb2 : Below base w0 (W1.setRow w.heap.size (splice CUR.toList (i * 3) cs).toArray) := below_setRow hb1 hbase _
  have hg2 : ∀ j v, (xs.drop (i * 3))[j]? = some v → (W1.setRow w.heap.size (splice CUR.toList (i * 3) cs).toArray).cell? ((⟨g, i * 3, none⟩ : Addr).add j) = some v := by
    intro j v hj
    have hglt := (hown.lt g rfl).2
    have h1 : w.cell? ((⟨g, 0, none⟩ : Addr).add (i * 3 + j)) = some v := hown.cells rfl (i * 3 + j) v (by rw [List.getElem?_drop] at hj; exact hj)
    rw [add_plain] at h1 ⊢
    rw [Nat.zero_add] at h1
    have h2 : (W1.setRow w.heap.size (splice CUR.toList (i * 3) cs).toArray).heap[g]? = w.heap[g]? := by
      rw [setRow_other _ _ _ _ (by omega), ← hWW]
      exact heap_alloc_old w.drew _ hglt
    exact (World.cell?_of_block (w := w) (a := ⟨g, i * 3 + j, none⟩) h2).trans h1
  generalize hW3 : W1.setRow w.heap.size (splice CUR.toList (i * 3) cs).toArray = W2 at *
  have hsl : (splice CUR.toList (i * 3) cs).length = k * 3 := by rw [length_splice CUR.toList (i * 3) cs (by rw [hcs, Array.length_toList, hCs]; omega), Array.length_toList, hCs]
  have hc2 : ∀ W : World, (∀ b, W.heap[b]? = W2.heap[b]?) → (∀ x, W.cell? x = W2.cell? x) → ∀ ty dc sc, (Builtin.copy_ #[31, 31] ty #[.slice (some ⟨w.heap.size, (i + m) * 3, none⟩) (n + m - (i + m)) dc, .slice (some ⟨g, i * 3, none⟩) (n - i) sc]).run Tryz.prog W = .ok (goInt ((n - i : Nat) : Int)) (W.setRow w.heap.size (splice (splice CUR.toList (i * 3) cs) ((i + m) * 3) (xs.drop (i * 3))).toArray) := fun W hWb hWc ty dc sc => by
    have h := run_copy_wide (P := Tryz.prog) W 31 31 ty 75 3 w.heap.size ((i + m) * 3) (n + m - (i + m)) dc ⟨g, i * 3, none⟩ (n - i) sc (n - i) (splice CUR.toList (i * 3) cs).toArray 75 (xs.drop (i * 3)) eKept.ht sKept ((hWb _).trans hW2) (by simp only [Nat.min_def]; split <;> omega) hdl (fun j v hj => (hWc _).trans (hg2 j v hj)) (by simp only [List.size_toArray]; rw [hsl, hdl]; omega) (fun u hu => h1x u (List.mem_of_mem_drop hu))
    rw [List.toList_toArray] at h
    exact h
  have hfin : (splice (splice CUR.toList (i * 3) cs) ((i + m) * 3) (xs.drop (i * 3))) = xs.take (i * 3) ++ cs ++ xs.drop (i * 3) ++ (Builtin.zeroCells z.cells (k - (n + m))).toList := by
    rw [hCl, show (i + m) * 3 = i * 3 + m * 3 by omega]
    exact ins_list (n := n * 3) (m * 3) hxl (by omega) hcs (by rw [zeros_len_Kept z _ hzc]; omega) _
  have hout : ∀ W : World, W.heap[w.heap.size]? = some (.cells (splice (splice CUR.toList (i * 3) cs) ((i + m) * 3) (xs.drop (i * 3))).toArray 75 (0, 0)) → W.ownsRow base 75 3 (.slice (some ⟨w.heap.size, 0, none⟩) (n + m) k) (n + m) (xs.take (i * 3) ++ cs ++ xs.drop (i * 3)) := by
    intro W hW
    have hl : (xs.take (i * 3) ++ cs ++ xs.drop (i * 3)).length = (n + m) * 3 := by rw [List.length_append, List.length_append, htl, hcs, hdl]; omega
    refine ⟨hl, .inr ⟨_, _, _, rfl, hbase, hW, hge, hcm, ?_, ?_⟩⟩
    · simp only [List.size_toArray]; rw [length_splice _ _ _ (by rw [hsl, hdl]; omega), hsl]
    · rw [hfin, ← hl, List.take_left]
  have q1 : IntKind.i64.wrap ((n : Int) + m) = (n : Int) + m := by rw [IntKind.wrap_i64]; omega
  have q2 : IntKind.i64.wrap ((i : Int) + m) = (i : Int) + m := by rw [IntKind.wrap_i64]; omega
  have q3 : ((n : Int) + m - i) = ((n + m - i : Nat) : Int) := by omega
  have q4 : ((n : Int) == (i : Int)) = false := beq_f (by omega)
  have q5 : ((i : Int) == (n : Int)) = false := beq_f (by omega)
  have q6 : ((i : Int) + m).toNat = i + m := by omega
  have HB2 := Lib.hid hb2
  have HC1 := Lib.hid hc1
  have HC2 := Lib.hid hc2
  have HGR := Lib.hid hgr
  have HOUT := Lib.hid hout
  have HW2 := Lib.hid hW2
  have hck : i < k := by omega
  have kb1 : (0 : Int) ≤ (i : Int) + (m : Int) := by omega
  have kb2 : ¬ (k = i + m) := by omega
  have kb3 : (i : Int) ≤ (n : Int) + (m : Int) := by omega
  have kb4 : ¬ (cap = i) := by omega
  have kb5 : ¬ (k = i) := by omega
  have kb6 : i ≤ n := by omega
  have hz1 : ¬ ((m : Int) = 0) := by omega
  clear hc1 hc2 hgr hfin hsl hg2 hb2 hW2 hx1 hxb hb1 hW1 hCl hCs htl hdl hown hx h1c h1x hB hxl hz0 hz1 hz2 hzc hi0 hcs hCUR hbig hWW hW3
  unfold maxLen at hcm
  go_enter Tryz.func173, Tryz.ntmps173
  go_wp2_with (first | (at_builtin; with_reducible refine Lib.wpList_append_run _ rfl _ _ 31 3 rfl _ _ rfl rfl _ _ (HGR.out _) ?_) | (with_reducible refine wpList_copy_runI _ rfl _ _ 31 31 rfl _ _ rfl rfl (HC1.out _ _) ?_))
  go_region_law (refine step_copy_runI rfl _ _ 31 31 rfl _ _ (by simp [Act.eval, Act.put]) (by simp [Act.eval, Act.put]) (HC2.out W2.drew (fun _ => rfl) (fun _ => rfl) _ (k - (i + m)) (cap - i)) ?_)
  go_wp2_with fail
  go_ret
  refine ⟨_, rfl, by simpa [List.append_assoc] using HOUT.out _ (setRow_heap W2.drew _ _ _ 75 (0, 0) HW2.out), ?_⟩
  exact below_setRow (show Below base w0 W2.drew from ⟨HB2.out.os, HB2.out.tape, HB2.out.output, HB2.out.size, HB2.out.block⟩) hbase _
set_option maxRecDepth 100000 in
set_option maxHeartbeats 4000000 in
theorem ins_room_Kept (base g cap n i xb m vc : Nat) (xs cs : List Value) (w0 w : World) (hi : i < n) (hm0 : 0 < m) (hcap : n + m ≤ cap) (hown : w.ownsRow base 75 3 (.slice (some ⟨g, 0, none⟩) n cap) n xs) (hx : w.heap[xb]? = some (.cells cs.toArray 75 (0, 0))) (hxg : xb ≠ g) (hcs : cs.length = m * 3) (h1c : ∀ u ∈ cs, u.oneCell' = true) (h1x : ∀ u ∈ xs, u.oneCell' = true)
    (hB : Below base w0 w) :
    Calls Tryz.prog 173 #[.slice (some ⟨g, 0, none⟩) n cap, .int .i64 i, .slice (some ⟨xb, 0, none⟩) m vc] w fun e w' => ∃ v', e = .returned v' ∧ w'.ownsRow base 75 3 v' (n + m) (xs.take (i * 3) ++ cs ++ xs.drop (i * 3)) ∧ Below base w0 w' := by
  have hxl := hown.1
  obtain ⟨cur, hbg, hg, hcm, hcsz, htk⟩ : ∃ cur : Array Value, base ≤ g ∧ w.heap[g]? = some (.cells cur 75 (0, 0)) ∧ cap ≤ maxLen ∧ cur.size = cap * 3 ∧ cur.toList.take (n * 3) = xs := by
    rcases hown.2 with ⟨h, _⟩ | ⟨g', cap', cur, he, hb, hh, hnc, hcm, hcs, htk⟩
    · cases h
    · injection he with e1 e2 e3
      injection e1 with e1
      injection e1 with e1
      subst e1 e3
      exact ⟨cur, hb, hh, hcm, by omega, htk⟩
  have hdl : (xs.drop (i * 3)).length = (n - i) * 3 := by rw [List.length_drop, hxl]; omega
  have hov : ∀ lb cb, (callFunc 203 #[.slice (some ⟨xb, 0, none⟩) m vc, .slice (some ⟨g, (i + m) * 3, none⟩) lb cb]).run Tryz.prog w = .ok (.value (.bool false)) w := fun lb cb => by
    rw [run_callFunc_extern Tryz.func203 (by kernel_rfl) (by kernel_rfl) (by kernel_rfl) (e := Extern.SlicesOverlaps.overlaps #[31, 31] #[4]) (by kernel_rfl),
      Lib.run_overlaps_apart w 31 4 75 Tryz.underlying31 3 Tryz.sizeOf75 ⟨xb, 0, none⟩ ⟨g, (i + m) * 3, none⟩ m vc lb cb hxg 75 75 cs.toArray.size cur.size (by simp [World.shape?, hx]) (by simp [World.shape?, hg]) (by omega) (frozen_of_blk hx _) (frozen_of_blk hx _)]
    rfl
  have hg1 := setRow_heap w.drew g cur (splice cur.toList ((i + m) * 3) (xs.drop (i * 3))).toArray 75 (0, 0) hg
  have hc1 : ∀ ty dc sc, (Builtin.copy_ #[31, 31] ty #[.slice (some ⟨g, (i + m) * 3, none⟩) (n + m - (i + m)) dc, .slice (some ⟨g, i * 3, none⟩) (n + m - i) sc]).run Tryz.prog w.drew = .ok (goInt ((n - i : Nat) : Int)) (w.drew.setRow g (splice cur.toList ((i + m) * 3) (xs.drop (i * 3))).toArray) := fun ty dc sc =>
    run_copy_wide (P := Tryz.prog) w.drew 31 31 ty 75 3 g ((i + m) * 3) (n + m - (i + m)) dc ⟨g, i * 3, none⟩ (n + m - i) sc (n - i) cur 75 (xs.drop (i * 3)) eKept.ht sKept hg (by simp only [Nat.min_def]; split <;> omega) hdl
      (fun j v hj => by
        have h1 : w.cell? ((⟨g, 0, none⟩ : Addr).add (i * 3 + j)) = some v := hown.cells rfl (i * 3 + j) v (by rw [List.getElem?_drop] at hj; exact hj)
        rw [add_plain] at h1 ⊢
        rw [Nat.zero_add] at h1
        exact h1) (by rw [hdl, hcsz]; omega) (fun u hu => h1x u (List.mem_of_mem_drop hu))
  have hxb := lt_of_blk hx
  have hx1 : (w.drew.setRow g (splice cur.toList ((i + m) * 3) (xs.drop (i * 3))).toArray).heap[xb]? = some (.cells cs.toArray 75 (0, 0)) := (setRow_other w.drew g xb _ hxg).trans hx
  have hbd : Below base w0 (w.drew.setRow g (splice cur.toList ((i + m) * 3) (xs.drop (i * 3))).toArray) := below_setRow (show Below base w0 w.drew from ⟨hB.os, hB.tape, hB.output, hB.size, hB.block⟩) hbg _
  generalize hWW : w.drew.setRow g (splice cur.toList ((i + m) * 3) (xs.drop (i * 3))).toArray = W1 at *
  have hsl : (splice cur.toList ((i + m) * 3) (xs.drop (i * 3))).length = cap * 3 := by rw [length_splice cur.toList ((i + m) * 3) (xs.drop (i * 3)) (by rw [hdl, Array.length_toList, hcsz]; omega), Array.length_toList, hcsz]
  have hc2 : ∀ ty dc, (Builtin.copy_ #[31, 31] ty #[.slice (some ⟨g, i * 3, none⟩) (n + m - i) dc, .slice (some ⟨xb, 0, none⟩) m vc]).run Tryz.prog W1 = .ok (goInt (m : Int)) (W1.setRow g (splice (splice cur.toList ((i + m) * 3) (xs.drop (i * 3))) (i * 3) cs).toArray) := fun ty dc => by
    have h := run_copy_wide (P := Tryz.prog) W1 31 31 ty 75 3 g (i * 3) (n + m - i) dc ⟨xb, 0, none⟩ m vc m (splice cur.toList ((i + m) * 3) (xs.drop (i * 3))).toArray 75 cs eKept.ht sKept hg1 (by simp only [Nat.min_def]; split <;> omega) hcs (by simpa using World.news_of_block (cs := cs.toArray) (t := 75) (fr := (0, 0)) hx1) (by simp only [List.size_toArray]; rw [hsl, hcs]; omega) h1c
    rw [List.toList_toArray] at h
    exact h
  have hg2 := setRow_heap W1 g _ (splice (splice cur.toList ((i + m) * 3) (xs.drop (i * 3))) (i * 3) cs).toArray 75 (0, 0) hg1
  have hb2 := below_setRow hbd hbg (splice (splice cur.toList ((i + m) * 3) (xs.drop (i * 3))) (i * 3) cs).toArray
  have hout : (W1.setRow g (splice (splice cur.toList ((i + m) * 3) (xs.drop (i * 3))) (i * 3) cs).toArray).ownsRow base 75 3 (.slice (some ⟨g, 0, none⟩) (n + m) cap) (n + m) (xs.take (i * 3) ++ cs ++ xs.drop (i * 3)) := by
    have htl : (xs.take (i * 3)).length = i * 3 := by rw [List.length_take, hxl]; omega
    have hl : (xs.take (i * 3) ++ cs ++ xs.drop (i * 3)).length = (n + m) * 3 := by rw [List.length_append, List.length_append, htl, hcs, hdl]; omega
    refine ⟨hl, .inr ⟨_, _, _, rfl, hbg, hg2, hcap, hcm, ?_, ?_⟩⟩
    · simp only [List.size_toArray]; rw [length_splice _ _ _ (by rw [hsl, hcs]; omega), hsl]
    · have h := ins_list2 (xs := xs) (cs := cs) (cur := cur.toList) (i := i * 3) (n := n * 3) (m * 3) htk (by rw [Array.length_toList, hcsz]; omega) (by omega) hcs
      rw [show i * 3 + m * 3 = (i + m) * 3 by omega, show n * 3 + m * 3 = (n + m) * 3 by omega] at h
      exact h
  generalize hWW2 : W1.setRow g (splice (splice cur.toList ((i + m) * 3) (xs.drop (i * 3))) (i * 3) cs).toArray = W2 at *
  have HB2 := Lib.hid hb2
  have HC1 := Lib.hid hc1
  have HC2 := Lib.hid hc2
  have HOV := Lib.hid hov
  have HOUT := Lib.hid hout
  have hck : i < cap := by omega
  have q1 : IntKind.i64.wrap ((n : Int) + m) = (n : Int) + m := by rw [IntKind.wrap_i64]; unfold maxLen at hcm; omega
  have q2 : IntKind.i64.wrap ((i : Int) + m) = (i : Int) + m := by rw [IntKind.wrap_i64]; unfold maxLen at hcm; omega
  have q5 : ((i : Int) == (n : Int)) = false := beq_f (by omega)
  have q6 : ((i : Int) + m).toNat = i + m := by omega
  have q7 : ((n : Int) + m).toNat = n + m := by omega
  have kb1 : (0 : Int) ≤ (i : Int) + (m : Int) := by omega
  have kb2 : ¬ (cap = i + m) := by omega
  have kb3 : (i : Int) ≤ (n : Int) + (m : Int) := by omega
  have kb4 : ¬ (cap = i) := by omega
  have kb6 : i ≤ n := by omega
  have hz1 : ¬ ((m : Int) = 0) := by omega
  clear hb2 hc1 hc2 hov hout hown hx h1c h1x hB hxl hcs hWW hWW2 hg hg1 hg2 hcsz htk hdl hxb hx1 hbd hsl
  unfold maxLen at hcm
  go_enter Tryz.func173, Tryz.ntmps173
  go_wp2_with (simp only [HOV.out])
  go_region_law (refine step_copy_runI rfl _ _ 31 31 rfl _ _ (by simp [Act.eval, Act.put]) (by simp [Act.eval, Act.put]) (HC1.out _ (cap - (i + m)) (cap - i)) ?_)
  go_wp2_with (with_reducible refine wpList_copy_runI _ rfl _ _ 31 31 rfl _ _ rfl rfl (HC2.out _ _) ?_)
  go_ret
  exact ⟨_, rfl, by simpa [List.append_assoc] using HOUT.out, HB2.out⟩
theorem ins_one_Kept (base : Nat) (v : Value) (n i xb : Nat) (xs cs : List Value) (w0 w : World) (hi : i ≤ n) (hown : w.ownsRow base 75 3 v n xs) (hx : w.heap[xb]? = some (.cells cs.toArray 75 (0, 0))) (hxv : ∀ g, v.ownBlock = some g → xb ≠ g) (hcs : cs.length = 3) (h1c : ∀ u ∈ cs, u.oneCell' = true) (h1x : ∀ u ∈ xs, u.oneCell' = true)
    (hB : Below base w0 w) (hbase : base ≤ w.heap.size) (hbig : (n + 1) * 24 ≤ 140737488355328) :
    Calls Tryz.prog 173 #[v, .int .i64 i, .slice (some ⟨xb, 0, none⟩) 1 1] w fun e w' => ∃ v', e = .returned v' ∧ w'.ownsRow base 75 3 v' (n + 1) (xs.take (i * 3) ++ cs ++ xs.drop (i * 3)) ∧ Below base w0 w' := by
  by_cases he : i = n
  · subst he
    have hxl := hown.1
    have h := ins_end_Kept base v i xb xs cs w0 w hown hx hcs h1c hB hbase hbig
    rw [List.take_of_length_le (by omega), List.drop_of_length_le (by omega), List.append_nil]
    exact h
  · have hlt : i < n := by omega
    have h2 := hown.2
    rcases h2 with ⟨_, hn0⟩ | ⟨g, cap, cur, rfl, hb, hh, hnc, hcm, _⟩
    · have := hown.1; rw [hn0] at this; simp at this; omega
    · by_cases hc : n + 1 ≤ cap
      · exact ins_room_Kept base g cap n i xb 1 1 xs cs w0 w hlt (by omega) hc hown hx (hxv g rfl) (by omega) h1c h1x hB
      · exact ins_grow_Kept base g cap n i xb 1 1 xs cs w0 w hlt (by omega) (by omega) hown hx (by omega) h1c h1x hB hbase hbig
end Go.Proofs.YtgpkmellpllmgaaGreat
/-
  fold.put of Kept. Printed by gfold.py.
-/
set_option linter.unusedVariables false
set_option linter.unusedSimpArgs false
namespace Go.Proofs.YtgpkmellpllmgaaGreat
open Go Go.RowKit Go.Proofs.Base
open Go.Sort (grow)
set_option maxRecDepth 100000 in
theorem ord_Kept (y x : EKept) (w : World) : Calls Tryz.prog 112 #[.agg #[.int .u64 y.token, .int .u64 y.message, .int .i64 y.node], .agg #[.int .u64 x.token, .int .u64 x.message, .int .i64 x.node]] w fun e w' => e = .returned (.int .i64 (cmpKept y x)) ∧ Below w.heap.size w w' := by
  have hB : Below w.heap.size w ((w.alloc (.cells #[.int .u64 y.token, .int .u64 y.message, .int .i64 y.node] 75)).alloc (.cells #[.int .u64 x.token, .int .u64 x.message, .int .i64 x.node] 75)) := below_alloc (below_alloc (Below.refl _ _) _) _
  have HB := Lib.hid hB
  clear hB
  go_enter Tryz.func112, Tryz.ntmps112
  go_wp2_with (go_at_call 100; refine (ahead_c _ _ _ _ _).mono ?_; rintro e w' ⟨rfl, hb⟩)
  go_ret
  exact ⟨rfl, below2 HB.out hb⟩
set_option maxRecDepth 100000 in
theorem put1_Kept (B1 B2 : Nat) (y x : EKept) (w : World) (h1 : w.cell? ⟨B1, 0, none⟩ = some (.func (.func 112) #[] #[])) (h2 : w.heap[B2]? = some (.cells #[.int .u64 x.token, .int .u64 x.message, .int .i64 x.node] 75 (0, 0))) :
    Calls Tryz.prog 171 (#[.agg #[.int .u64 y.token, .int .u64 y.message, .int .i64 y.node]] ++ #[.pointer (some ⟨B1, 0, none⟩), .pointer (some ⟨B2, 0, none⟩)]) w fun e w' => e = .returned (.bool (decide (cmpKept y x = 0))) ∧ Below w.heap.size w w' := by
  have hB : Below w.heap.size w (w.alloc (.cells #[.int .u64 y.token, .int .u64 y.message, .int .i64 y.node] 75)) := below_alloc (Below.refl _ _) _
  have hc := (hB.cell (p := ⟨B1, 0, none⟩) (World.block_lt_of_cell? w _ h1)).trans h1
  have hk := block_below hB h2
  have k0 := cell_of_blk hk 0
  have k1 := cell_of_blk hk 1
  have k2 := cell_of_blk hk 2
  have HB := Lib.hid hB
  obtain ⟨cc, hcc⟩ : ∃ cc, cc = cmpKept y x := ⟨_, rfl⟩
  have ho := fun w => ord_Kept y x w
  simp only [← hcc] at ho
  have HO := Lib.hid ho
  rw [← hcc]
  clear hB h1 h2 hk hcc ho
  go_enter Tryz.func171, Tryz.ntmps171
  go_wp2_with (go_at_call 112; refine (HO.out _).mono ?_; rintro e w' ⟨rfl, hb⟩)
  go_ret
  exact ⟨by first | rfl | (refine congrArg (fun b => Ending.returned (Value.bool b)) ?_; rw [Bool.eq_iff_iff]; simp), below2 HB.out hb⟩
set_option maxRecDepth 100000 in
theorem put2_Kept (B1 B2 : Nat) (y x : EKept) (w : World) (h1 : w.cell? ⟨B1, 0, none⟩ = some (.func (.func 112) #[] #[])) (h2 : w.heap[B2]? = some (.cells #[.int .u64 x.token, .int .u64 x.message, .int .i64 x.node] 75 (0, 0))) :
    Calls Tryz.prog 172 (#[.agg #[.int .u64 y.token, .int .u64 y.message, .int .i64 y.node]] ++ #[.pointer (some ⟨B1, 0, none⟩), .pointer (some ⟨B2, 0, none⟩)]) w fun e w' => e = .returned (.bool (decide (0 < cmpKept y x))) ∧ Below w.heap.size w w' := by
  have hB : Below w.heap.size w (w.alloc (.cells #[.int .u64 y.token, .int .u64 y.message, .int .i64 y.node] 75)) := below_alloc (Below.refl _ _) _
  have hc := (hB.cell (p := ⟨B1, 0, none⟩) (World.block_lt_of_cell? w _ h1)).trans h1
  have hk := block_below hB h2
  have k0 := cell_of_blk hk 0
  have k1 := cell_of_blk hk 1
  have k2 := cell_of_blk hk 2
  have HB := Lib.hid hB
  obtain ⟨cc, hcc⟩ : ∃ cc, cc = cmpKept y x := ⟨_, rfl⟩
  have ho := fun w => ord_Kept y x w
  simp only [← hcc] at ho
  have HO := Lib.hid ho
  rw [← hcc]
  clear hB h1 h2 hk hcc ho
  go_enter Tryz.func172, Tryz.ntmps172
  go_wp2_with (go_at_call 112; refine (HO.out _).mono ?_; rintro e w' ⟨rfl, hb⟩)
  go_ret
  exact ⟨by first | rfl | (refine congrArg (fun b => Ending.returned (Value.bool b)) ?_; rw [Bool.eq_iff_iff]; simp), below2 HB.out hb⟩
set_option maxRecDepth 100000 in
set_option maxHeartbeats 4000000 in
theorem put_Kept (A : Option Addr) (n c : Nat) (x : EKept) (l : List EKept) (w : World) (S : Nat → Prop) (hl : l.length = n) (hby : (n + 1) * 24 ≤ 140737488355328) (hr : Row w S 3 n (.slice A n c) (l.flatMap encKept)) :
    Calls Tryz.prog 111 #[.slice A n c, .agg #[.int .u64 x.token, .int .u64 x.message, .int .i64 x.node], .func (.func 112) #[] #[]] w fun e w' => ∃ A' c', e = .returned (.slice A' (putL cmpKept x l).length c') ∧ w'.ownsRow w.heap.size 75 3 (.slice A' (putL cmpKept x l).length c') (putL cmpKept x l).length ((putL cmpKept x l).flatMap encKept) ∧ Below w.heap.size w w' := by
  obtain ⟨N, hN⟩ : ∃ N, N = (w.alloc (.cells #[.int .u64 x.token, .int .u64 x.message, .int .i64 x.node] 75)).alloc (.cells #[.func (.func 112) #[] #[]] 145) := ⟨_, rfl⟩
  have b0 : N.heap[w.heap.size]? = some (.cells #[.int .u64 x.token, .int .u64 x.message, .int .i64 x.node] 75 (0, 0)) := by rw [hN]; exact blk_alloc (blk_new _) _
  have b1 : N.heap[w.heap.size + 1]? = some (.cells #[.func (.func 112) #[] #[]] 145 (0, 0)) := by rw [hN]; exact blk_new_of _ (by simp)
  have hB : Below w.heap.size w N := by rw [hN]; exact below_alloc (below_alloc (Below.refl _ _) _) _
  have hsz : N.heap.size = w.heap.size + 2 := by rw [hN]; simp
  have HN := Lib.hid hN
  have HB := Lib.hid hB
  have HSZ := Lib.hid hsz
  have HP1 : Hid (∀ W, Below N.heap.size N W → ∀ y ∈ l, Calls Tryz.prog 171 (#[.agg #[.int .u64 y.token, .int .u64 y.message, .int .i64 y.node]] ++ #[.pointer (some ⟨w.heap.size + 1, 0, none⟩), .pointer (some ⟨w.heap.size, 0, none⟩)]) W fun e w' => e = .returned (.bool (decide (cmpKept y x = 0))) ∧ Below W.heap.size W w') :=
    Lib.hid (fun W hW y _ => put1_Kept _ _ y x W (cell_of_blk (block_below hW b1) 0) (block_below hW b0))
  have HP2 : Hid (∀ W, Below N.heap.size N W → ∀ y ∈ l, Calls Tryz.prog 172 (#[.agg #[.int .u64 y.token, .int .u64 y.message, .int .i64 y.node]] ++ #[.pointer (some ⟨w.heap.size + 1, 0, none⟩), .pointer (some ⟨w.heap.size, 0, none⟩)]) W fun e w' => e = .returned (.bool (decide (0 < cmpKept y x))) ∧ Below W.heap.size W w') :=
    Lib.hid (fun W hW y _ => put2_Kept _ _ y x W (cell_of_blk (block_below hW b1) 0) (block_below hW b0))
  have HCL := Lib.hid (clone_Kept A n c l N S hl (by omega) (hr.below (hB)))
  have e1 : ∀ args w, (callFunc 171 args).run Tryz.prog w = .ok (.enter 171 args) w := enters_of Tryz.func171 (by kernel_rfl) rfl
  have e2 : ∀ args w, (callFunc 172 args).run Tryz.prog w = .ok (.enter 172 args) w := enters_of Tryz.func172 (by kernel_rfl) rfl
  have E1 := Lib.hid e1
  have E2 := Lib.hid e2
  have HK := Lib.hid b0
  have HL := Lib.hid hl
  have HBY := Lib.hid hby
  obtain ⟨A0, c0, he0, hnc0, hcm0⟩ := hr.open_
  injection he0 with q1 _ q3
  subst q1 q3
  clear hN b0 b1 hB hr hsz e1 e2
  have HPL : Hid (putL cmpKept x l = if 0 ≤ idxP (fun y => decide (cmpKept y x = 0)) l then l.set (idxP (fun y => decide (cmpKept y x = 0)) l).toNat x else l.take (spotL cmpKept x l) ++ x :: l.drop (spotL cmpKept x l)) := Lib.hid rfl
  generalize putL cmpKept x l = L at *
  have hi1 := idxP_spec (fun y => decide (cmpKept y x = 0)) l
  have hi2 := idxP_spec (fun y => decide (0 < cmpKept y x)) l
  have HSP : Hid (spotL cmpKept x l = if idxP (fun y => decide (0 < cmpKept y x)) l < 0 then l.length else (idxP (fun y => decide (0 < cmpKept y x)) l).toNat) := Lib.hid rfl
  rcases hi1 with ⟨h1, _⟩ | ⟨j, hj, h1, -, -⟩
  · -- a new one
    obtain ⟨sp, hsp⟩ : ∃ sp, sp = spotL cmpKept x l := ⟨_, rfl⟩
    have hLe : Hid (L = l.take sp ++ x :: l.drop sp) := Lib.hid (by rw [HPL.out, h1, if_neg (by decide), hsp])
    have hspn : sp ≤ n := by rw [hsp, ← hl]; exact spotL_le _ _ _
    have HLe := hLe
    have hLL : L.length = n + 1 := by
      rw [hLe.out, List.length_append, List.length_cons, List.length_take, List.length_drop, hl]; omega
    have HINS : Hid (∀ (w5 : World) A5 c5, w5.ownsRow N.heap.size 75 3 (.slice A5 n c5) n (l.flatMap encKept) → Below N.heap.size N w5 → Calls Tryz.prog 173 #[.slice A5 n c5, .int .i64 sp, .slice (some ⟨w5.heap.size, 0, none⟩) 1 1] (w5.alloc (.cells #[.int .u64 x.token, .int .u64 x.message, .int .i64 x.node] 75)) fun e w' => ∃ A' c', e = .returned (.slice A' (n + 1) c') ∧ w'.ownsRow w.heap.size 75 3 (.slice A' (n + 1) c') (n + 1) (L.flatMap encKept) ∧ Below w.heap.size w w') := Lib.hid (fun w5 A5 c5 hown hb5 => by
      have hb5s := hb5.size
      have hNs := HSZ.out
      refine (ins_one_Kept w.heap.size _ n sp w5.heap.size (l.flatMap encKept) (encKept x) w (w5.alloc (.cells #[.int .u64 x.token, .int .u64 x.message, .int .i64 x.node] 75)) hspn ((own_base hown (by omega)).alloc _) (blk_new _) (fun g hg => by have := (hown.lt g hg).2; omega) rfl (oneKept x) (flat_one oneKept l) (below_alloc (below2 HB.out hb5) _) (by simp; omega) HBY.out).mono ?_
      rintro e w6 ⟨v6, rfl, hown6, hb6⟩
      rw [flat_ins (enc := encKept) lenKept, ← HLe.out] at hown6
      obtain ⟨A6, c6, rfl, _, _⟩ := (Row.of_own hown6).open_
      exact ⟨A6, c6, rfl, hown6, hb6⟩)
    rw [hLL]
    clear HPL hLe
    rcases hi2 with ⟨h2, _⟩ | ⟨j, hj, h2, -, -⟩
    · have hspv : sp = n := by rw [hsp, HSP.out, h2, if_pos (by decide), hl]
      subst hspv
      clear hsp HSP hLL
      go_enter Tryz.func111, Tryz.ntmps111
      go_wp2_with fail
      rw [show (w.alloc (.cells #[.int .u64 x.token, .int .u64 x.message, .int .i64 x.node] 75)).alloc (.cells #[.func (.func 112) #[] #[]] 145) = N from HN.out.symm]
      go_wp2_with (go_at_call 28; refine HCL.out.mono ?_; rintro e w1 ⟨A1, c1, rfl, hown, hb⟩; have HO1 := Lib.hid hown; have HB1 := Lib.hid hb; obtain ⟨_, _, _, hnc1, hcm1⟩ := (Row.of_own hown).open_; clear hown hb)
      refine (idx_Kept _ _ _ 171 _ l _ N _ _ E1.out HL.out (Row.of_own HO1.out) HB1.out HP1.out).mono ?_
      rintro e w2 ⟨rfl, hb⟩
      rw [h1]
      have HB2 := Lib.hid (below2 HB1.out hb)
      have HO2 := Lib.hid (own_mut HO1.out (Mut.of_below hb (fun _ => False)) (fun _ _ h => h))
      clear hb
      go_wp2_with fail
      refine (idx_Kept _ _ _ 172 _ l _ N _ _ E2.out HL.out (Row.of_own HO2.out) HB2.out HP2.out).mono ?_
      rintro e w3 ⟨rfl, hb⟩
      rw [h2]
      have HB3 := Lib.hid (below2 HB2.out hb)
      have HO3 := Lib.hid (own_mut HO2.out (Mut.of_below hb (fun _ => False)) (fun _ _ h => h))
      have hk3 := block_below HB3.out HK.out
      have k0 := cell_of_blk hk3 0; have k1 := cell_of_blk hk3 1; have k2 := cell_of_blk hk3 2
      clear hb hk3
      go_wp2_with (go_at_call 173; refine (HINS.out _ _ _ HO3.out HB3.out).mono ?_; rintro e w4 ⟨A4, c4, rfl, hown, hb⟩; have HO4 := Lib.hid hown; have HB4 := Lib.hid hb; clear hown hb)
      go_ret
      exact ⟨A4, c4, rfl, HO4.out, HB4.out⟩
    · have hspv : sp = j := by rw [hsp, HSP.out, h2, if_neg (by omega)]; simp
      subst hspv
      have hj0 : ¬ ((sp : Int) < 0) := by omega
      clear hsp HSP hLL
      go_enter Tryz.func111, Tryz.ntmps111
      go_wp2_with fail
      rw [show (w.alloc (.cells #[.int .u64 x.token, .int .u64 x.message, .int .i64 x.node] 75)).alloc (.cells #[.func (.func 112) #[] #[]] 145) = N from HN.out.symm]
      go_wp2_with (go_at_call 28; refine HCL.out.mono ?_; rintro e w1 ⟨A1, c1, rfl, hown, hb⟩; have HO1 := Lib.hid hown; have HB1 := Lib.hid hb; obtain ⟨_, _, _, hnc1, hcm1⟩ := (Row.of_own hown).open_; clear hown hb)
      refine (idx_Kept _ _ _ 171 _ l _ N _ _ E1.out HL.out (Row.of_own HO1.out) HB1.out HP1.out).mono ?_
      rintro e w2 ⟨rfl, hb⟩
      rw [h1]
      have HB2 := Lib.hid (below2 HB1.out hb)
      have HO2 := Lib.hid (own_mut HO1.out (Mut.of_below hb (fun _ => False)) (fun _ _ h => h))
      clear hb
      go_wp2_with fail
      refine (idx_Kept _ _ _ 172 _ l _ N _ _ E2.out HL.out (Row.of_own HO2.out) HB2.out HP2.out).mono ?_
      rintro e w3 ⟨rfl, hb⟩
      rw [h2]
      have HB3 := Lib.hid (below2 HB2.out hb)
      have HO3 := Lib.hid (own_mut HO2.out (Mut.of_below hb (fun _ => False)) (fun _ _ h => h))
      have hk3 := block_below HB3.out HK.out
      have k0 := cell_of_blk hk3 0; have k1 := cell_of_blk hk3 1; have k2 := cell_of_blk hk3 2
      clear hb hk3
      go_wp2_with (go_at_call 173; refine (HINS.out _ _ _ HO3.out HB3.out).mono ?_; rintro e w4 ⟨A4, c4, rfl, hown, hb⟩; have HO4 := Lib.hid hown; have HB4 := Lib.hid hb; clear hown hb)
      go_ret
      exact ⟨A4, c4, rfl, HO4.out, HB4.out⟩
  · -- one that is there
    have hLe : Hid (L = l.set j x) := Lib.hid (by rw [HPL.out, h1, if_pos (by omega)]; simp)
    have hLL : L.length = n := by rw [hLe.out, List.length_set, hl]
    have hjn : j < n := by omega
    have hj0 : (0 : Int) ≤ (j : Int) := by omega
    have HFS := Lib.hid (flat_splice (enc := encKept) lenKept hj x)
    have HVL : Hid ((l.flatMap encKept).length = n * 3) := Lib.hid (by rw [flat_len (enc := encKept) lenKept, hl])
    rw [hLL]
    clear HPL hi2 HSP hj HP2
    go_enter Tryz.func111, Tryz.ntmps111
    go_wp2_with fail
    rw [show (w.alloc (.cells #[.int .u64 x.token, .int .u64 x.message, .int .i64 x.node] 75)).alloc (.cells #[.func (.func 112) #[] #[]] 145) = N from HN.out.symm]
    go_wp2_with (go_at_call 28; refine HCL.out.mono ?_; rintro e w1 ⟨A1, c1, rfl, hown, hb⟩; have HO1 := Lib.hid hown; have HB1 := Lib.hid hb; obtain ⟨_, _, _, hnc1, hcm1⟩ := (Row.of_own hown).open_; clear hown hb)
    refine (idx_Kept _ _ _ 171 _ l _ N _ _ E1.out HL.out (Row.of_own HO1.out) HB1.out HP1.out).mono ?_
    rintro e w2 ⟨rfl, hb⟩
    rw [h1]
    have HB2 := Lib.hid (below2 HB1.out hb)
    have HO2 := Lib.hid (own_mut HO1.out (Mut.of_below hb (fun _ => False)) (fun _ _ h => h))
    have hk3 := block_below HB2.out HK.out
    have k0 := cell_of_blk hk3 0; have k1 := cell_of_blk hk3 1; have k2 := cell_of_blk hk3 2
    clear hb hk3
    obtain ⟨g, cap, cur, hv, hbg, hhg, hnc5, hcm5, hcs5, htk5⟩ := own_some HO2.out (by omega)
    injection hv with hv1 hv2 hv3
    subst hv1 hv3
    obtain ⟨u0, hu0⟩ : ∃ u, cur[j * 3]? = some u := ⟨_, Array.getElem?_eq_getElem (by omega)⟩; have j0 := (cell_of_blk hhg (j * 3)).trans hu0; have f0 := frozen_of_blk hhg (j * 3); clear hu0; obtain ⟨u1, hu1⟩ : ∃ u, cur[j * 3 + 1]? = some u := ⟨_, Array.getElem?_eq_getElem (by omega)⟩; have j1 := (cell_of_blk hhg (j * 3 + 1)).trans hu1; have f1 := frozen_of_blk hhg (j * 3 + 1); clear hu1; obtain ⟨u2, hu2⟩ : ∃ u, cur[j * 3 + 2]? = some u := ⟨_, Array.getElem?_eq_getElem (by omega)⟩; have j2 := (cell_of_blk hhg (j * 3 + 2)).trans hu2; have f2 := frozen_of_blk hhg (j * 3 + 2); clear hu2
    have HG := Lib.hid hhg
    have HTK := Lib.hid htk5
    have HCS := Lib.hid hcs5
    have HBG := Lib.hid hbg
    have HCM := Lib.hid hcm5
    clear hhg htk5 hcs5 hbg hcm5
    go_wp2_with fail
    go_ret
    have hg2 := set_blk (o := j * 3 + 2) (set_blk (o := j * 3 + 1) (set_blk (o := j * 3) (HG.out) (.int .u64 x.token)) (.int .u64 x.message)) (.int .i64 x.node)
    have hbg := HBG.out
    have hNs := HSZ.out
    refine ⟨_, _, rfl, ?_, ?_⟩
    · refine ⟨by rw [flat_len (enc := encKept) lenKept, hLL], .inr ⟨g, _, _, rfl, by omega, hg2, hnc5, HCM.out, by simp only [Array.size_setIfInBounds]; have := HCS.out; omega, ?_⟩⟩
      rw [hLe.out, ← HFS.out, ← setAll_splice _ _ _ (by rw [HVL.out, lenKept]; omega), ← HTK.out]
      simp only [Array.toList_setIfInBounds, List.take_set]
      rfl
    · exact ((((below2 HB.out HB2.out)).setCell (p := ⟨g, j * 3, none⟩) (by show _ ≤ g; omega) _).setCell (p := ⟨g, j * 3 + 1, none⟩) (by show _ ≤ g; omega) _).setCell (p := ⟨g, j * 3 + 2, none⟩) (by show _ ≤ g; omega) _
end Go.Proofs.YtgpkmellpllmgaaGreat
/-
  Lists of Listed: searched, copied. Printed by gfold.py.
-/
set_option linter.unusedVariables false
set_option linter.unusedSimpArgs false
namespace Go.Proofs.YtgpkmellpllmgaaGreat
open Go Go.RowKit Go.Proofs.Base
open Go.Sort (grow)
set_option maxRecDepth 100000 in
set_option maxHeartbeats 2000000 in
theorem clone_Lst (A : Option Addr) (n c : Nat) (l : List ELst) (w : World) (S : Nat → Prop) (hl : l.length = n) (hby : n * 88 ≤ 140737488355328) (hr : Row w S 7 n (.slice A n c) (l.flatMap encLst)) :
    Calls Tryz.prog 30 #[.slice A n c] w fun e w' => ∃ A' c', e = .returned (.slice A' n c') ∧ w'.ownsRow w.heap.size 68 7 (.slice A' n c') n (l.flatMap encLst) ∧ Below w.heap.size w w' := by
  obtain ⟨i0, z, hi0, hz0, hz1, hz2, hzc⟩ := eLst.hi
  have q : ∀ (w : World) (a : Option Addr) (n c n' c' : Nat), (binOp .eql 32 (.slice a n c) (.slice none n' c')).run Tryz.prog w = .ok (.bool a.isNone) w := fun w a n c n' c' => Lib.run_eql_slice_nil w _ _ a n c n' c' Tryz.underlying32
  obtain ⟨A', c', he, hnc, hcm, hlen, hnone, hsome⟩ := hr
  injection he with e1 _ e3
  subst e1 e3
  cases A with
  | none =>
    obtain ⟨rfl, rfl⟩ := hnone rfl
    obtain rfl : l = [] := List.eq_nil_of_length_eq_zero hl
    clear hsome hlen
    go_enter Tryz.func30, Tryz.ntmps30
    go_wp2
    go_ret
    exact ⟨none, 0, rfl, own_nil _ _ _ _, Below.refl _ _⟩
  | some ad =>
    have HC : Hid (∀ j u, (l.flatMap encLst)[j]? = some u → w.cell? (ad.add j) = some u) := Lib.hid (fun j u hu => by
      rcases Nat.eq_zero_or_pos n with h0 | h0
      · subst h0
        obtain rfl : l = [] := List.eq_nil_of_length_eq_zero hl
        simp at hu
      · obtain ⟨b, o, hA, _, _, hc⟩ := hsome h0
        injection hA with hA
        subst hA
        rw [add_plain]
        exact hc j u hu)
    have HVL := Lib.hid hlen
    have H1 := Lib.hid (flat_one (enc := encLst) oneLst l)
    clear hsome hlen hnone hl
    go_enter Tryz.func30, Tryz.ntmps30
    go_wp2_with (at_builtin; refine wpList_append_own _ rfl _ _ 32 rfl w.heap.size 68 i0 z 7 88 Tryz.underlying32 hi0 hz0 hz1 hz2 hzc (by omega) _ _ _ rfl (World.ownsRow_made w #[] 0 (Nat.le_refl _) (Nat.zero_le _) (by simp)) ad n c (l.flatMap encLst) rfl HVL.out (fun j u hj => Lib.cell?_alloc_some _ (HC.out j u hj)) H1.out (by simp only [maxLen]; omega) (by omega) (by simp) ?_; intro v' w1 hown hgrow hnil)
    go_ret
    have hown' : w1.ownsRow w.heap.size 68 7 v' n (l.flatMap encLst) := by simpa using hown
    obtain ⟨A2, c2, rfl, _, _⟩ := (Row.of_own hown').open_
    exact ⟨A2, c2, rfl, hown', ((Below.refl _ w).alloc (Nat.le_refl _) _).grown hgrow (by simp) (by intro k hk; injection hk with hk; exact Nat.le_of_eq hk)⟩
set_option maxRecDepth 100000 in
set_option maxHeartbeats 1000000 in
theorem idx_Lst (A : Option Addr) (n c g : Nat) (lb : Array Value) (l : List ELst) (p : ELst → Bool) (w0 w : World) (S : Nat → Prop) (eg : ∀ args w, (callFunc g args).run Tryz.prog w = .ok (.enter g args) w) (hl : l.length = n) (hr : Row w S 7 n (.slice A n c) (l.flatMap encLst)) (h0 : Below w0.heap.size w0 w)
    (hp : ∀ W, Below w0.heap.size w0 W → ∀ x ∈ l, Calls Tryz.prog g (#[.agg #[.int .u64 x.token, .int .u64 x.inst, .int .i64 x.node, .string x.name, .string x.key, .int .u64 x.message, .slice x.vA x.vN x.vC]] ++ lb) W fun e w' => e = .returned (.bool (p x)) ∧ Below W.heap.size W w') :
    Calls Tryz.prog 119 #[.slice A n c, .func (.func g) #[] lb] w fun e w' => e = .returned (.int .i64 (idxP p l)) ∧ Below w.heap.size w w' := by
  obtain ⟨A', c', he, hnc, hcm⟩ := hr.open_
  injection he with e1 _ e3
  subst e1 e3
  have HR := Lib.hid hr
  have HL := Lib.hid hl
  have H0 := Lib.hid h0
  have HP := Lib.hid hp
  clear hr hl h0 hp
  go_enter Tryz.func119, Tryz.ntmps119
  go_wp2_with fail
  go_loopw [5, 8] (fun _ i wr => ∃ k : Nat, k ≤ n ∧ i = .int .i64 k ∧ Hid (idxP p l = idxGoP p (l.drop k) k) ∧ Below w.heap.size w wr) (fun _ i _ => n - (intOf i).toNat)
  case atStart => exact ⟨0, by omega, rfl, Lib.hid rfl, Below.refl _ _⟩
  case round =>
    obtain ⟨k, hk, rfl, HK, hbl⟩ := hrel
    have HBL := Lib.hid hbl
    by_cases hkn : k < n
    · have hk1 : k < l.length := by rw [HL.out]; exact hkn
      obtain ⟨b, o, rfl, _, hlt, hc⟩ := HR.out.at_ (by omega)
      have c0 : wr.cell? ⟨b, o + k * 7, none⟩ = some (.int .u64 l[k].token) := (hbl.cell (p := ⟨b, o + k * 7, none⟩) hlt).trans (by simpa using hc k 0 _ ((flat_at (enc := encLst) lenLst hk1 0 (by decide)).trans rfl))
      have c1 : wr.cell? ⟨b, o + k * 7 + 1, none⟩ = some (.int .u64 l[k].inst) := (hbl.cell (p := ⟨b, o + k * 7 + 1, none⟩) hlt).trans (by simpa using hc k 1 _ ((flat_at (enc := encLst) lenLst hk1 1 (by decide)).trans rfl))
      have c2 : wr.cell? ⟨b, o + k * 7 + 2, none⟩ = some (.int .i64 l[k].node) := (hbl.cell (p := ⟨b, o + k * 7 + 2, none⟩) hlt).trans (by simpa using hc k 2 _ ((flat_at (enc := encLst) lenLst hk1 2 (by decide)).trans rfl))
      have c3 : wr.cell? ⟨b, o + k * 7 + 3, none⟩ = some (.string l[k].name) := (hbl.cell (p := ⟨b, o + k * 7 + 3, none⟩) hlt).trans (by simpa using hc k 3 _ ((flat_at (enc := encLst) lenLst hk1 3 (by decide)).trans rfl))
      have c4 : wr.cell? ⟨b, o + k * 7 + 4, none⟩ = some (.string l[k].key) := (hbl.cell (p := ⟨b, o + k * 7 + 4, none⟩) hlt).trans (by simpa using hc k 4 _ ((flat_at (enc := encLst) lenLst hk1 4 (by decide)).trans rfl))
      have c5 : wr.cell? ⟨b, o + k * 7 + 5, none⟩ = some (.int .u64 l[k].message) := (hbl.cell (p := ⟨b, o + k * 7 + 5, none⟩) hlt).trans (by simpa using hc k 5 _ ((flat_at (enc := encLst) lenLst hk1 5 (by decide)).trans rfl))
      have c6 : wr.cell? ⟨b, o + k * 7 + 6, none⟩ = some (.slice l[k].vA l[k].vN l[k].vC) := (hbl.cell (p := ⟨b, o + k * 7 + 6, none⟩) hlt).trans (by simpa using hc k 6 _ ((flat_at (enc := encLst) lenLst hk1 6 (by decide)).trans rfl))
      have hcall := HP.out wr (below2 H0.out hbl) l[k] (List.getElem_mem hk1)
      have hq := HK.out
      rw [List.drop_eq_getElem_cons hk1] at hq
      clear hc
      generalize l[k] = x at *
      have HQ := Lib.hid hq
      clear hq hbl HK
      by_cases hx : p x = true
      · rw [hx] at hcall
        have HX := Lib.hid hx
        clear hx
        go_wp2_with (go_at_fn g; refine hcall.mono ?_; rintro e w1 ⟨rfl, hb1⟩)
        go_ret
        refine ⟨?_, below2 HBL.out hb1⟩
        have e2 : idxGoP p (x :: l.drop (k + 1)) k = k := by show (if _ then _ else _) = _; rw [if_pos HX.out]
        rw [HQ.out, e2]; rfl
      · have hx2 : p x = false := by simpa using hx
        rw [hx2] at hcall
        have HQ2 : Hid (idxP p l = idxGoP p (l.drop (k + 1)) (k + 1)) := Lib.hid (by rw [HQ.out]; show (if _ then _ else _) = _; rw [if_neg hx])
        clear hx hx2
        go_wp2_with (go_at_fn g; refine hcall.mono ?_; rintro e w1 ⟨rfl, hb1⟩)
        go_roundw
        case rel => exact ⟨k + 1, by omega, by go_num, HQ2, below2 HBL.out hb1⟩
        case measure => simp [intOf]; omega
    · have HQ : Hid (idxP p l = -1) := Lib.hid (by rw [HK.out, List.drop_eq_nil_of_le (by rw [HL.out]; omega)]; rfl)
      clear HK
      go_wp2_with fail
      go_ret
      exact ⟨by rw [HQ.out]; rfl, hbl⟩
end Go.Proofs.YtgpkmellpllmgaaGreat
/-
  slices.Insert of one Listed. Printed by gfold.py out of XIns.
-/
set_option linter.unusedVariables false
set_option linter.unusedSimpArgs false
namespace Go.Proofs.YtgpkmellpllmgaaGreat
open Go Go.RowKit Go.Proofs.Base
set_option maxRecDepth 100000 in
set_option maxHeartbeats 2000000 in
theorem ins_end_Lst (base : Nat) (v : Value) (n xb : Nat) (xs cs : List Value) (w0 w : World) (hown : w.ownsRow base 68 7 v n xs) (hx : w.heap[xb]? = some (.cells cs.toArray 68 (0, 0))) (hcs : cs.length = 7) (h1c : ∀ u ∈ cs, u.oneCell' = true)
    (hB : Below base w0 w) (hbase : base ≤ w.heap.size) (hbig : (n + 1) * 88 ≤ 140737488355328) :
    Calls Tryz.prog 176 #[v, .int .i64 n, .slice (some ⟨xb, 0, none⟩) 1 1] w fun e w' => ∃ v', e = .returned v' ∧ w'.ownsRow base 68 7 v' (n + 1) (xs ++ cs) ∧ Below base w0 w' := by
  obtain ⟨i0, z, hi, hz0, hz1, hz2, hzc⟩ := eLst.hi
  have HO := Lib.hid hown
  have HX := Lib.hid (World.news_of_block (cs := cs.toArray) (t := 68) (fr := (0, 0)) hx)
  have HCS := Lib.hid hcs
  have H1C := Lib.hid h1c
  have HB := Lib.hid hB
  have hvn : ∃ A c, v = .slice A n c ∧ n ≤ c ∧ c ≤ 9223372036854775807 := by
    obtain ⟨_, h2⟩ := id hown
    have hl0 := hown.1
    clear hown HO
    rcases h2 with ⟨rfl, hn0⟩ | ⟨g, cap, cur, rfl, hb, hh, hnc, hcm, _⟩
    · obtain rfl : n = 0 := by rw [hn0] at hl0; simp at hl0; omega
      exact ⟨none, 0, rfl, Nat.le_refl _, by omega⟩
    · exact ⟨_, _, rfl, hnc, by simpa [maxLen] using hcm⟩
  obtain ⟨A, c, rfl, hnc, hc⟩ := hvn
  clear hown hx hcs h1c hB
  go_enter Tryz.func176, Tryz.ntmps176
  go_wp2_with (at_builtin; refine wpList_append_own_at _ rfl _ _ 32 rfl base 68 i0 z 7 88 eLst.ht hi hz0 hz1 hz2 hzc (by omega) _ n xs rfl HO.out ⟨xb, 0, none⟩ 1 1 cs rfl (by rw [HCS.out]) (by simpa using HX.out) H1C.out (by simp only [maxLen]; omega) hbig hbase ?_; intro v1 w1 hown1 hg1 _ _)
  all_goals (go_ret; exact ⟨v1, rfl, hown1, HB.out.grown hg1 hbase (fun k hk => (HO.out.lt k hk).1)⟩)
theorem zeros_len_Lst (z : Value) (m : Nat) (hz : z.cells.size = 7) : (Builtin.zeroCells z.cells m).toList.length = m * 7 := by
  rw [Array.length_toList, size_zeroCells, hz]
set_option maxRecDepth 100000 in
set_option maxHeartbeats 4000000 in
theorem ins_grow_Lst (base g cap n i xb m vc : Nat) (xs cs : List Value) (w0 w : World) (hi : i < n) (hm0 : 0 < m) (hcap : cap < n + m) (hown : w.ownsRow base 68 7 (.slice (some ⟨g, 0, none⟩) n cap) n xs) (hx : w.heap[xb]? = some (.cells cs.toArray 68 (0, 0))) (hcs : cs.length = m * 7) (h1c : ∀ u ∈ cs, u.oneCell' = true) (h1x : ∀ u ∈ xs, u.oneCell' = true)
    (hB : Below base w0 w) (hbase : base ≤ w.heap.size) (hbig : (n + m) * 88 ≤ 140737488355328) :
    Calls Tryz.prog 176 #[.slice (some ⟨g, 0, none⟩) n cap, .int .i64 i, .slice (some ⟨xb, 0, none⟩) m vc] w fun e w' => ∃ v', e = .returned v' ∧ w'.ownsRow base 68 7 v' (n + m) (xs.take (i * 7) ++ cs ++ xs.drop (i * 7)) ∧ Below base w0 w' := by
  obtain ⟨i0, z, hi0, hz0, hz1, hz2, hzc⟩ := eLst.hi
  have hnc : n ≤ cap := by
    rcases hown.2 with ⟨h, _⟩ | ⟨g', cap', cur, he, _, _, hnc, _⟩
    · cases h
    · injection he with _ _ e3; omega
  have hxl := hown.1
  have hgr : ∀ ty, (Builtin.append_ #[32, 3] ty #[.slice (some ⟨g, 0, none⟩) i cap, .int .i64 ((n + m - i : Nat) : Int)]).run Tryz.prog w = _ := fun ty =>
    run_append_zeros_grows w base 32 3 ty 68 i0 z 7 88 eLst.ht Tryz.underlying3 hi0 hz0 hz1 hz2 hzc (by omega) (by omega) g i cap (xs.take (i * 7)) (own_take hown (Nat.le_of_lt hi)) .i64 (n + m - i) (by omega) (by omega) (by rw [show i + (n + m - i) = n + m by omega]; exact hbig) hbase
  rw [show i + (n + m - i) = n + m by omega] at hgr
  have hge := grownCap_ge w (n + m) cap 68
  have hcm : grownCap w (n + m) cap 68 ≤ maxLen := grownCap_le_maxLen w (n + m) cap 68 (by simp only [maxLen]; omega)
  generalize grownCap w (n + m) cap 68 = k at *
  generalize hCUR : (xs.take (i * 7)).toArray ++ Builtin.zeroCells z.cells (n + m - i) ++ Builtin.zeroCells z.cells (k - (n + m)) = CUR at hgr
  have hCl : CUR.toList = xs.take (i * 7) ++ (Builtin.zeroCells z.cells (n + m - i)).toList ++ (Builtin.zeroCells z.cells (k - (n + m))).toList := by rw [← hCUR]; simp
  have htl : (xs.take (i * 7)).length = i * 7 := by rw [List.length_take, hxl]; omega
  have hdl : (xs.drop (i * 7)).length = (n - i) * 7 := by rw [List.length_drop, hxl]; omega
  have hCs : CUR.size = k * 7 := by
    rw [← Array.length_toList, hCl, List.length_append, List.length_append, htl, zeros_len_Lst z _ hzc, zeros_len_Lst z _ hzc]; omega
  have hW1 : (w.drew.alloc (.cells CUR 68)).heap[w.heap.size]? = some (.cells CUR 68 (0, 0)) := heap_alloc_new w.drew _
  have hb1 : Below base w0 (w.drew.alloc (.cells CUR 68)) := (show Below base w0 w.drew from ⟨hB.os, hB.tape, hB.output, hB.size, hB.block⟩).alloc hbase _
  have hxb := lt_of_blk hx
  have hx1 : (w.drew.alloc (.cells CUR 68)).heap[xb]? = some (.cells cs.toArray 68 (0, 0)) := (heap_alloc_old w.drew _ hxb).trans hx
  generalize hWW : w.drew.alloc (.cells CUR 68) = W1 at *
  have hc1 : ∀ ty dc, (Builtin.copy_ #[32, 32] ty #[.slice (some ⟨w.heap.size, i * 7, none⟩) (n + m - i) dc, .slice (some ⟨xb, 0, none⟩) m vc]).run Tryz.prog W1 = .ok (goInt (m : Int)) (W1.setRow w.heap.size (splice CUR.toList (i * 7) cs).toArray) := fun ty dc =>
    run_copy_wide W1 _ _ ty 68 7 w.heap.size (i * 7) (n + m - i) dc ⟨xb, 0, none⟩ m vc m CUR 68 cs eLst.ht sLst hW1 (by simp only [Nat.min_def]; split <;> omega) (by omega) (by simpa using World.news_of_block (cs := cs.toArray) (t := 68) (fr := (0, 0)) hx1) (by omega) h1c
  have hW2 := setRow_heap W1 w.heap.size CUR (splice CUR.toList (i * 7) cs).toArray 68 (0, 0) hW1
  have hb2 : Below base w0 (W1.setRow w.heap.size (splice CUR.toList (i * 7) cs).toArray) := below_setRow hb1 hbase _
  have hg2 : ∀ j v, (xs.drop (i * 7))[j]? = some v → (W1.setRow w.heap.size (splice CUR.toList (i * 7) cs).toArray).cell? ((⟨g, i * 7, none⟩ : Addr).add j) = some v := by
    intro j v hj
    have hglt := (hown.lt g rfl).2
    have h1 : w.cell? ((⟨g, 0, none⟩ : Addr).add (i * 7 + j)) = some v := hown.cells rfl (i * 7 + j) v (by rw [List.getElem?_drop] at hj; exact hj)
    rw [add_plain] at h1 ⊢
    rw [Nat.zero_add] at h1
    have h2 : (W1.setRow w.heap.size (splice CUR.toList (i * 7) cs).toArray).heap[g]? = w.heap[g]? := by
      rw [setRow_other _ _ _ _ (by omega), ← hWW]
      exact heap_alloc_old w.drew _ hglt
    exact (World.cell?_of_block (w := w) (a := ⟨g, i * 7 + j, none⟩) h2).trans h1
  generalize hW3 : W1.setRow w.heap.size (splice CUR.toList (i * 7) cs).toArray = W2 at *
  have hsl : (splice CUR.toList (i * 7) cs).length = k * 7 := by rw [length_splice CUR.toList (i * 7) cs (by rw [hcs, Array.length_toList, hCs]; omega), Array.length_toList, hCs]
  have hc2 : ∀ W : World, (∀ b, W.heap[b]? = W2.heap[b]?) → (∀ x, W.cell? x = W2.cell? x) → ∀ ty dc sc, (Builtin.copy_ #[32, 32] ty #[.slice (some ⟨w.heap.size, (i + m) * 7, none⟩) (n + m - (i + m)) dc, .slice (some ⟨g, i * 7, none⟩) (n - i) sc]).run Tryz.prog W = .ok (goInt ((n - i : Nat) : Int)) (W.setRow w.heap.size (splice (splice CUR.toList (i * 7) cs) ((i + m) * 7) (xs.drop (i * 7))).toArray) := fun W hWb hWc ty dc sc => by
    have h := run_copy_wide (P := Tryz.prog) W 32 32 ty 68 7 w.heap.size ((i + m) * 7) (n + m - (i + m)) dc ⟨g, i * 7, none⟩ (n - i) sc (n - i) (splice CUR.toList (i * 7) cs).toArray 68 (xs.drop (i * 7)) eLst.ht sLst ((hWb _).trans hW2) (by simp only [Nat.min_def]; split <;> omega) hdl (fun j v hj => (hWc _).trans (hg2 j v hj)) (by simp only [List.size_toArray]; rw [hsl, hdl]; omega) (fun u hu => h1x u (List.mem_of_mem_drop hu))
    rw [List.toList_toArray] at h
    exact h
  have hfin : (splice (splice CUR.toList (i * 7) cs) ((i + m) * 7) (xs.drop (i * 7))) = xs.take (i * 7) ++ cs ++ xs.drop (i * 7) ++ (Builtin.zeroCells z.cells (k - (n + m))).toList := by
    rw [hCl, show (i + m) * 7 = i * 7 + m * 7 by omega]
    exact ins_list (n := n * 7) (m * 7) hxl (by omega) hcs (by rw [zeros_len_Lst z _ hzc]; omega) _
  have hout : ∀ W : World, W.heap[w.heap.size]? = some (.cells (splice (splice CUR.toList (i * 7) cs) ((i + m) * 7) (xs.drop (i * 7))).toArray 68 (0, 0)) → W.ownsRow base 68 7 (.slice (some ⟨w.heap.size, 0, none⟩) (n + m) k) (n + m) (xs.take (i * 7) ++ cs ++ xs.drop (i * 7)) := by
    intro W hW
    have hl : (xs.take (i * 7) ++ cs ++ xs.drop (i * 7)).length = (n + m) * 7 := by rw [List.length_append, List.length_append, htl, hcs, hdl]; omega
    refine ⟨hl, .inr ⟨_, _, _, rfl, hbase, hW, hge, hcm, ?_, ?_⟩⟩
    · simp only [List.size_toArray]; rw [length_splice _ _ _ (by rw [hsl, hdl]; omega), hsl]
    · rw [hfin, ← hl, List.take_left]
  have q1 : IntKind.i64.wrap ((n : Int) + m) = (n : Int) + m := by rw [IntKind.wrap_i64]; omega
  have q2 : IntKind.i64.wrap ((i : Int) + m) = (i : Int) + m := by rw [IntKind.wrap_i64]; omega
  have q3 : ((n : Int) + m - i) = ((n + m - i : Nat) : Int) := by omega
  have q4 : ((n : Int) == (i : Int)) = false := beq_f (by omega)
  have q5 : ((i : Int) == (n : Int)) = false := beq_f (by omega)
  have q6 : ((i : Int) + m).toNat = i + m := by omega
  have HB2 := Lib.hid hb2
  have HC1 := Lib.hid hc1
  have HC2 := Lib.hid hc2
  have HGR := Lib.hid hgr
  have HOUT := Lib.hid hout
  have HW2 := Lib.hid hW2
  have hck : i < k := by omega
  have kb1 : (0 : Int) ≤ (i : Int) + (m : Int) := by omega
  have kb2 : ¬ (k = i + m) := by omega
  have kb3 : (i : Int) ≤ (n : Int) + (m : Int) := by omega
  have kb4 : ¬ (cap = i) := by omega
  have kb5 : ¬ (k = i) := by omega
  have kb6 : i ≤ n := by omega
  have hz1 : ¬ ((m : Int) = 0) := by omega
  clear hc1 hc2 hgr hfin hsl hg2 hb2 hW2 hx1 hxb hb1 hW1 hCl hCs htl hdl hown hx h1c h1x hB hxl hz0 hz1 hz2 hzc hi0 hcs hCUR hbig hWW hW3
  unfold maxLen at hcm
  go_enter Tryz.func176, Tryz.ntmps176
  go_wp2_with (first | (at_builtin; with_reducible refine Lib.wpList_append_run _ rfl _ _ 32 3 rfl _ _ rfl rfl _ _ (HGR.out _) ?_) | (with_reducible refine wpList_copy_runI _ rfl _ _ 32 32 rfl _ _ rfl rfl (HC1.out _ _) ?_))
  go_region_law (refine step_copy_runI rfl _ _ 32 32 rfl _ _ (by simp [Act.eval, Act.put]) (by simp [Act.eval, Act.put]) (HC2.out W2.drew (fun _ => rfl) (fun _ => rfl) _ (k - (i + m)) (cap - i)) ?_)
  go_wp2_with fail
  go_ret
  refine ⟨_, rfl, by simpa [List.append_assoc] using HOUT.out _ (setRow_heap W2.drew _ _ _ 68 (0, 0) HW2.out), ?_⟩
  exact below_setRow (show Below base w0 W2.drew from ⟨HB2.out.os, HB2.out.tape, HB2.out.output, HB2.out.size, HB2.out.block⟩) hbase _
set_option maxRecDepth 100000 in
set_option maxHeartbeats 4000000 in
theorem ins_room_Lst (base g cap n i xb m vc : Nat) (xs cs : List Value) (w0 w : World) (hi : i < n) (hm0 : 0 < m) (hcap : n + m ≤ cap) (hown : w.ownsRow base 68 7 (.slice (some ⟨g, 0, none⟩) n cap) n xs) (hx : w.heap[xb]? = some (.cells cs.toArray 68 (0, 0))) (hxg : xb ≠ g) (hcs : cs.length = m * 7) (h1c : ∀ u ∈ cs, u.oneCell' = true) (h1x : ∀ u ∈ xs, u.oneCell' = true)
    (hB : Below base w0 w) :
    Calls Tryz.prog 176 #[.slice (some ⟨g, 0, none⟩) n cap, .int .i64 i, .slice (some ⟨xb, 0, none⟩) m vc] w fun e w' => ∃ v', e = .returned v' ∧ w'.ownsRow base 68 7 v' (n + m) (xs.take (i * 7) ++ cs ++ xs.drop (i * 7)) ∧ Below base w0 w' := by
  have hxl := hown.1
  obtain ⟨cur, hbg, hg, hcm, hcsz, htk⟩ : ∃ cur : Array Value, base ≤ g ∧ w.heap[g]? = some (.cells cur 68 (0, 0)) ∧ cap ≤ maxLen ∧ cur.size = cap * 7 ∧ cur.toList.take (n * 7) = xs := by
    rcases hown.2 with ⟨h, _⟩ | ⟨g', cap', cur, he, hb, hh, hnc, hcm, hcs, htk⟩
    · cases h
    · injection he with e1 e2 e3
      injection e1 with e1
      injection e1 with e1
      subst e1 e3
      exact ⟨cur, hb, hh, hcm, by omega, htk⟩
  have hdl : (xs.drop (i * 7)).length = (n - i) * 7 := by rw [List.length_drop, hxl]; omega
  have hov : ∀ lb cb, (callFunc 205 #[.slice (some ⟨xb, 0, none⟩) m vc, .slice (some ⟨g, (i + m) * 7, none⟩) lb cb]).run Tryz.prog w = .ok (.value (.bool false)) w := fun lb cb => by
    rw [run_callFunc_extern Tryz.func205 (by kernel_rfl) (by kernel_rfl) (by kernel_rfl) (e := Extern.SlicesOverlaps.overlaps #[32, 32] #[4]) (by kernel_rfl),
      Lib.run_overlaps_apart w 32 4 68 Tryz.underlying32 7 Tryz.sizeOf68 ⟨xb, 0, none⟩ ⟨g, (i + m) * 7, none⟩ m vc lb cb hxg 68 68 cs.toArray.size cur.size (by simp [World.shape?, hx]) (by simp [World.shape?, hg]) (by omega) (frozen_of_blk hx _) (frozen_of_blk hx _)]
    rfl
  have hg1 := setRow_heap w.drew g cur (splice cur.toList ((i + m) * 7) (xs.drop (i * 7))).toArray 68 (0, 0) hg
  have hc1 : ∀ ty dc sc, (Builtin.copy_ #[32, 32] ty #[.slice (some ⟨g, (i + m) * 7, none⟩) (n + m - (i + m)) dc, .slice (some ⟨g, i * 7, none⟩) (n + m - i) sc]).run Tryz.prog w.drew = .ok (goInt ((n - i : Nat) : Int)) (w.drew.setRow g (splice cur.toList ((i + m) * 7) (xs.drop (i * 7))).toArray) := fun ty dc sc =>
    run_copy_wide (P := Tryz.prog) w.drew 32 32 ty 68 7 g ((i + m) * 7) (n + m - (i + m)) dc ⟨g, i * 7, none⟩ (n + m - i) sc (n - i) cur 68 (xs.drop (i * 7)) eLst.ht sLst hg (by simp only [Nat.min_def]; split <;> omega) hdl
      (fun j v hj => by
        have h1 : w.cell? ((⟨g, 0, none⟩ : Addr).add (i * 7 + j)) = some v := hown.cells rfl (i * 7 + j) v (by rw [List.getElem?_drop] at hj; exact hj)
        rw [add_plain] at h1 ⊢
        rw [Nat.zero_add] at h1
        exact h1) (by rw [hdl, hcsz]; omega) (fun u hu => h1x u (List.mem_of_mem_drop hu))
  have hxb := lt_of_blk hx
  have hx1 : (w.drew.setRow g (splice cur.toList ((i + m) * 7) (xs.drop (i * 7))).toArray).heap[xb]? = some (.cells cs.toArray 68 (0, 0)) := (setRow_other w.drew g xb _ hxg).trans hx
  have hbd : Below base w0 (w.drew.setRow g (splice cur.toList ((i + m) * 7) (xs.drop (i * 7))).toArray) := below_setRow (show Below base w0 w.drew from ⟨hB.os, hB.tape, hB.output, hB.size, hB.block⟩) hbg _
  generalize hWW : w.drew.setRow g (splice cur.toList ((i + m) * 7) (xs.drop (i * 7))).toArray = W1 at *
  have hsl : (splice cur.toList ((i + m) * 7) (xs.drop (i * 7))).length = cap * 7 := by rw [length_splice cur.toList ((i + m) * 7) (xs.drop (i * 7)) (by rw [hdl, Array.length_toList, hcsz]; omega), Array.length_toList, hcsz]
  have hc2 : ∀ ty dc, (Builtin.copy_ #[32, 32] ty #[.slice (some ⟨g, i * 7, none⟩) (n + m - i) dc, .slice (some ⟨xb, 0, none⟩) m vc]).run Tryz.prog W1 = .ok (goInt (m : Int)) (W1.setRow g (splice (splice cur.toList ((i + m) * 7) (xs.drop (i * 7))) (i * 7) cs).toArray) := fun ty dc => by
    have h := run_copy_wide (P := Tryz.prog) W1 32 32 ty 68 7 g (i * 7) (n + m - i) dc ⟨xb, 0, none⟩ m vc m (splice cur.toList ((i + m) * 7) (xs.drop (i * 7))).toArray 68 cs eLst.ht sLst hg1 (by simp only [Nat.min_def]; split <;> omega) hcs (by simpa using World.news_of_block (cs := cs.toArray) (t := 68) (fr := (0, 0)) hx1) (by simp only [List.size_toArray]; rw [hsl, hcs]; omega) h1c
    rw [List.toList_toArray] at h
    exact h
  have hg2 := setRow_heap W1 g _ (splice (splice cur.toList ((i + m) * 7) (xs.drop (i * 7))) (i * 7) cs).toArray 68 (0, 0) hg1
  have hb2 := below_setRow hbd hbg (splice (splice cur.toList ((i + m) * 7) (xs.drop (i * 7))) (i * 7) cs).toArray
  have hout : (W1.setRow g (splice (splice cur.toList ((i + m) * 7) (xs.drop (i * 7))) (i * 7) cs).toArray).ownsRow base 68 7 (.slice (some ⟨g, 0, none⟩) (n + m) cap) (n + m) (xs.take (i * 7) ++ cs ++ xs.drop (i * 7)) := by
    have htl : (xs.take (i * 7)).length = i * 7 := by rw [List.length_take, hxl]; omega
    have hl : (xs.take (i * 7) ++ cs ++ xs.drop (i * 7)).length = (n + m) * 7 := by rw [List.length_append, List.length_append, htl, hcs, hdl]; omega
    refine ⟨hl, .inr ⟨_, _, _, rfl, hbg, hg2, hcap, hcm, ?_, ?_⟩⟩
    · simp only [List.size_toArray]; rw [length_splice _ _ _ (by rw [hsl, hcs]; omega), hsl]
    · have h := ins_list2 (xs := xs) (cs := cs) (cur := cur.toList) (i := i * 7) (n := n * 7) (m * 7) htk (by rw [Array.length_toList, hcsz]; omega) (by omega) hcs
      rw [show i * 7 + m * 7 = (i + m) * 7 by omega, show n * 7 + m * 7 = (n + m) * 7 by omega] at h
      exact h
  generalize hWW2 : W1.setRow g (splice (splice cur.toList ((i + m) * 7) (xs.drop (i * 7))) (i * 7) cs).toArray = W2 at *
  have HB2 := Lib.hid hb2
  have HC1 := Lib.hid hc1
  have HC2 := Lib.hid hc2
  have HOV := Lib.hid hov
  have HOUT := Lib.hid hout
  have hck : i < cap := by omega
  have q1 : IntKind.i64.wrap ((n : Int) + m) = (n : Int) + m := by rw [IntKind.wrap_i64]; unfold maxLen at hcm; omega
  have q2 : IntKind.i64.wrap ((i : Int) + m) = (i : Int) + m := by rw [IntKind.wrap_i64]; unfold maxLen at hcm; omega
  have q5 : ((i : Int) == (n : Int)) = false := beq_f (by omega)
  have q6 : ((i : Int) + m).toNat = i + m := by omega
  have q7 : ((n : Int) + m).toNat = n + m := by omega
  have kb1 : (0 : Int) ≤ (i : Int) + (m : Int) := by omega
  have kb2 : ¬ (cap = i + m) := by omega
  have kb3 : (i : Int) ≤ (n : Int) + (m : Int) := by omega
  have kb4 : ¬ (cap = i) := by omega
  have kb6 : i ≤ n := by omega
  have hz1 : ¬ ((m : Int) = 0) := by omega
  clear hb2 hc1 hc2 hov hout hown hx h1c h1x hB hxl hcs hWW hWW2 hg hg1 hg2 hcsz htk hdl hxb hx1 hbd hsl
  unfold maxLen at hcm
  go_enter Tryz.func176, Tryz.ntmps176
  go_wp2_with (simp only [HOV.out])
  go_region_law (refine step_copy_runI rfl _ _ 32 32 rfl _ _ (by simp [Act.eval, Act.put]) (by simp [Act.eval, Act.put]) (HC1.out _ (cap - (i + m)) (cap - i)) ?_)
  go_wp2_with (with_reducible refine wpList_copy_runI _ rfl _ _ 32 32 rfl _ _ rfl rfl (HC2.out _ _) ?_)
  go_ret
  exact ⟨_, rfl, by simpa [List.append_assoc] using HOUT.out, HB2.out⟩
theorem ins_one_Lst (base : Nat) (v : Value) (n i xb : Nat) (xs cs : List Value) (w0 w : World) (hi : i ≤ n) (hown : w.ownsRow base 68 7 v n xs) (hx : w.heap[xb]? = some (.cells cs.toArray 68 (0, 0))) (hxv : ∀ g, v.ownBlock = some g → xb ≠ g) (hcs : cs.length = 7) (h1c : ∀ u ∈ cs, u.oneCell' = true) (h1x : ∀ u ∈ xs, u.oneCell' = true)
    (hB : Below base w0 w) (hbase : base ≤ w.heap.size) (hbig : (n + 1) * 88 ≤ 140737488355328) :
    Calls Tryz.prog 176 #[v, .int .i64 i, .slice (some ⟨xb, 0, none⟩) 1 1] w fun e w' => ∃ v', e = .returned v' ∧ w'.ownsRow base 68 7 v' (n + 1) (xs.take (i * 7) ++ cs ++ xs.drop (i * 7)) ∧ Below base w0 w' := by
  by_cases he : i = n
  · subst he
    have hxl := hown.1
    have h := ins_end_Lst base v i xb xs cs w0 w hown hx hcs h1c hB hbase hbig
    rw [List.take_of_length_le (by omega), List.drop_of_length_le (by omega), List.append_nil]
    exact h
  · have hlt : i < n := by omega
    have h2 := hown.2
    rcases h2 with ⟨_, hn0⟩ | ⟨g, cap, cur, rfl, hb, hh, hnc, hcm, _⟩
    · have := hown.1; rw [hn0] at this; simp at this; omega
    · by_cases hc : n + 1 ≤ cap
      · exact ins_room_Lst base g cap n i xb 1 1 xs cs w0 w hlt (by omega) hc hown hx (hxv g rfl) (by omega) h1c h1x hB
      · exact ins_grow_Lst base g cap n i xb 1 1 xs cs w0 w hlt (by omega) (by omega) hown hx (by omega) h1c h1x hB hbase hbig
end Go.Proofs.YtgpkmellpllmgaaGreat
