/-
  The walk of slices.Insert of one variable into a row of the call's own.
-/
import Derived.Test.YthhgfdejadbigaaDoorRowLaws
import Derived.Test.YthhgfdejadbigaaDoorWire
import Derived.Deep.RegionLaw
set_option linter.unusedVariables false
set_option linter.unusedSimpArgs false
namespace Go.Proofs.Base
open Go Go.RowKit
theorem ins_list {α : Type} {xs cs zs : List α} {i n : Nat} (k : Nat) (hl : xs.length = n) (hi : i ≤ n) (hk : cs.length = k) (hz : zs.length = n - i + k) (rest : List α) :
    splice (splice (xs.take i ++ zs ++ rest) i cs) (i + k) (xs.drop i) = xs.take i ++ cs ++ xs.drop i ++ rest := by
  have ht : (xs.take i).length = i := by rw [List.length_take]; omega
  have h1 : splice (xs.take i ++ zs ++ rest) i cs = (xs.take i ++ cs) ++ (zs.drop k ++ rest) := by
    unfold splice
    have e1 : (xs.take i ++ zs ++ rest).take i = xs.take i := by rw [List.append_assoc, List.take_append_of_le_length (by omega), List.take_of_length_le (by omega)]
    have e2 : (xs.take i ++ zs ++ rest).drop (i + cs.length) = zs.drop k ++ rest := by
      rw [List.append_assoc, List.drop_append, List.drop_of_length_le (by omega), List.nil_append, ht, hk, show i + k - i = k by omega, List.drop_append_of_le_length (by omega)]
    rw [e1, e2, List.append_assoc]
  rw [h1]
  have hl2 : (xs.take i ++ cs).length = i + k := by rw [List.length_append, ht, hk]
  have hd : (xs.drop i).length = n - i := by rw [List.length_drop, hl]
  unfold splice
  have e1 : (xs.take i ++ cs ++ (zs.drop k ++ rest)).take (i + k) = xs.take i ++ cs := by rw [← hl2, List.take_left]
  have e2 : (xs.take i ++ cs ++ (zs.drop k ++ rest)).drop (i + k + (xs.drop i).length) = rest := by
    have e3 : zs.drop k ++ rest = zs.drop k ++ rest := rfl
    have hzd : (zs.drop k).length = n - i := by rw [List.length_drop, hz]; omega
    rw [← List.append_assoc, List.drop_append, List.drop_of_length_le (by rw [List.length_append, hl2, hzd, hd]; exact Nat.le_refl _), List.nil_append, List.length_append, hl2, hzd, hd]
    simp
  rw [e1, e2, ← List.append_assoc]
theorem ins_list2 {α : Type} {xs cs cur : List α} {i n : Nat} (k : Nat) (hl : cur.take n = xs) (hn : n + k ≤ cur.length) (hi : i ≤ n) (hk : cs.length = k) :
    (splice (splice cur (i + k) (xs.drop i)) i cs).take (n + k) = xs.take i ++ cs ++ xs.drop i := by
  have hxl : xs.length = n := by rw [← hl, List.length_take]; omega
  have hd : (xs.drop i).length = n - i := by rw [List.length_drop, hxl]
  have e1 : splice cur (i + k) (xs.drop i) = cur.take (i + k) ++ (xs.drop i ++ cur.drop (n + k)) := by
    unfold splice; rw [hd, show i + k + (n - i) = n + k by omega]
  have e2 : (splice cur (i + k) (xs.drop i)).take i = xs.take i := by
    rw [e1, List.take_append_of_le_length (by rw [List.length_take]; omega), List.take_take, ← hl, List.take_take]
    congr 1; omega
  have e3 : (splice cur (i + k) (xs.drop i)).drop (i + k) = xs.drop i ++ cur.drop (n + k) := by
    rw [e1]
    have : (cur.take (i + k)).length = i + k := by rw [List.length_take]; omega
    have h9 := List.drop_left (l₁ := cur.take (i + k)) (l₂ := xs.drop i ++ cur.drop (n + k))
    rw [this] at h9
    exact h9
  have ht : (xs.take i).length = i := by rw [List.length_take]; omega
  unfold splice
  rw [show List.take i (List.take (i + k) cur ++ (List.drop i xs ++ List.drop (i + k + (List.drop i xs).length) cur)) = xs.take i from e2, hk,
    show List.drop (i + k) (List.take (i + k) cur ++ (List.drop i xs ++ List.drop (i + k + (List.drop i xs).length) cur)) = xs.drop i ++ cur.drop (n + k) from e3]
  rw [← List.append_assoc, ← List.append_assoc]
  have hl3 : (xs.take i ++ cs ++ xs.drop i).length = n + k := by rw [List.length_append, List.length_append, ht, hk, hd]; omega
  rw [← hl3, List.take_left]
end Go.Proofs.Base
namespace Go.Proofs.YthhgfdejadbigaaDoor
open Go Go.RowKit Go.Proofs.Base

theorem eVar : ElemT Tryd.prog 29 60 4 48 := ElemT.of (z := .agg #[.string ⟨#[]⟩, .int .i64 0, .int .i64 0, .string ⟨#[]⟩]) Tryd.underlying29 (by kernel_rfl) rfl
theorem sVar : (Tryd.prog.info? 60).map (·.size) = some 4 := by kernel_rfl

set_option maxRecDepth 100000 in
set_option maxHeartbeats 2000000 in
/-- at the end -/
theorem ins_end (base : Nat) (v : Value) (n xb : Nat) (xs cs : List Value) (w0 w : World) (hown : w.ownsRow base 60 4 v n xs) (hx : w.heap[xb]? = some (.cells cs.toArray 60 (0, 0))) (hcs : cs.length = 4) (h1c : ∀ u ∈ cs, u.oneCell' = true)
    (hB : Below base w0 w) (hbase : base ≤ w.heap.size) (hbig : (n + 1) * 48 ≤ 140737488355328) :
    Calls Tryd.prog 46 #[v, .int .i64 n, .slice (some ⟨xb, 0, none⟩) 1 1] w fun e w' => ∃ v', e = .returned v' ∧ w'.ownsRow base 60 4 v' (n + 1) (xs ++ cs) ∧ Below base w0 w' := by
  obtain ⟨i0, z, hi, hz0, hz1, hz2, hzc⟩ := eVar.hi
  have HO := Lib.hid hown
  have HX := Lib.hid (World.news_of_block (cs := cs.toArray) (t := 60) (fr := (0, 0)) hx)
  have HCS := Lib.hid hcs
  have H1C := Lib.hid h1c
  have HB := Lib.hid hB
  have hvn : ∃ A c, v = .slice A n c ∧ n ≤ c ∧ c ≤ 9223372036854775807 := by
    obtain ⟨_, h2⟩ := id hown
    have hl0 := hown.1
    clear hown HO
    rcases h2 with ⟨rfl, hn0⟩ | ⟨g, cap, cur, rfl, hb, hh, hnc, hcm, _⟩
    · obtain rfl : n = 0 := by rw [hn0] at hl0; simp at hl0; omega
      exact ⟨none, 0, rfl, Nat.le_refl _, by omega⟩
    · exact ⟨_, _, rfl, hnc, by simpa [maxLen] using hcm⟩
  obtain ⟨A, c, rfl, hnc, hc⟩ := hvn
  clear hown hx hcs h1c hB
  go_enter Tryd.func46, Tryd.ntmps46
  go_wp2_with (at_builtin; refine wpList_append_own_at _ rfl _ _ 29 rfl base 60 i0 z 4 48 eVar.ht hi hz0 hz1 hz2 hzc (by omega) _ n xs rfl HO.out ⟨xb, 0, none⟩ 1 1 cs rfl (by rw [HCS.out]) (by simpa using HX.out) H1C.out (by simp only [maxLen]; omega) hbig hbase ?_; intro v1 w1 hown1 hg1 _ _)
  all_goals (go_ret; exact ⟨v1, rfl, hown1, HB.out.grown hg1 hbase (fun k hk => (HO.out.lt k hk).1)⟩)

theorem zeros_len (z : Value) (m : Nat) (hz : z.cells.size = 4) : (Builtin.zeroCells z.cells m).toList.length = m * 4 := by
  rw [Array.length_toList, size_zeroCells, hz]
theorem setRow_toList (w : World) (g : Nat) (c : Array Value) : w.setRow g c = w.setRow g c.toList.toArray := by simp

set_option maxRecDepth 100000 in
set_option maxHeartbeats 4000000 in
/-- within, no room: a new row -/
theorem ins_grow (base g cap n i xb m vc : Nat) (xs cs : List Value) (w0 w : World) (hi : i < n) (hm0 : 0 < m) (hcap : cap < n + m) (hown : w.ownsRow base 60 4 (.slice (some ⟨g, 0, none⟩) n cap) n xs) (hx : w.heap[xb]? = some (.cells cs.toArray 60 (0, 0))) (hcs : cs.length = m * 4) (h1c : ∀ u ∈ cs, u.oneCell' = true) (h1x : ∀ u ∈ xs, u.oneCell' = true)
    (hB : Below base w0 w) (hbase : base ≤ w.heap.size) (hbig : (n + m) * 48 ≤ 140737488355328) :
    Calls Tryd.prog 46 #[.slice (some ⟨g, 0, none⟩) n cap, .int .i64 i, .slice (some ⟨xb, 0, none⟩) m vc] w fun e w' => ∃ v', e = .returned v' ∧ w'.ownsRow base 60 4 v' (n + m) (xs.take (i * 4) ++ cs ++ xs.drop (i * 4)) ∧ Below base w0 w' := by
  obtain ⟨i0, z, hi0, hz0, hz1, hz2, hzc⟩ := eVar.hi
  have hnc : n ≤ cap := by
    rcases hown.2 with ⟨h, _⟩ | ⟨g', cap', cur, he, _, _, hnc, _⟩
    · cases h
    · injection he with _ _ e3; omega
  have hxl := hown.1
  have hgr : ∀ ty, (Builtin.append_ #[29, 3] ty #[.slice (some ⟨g, 0, none⟩) i cap, .int .i64 ((n + m - i : Nat) : Int)]).run Tryd.prog w = _ := fun ty =>
    run_append_zeros_grows w base 29 3 ty 60 i0 z 4 48 eVar.ht Tryd.underlying3 hi0 hz0 hz1 hz2 hzc (by omega) (by omega) g i cap (xs.take (i * 4)) (own_take hown (Nat.le_of_lt hi)) .i64 (n + m - i) (by omega) (by omega) (by rw [show i + (n + m - i) = n + m by omega]; exact hbig) hbase
  rw [show i + (n + m - i) = n + m by omega] at hgr
  have hge := grownCap_ge w (n + m) cap 60
  have hcm : grownCap w (n + m) cap 60 ≤ maxLen := grownCap_le_maxLen w (n + m) cap 60 (by simp only [maxLen]; omega)
  generalize grownCap w (n + m) cap 60 = k at *
  generalize hCUR : (xs.take (i * 4)).toArray ++ Builtin.zeroCells z.cells (n + m - i) ++ Builtin.zeroCells z.cells (k - (n + m)) = CUR at hgr
  have hCl : CUR.toList = xs.take (i * 4) ++ (Builtin.zeroCells z.cells (n + m - i)).toList ++ (Builtin.zeroCells z.cells (k - (n + m))).toList := by rw [← hCUR]; simp
  have htl : (xs.take (i * 4)).length = i * 4 := by rw [List.length_take, hxl]; omega
  have hdl : (xs.drop (i * 4)).length = (n - i) * 4 := by rw [List.length_drop, hxl]; omega
  have hCs : CUR.size = k * 4 := by
    rw [← Array.length_toList, hCl, List.length_append, List.length_append, htl, zeros_len z _ hzc, zeros_len z _ hzc]; omega
  have hW1 : (w.drew.alloc (.cells CUR 60)).heap[w.heap.size]? = some (.cells CUR 60 (0, 0)) := heap_alloc_new w.drew _
  have hb1 : Below base w0 (w.drew.alloc (.cells CUR 60)) := (show Below base w0 w.drew from ⟨hB.os, hB.tape, hB.output, hB.size, hB.block⟩).alloc hbase _
  have hxb := lt_of_blk hx
  have hx1 : (w.drew.alloc (.cells CUR 60)).heap[xb]? = some (.cells cs.toArray 60 (0, 0)) := (heap_alloc_old w.drew _ hxb).trans hx
  generalize hWW : w.drew.alloc (.cells CUR 60) = W1 at *
  have hc1 : ∀ ty dc, (Builtin.copy_ #[29, 29] ty #[.slice (some ⟨w.heap.size, i * 4, none⟩) (n + m - i) dc, .slice (some ⟨xb, 0, none⟩) m vc]).run Tryd.prog W1 = .ok (goInt (m : Int)) (W1.setRow w.heap.size (splice CUR.toList (i * 4) cs).toArray) := fun ty dc =>
    run_copy_wide W1 _ _ ty 60 4 w.heap.size (i * 4) (n + m - i) dc ⟨xb, 0, none⟩ m vc m CUR 60 cs eVar.ht sVar hW1 (by simp only [Nat.min_def]; split <;> omega) (by omega) (by simpa using World.news_of_block (cs := cs.toArray) (t := 60) (fr := (0, 0)) hx1) (by omega) h1c
  have hW2 := setRow_heap W1 w.heap.size CUR (splice CUR.toList (i * 4) cs).toArray 60 (0, 0) hW1
  have hb2 : Below base w0 (W1.setRow w.heap.size (splice CUR.toList (i * 4) cs).toArray) := below_setRow hb1 hbase _
  have hg2 : ∀ j v, (xs.drop (i * 4))[j]? = some v → (W1.setRow w.heap.size (splice CUR.toList (i * 4) cs).toArray).cell? ((⟨g, i * 4, none⟩ : Addr).add j) = some v := by
    intro j v hj
    have hglt := (hown.lt g rfl).2
    have h1 : w.cell? ((⟨g, 0, none⟩ : Addr).add (i * 4 + j)) = some v := hown.cells rfl (i * 4 + j) v (by rw [List.getElem?_drop] at hj; exact hj)
    rw [add_plain] at h1 ⊢
    rw [Nat.zero_add] at h1
    have h2 : (W1.setRow w.heap.size (splice CUR.toList (i * 4) cs).toArray).heap[g]? = w.heap[g]? := by
      rw [setRow_other _ _ _ _ (by omega), ← hWW]
      exact heap_alloc_old w.drew _ hglt
    exact (World.cell?_of_block (w := w) (a := ⟨g, i * 4 + j, none⟩) h2).trans h1
  generalize hW3 : W1.setRow w.heap.size (splice CUR.toList (i * 4) cs).toArray = W2 at *
  have hsl : (splice CUR.toList (i * 4) cs).length = k * 4 := by rw [length_splice CUR.toList (i * 4) cs (by rw [hcs, Array.length_toList, hCs]; omega), Array.length_toList, hCs]
  have hc2 : ∀ W : World, (∀ b, W.heap[b]? = W2.heap[b]?) → (∀ x, W.cell? x = W2.cell? x) → ∀ ty dc sc, (Builtin.copy_ #[29, 29] ty #[.slice (some ⟨w.heap.size, (i + m) * 4, none⟩) (n + m - (i + m)) dc, .slice (some ⟨g, i * 4, none⟩) (n - i) sc]).run Tryd.prog W = .ok (goInt ((n - i : Nat) : Int)) (W.setRow w.heap.size (splice (splice CUR.toList (i * 4) cs) ((i + m) * 4) (xs.drop (i * 4))).toArray) := fun W hWb hWc ty dc sc => by
    have h := run_copy_wide (P := Tryd.prog) W 29 29 ty 60 4 w.heap.size ((i + m) * 4) (n + m - (i + m)) dc ⟨g, i * 4, none⟩ (n - i) sc (n - i) (splice CUR.toList (i * 4) cs).toArray 60 (xs.drop (i * 4)) eVar.ht sVar ((hWb _).trans hW2) (by simp only [Nat.min_def]; split <;> omega) hdl (fun j v hj => (hWc _).trans (hg2 j v hj)) (by simp only [List.size_toArray]; rw [hsl, hdl]; omega) (fun u hu => h1x u (List.mem_of_mem_drop hu))
    rw [List.toList_toArray] at h
    exact h
  have hfin : (splice (splice CUR.toList (i * 4) cs) ((i + m) * 4) (xs.drop (i * 4))) = xs.take (i * 4) ++ cs ++ xs.drop (i * 4) ++ (Builtin.zeroCells z.cells (k - (n + m))).toList := by
    rw [hCl, show (i + m) * 4 = i * 4 + m * 4 by omega]
    exact ins_list (n := n * 4) (m * 4) hxl (by omega) hcs (by rw [zeros_len z _ hzc]; omega) _
  have hout : ∀ W : World, W.heap[w.heap.size]? = some (.cells (splice (splice CUR.toList (i * 4) cs) ((i + m) * 4) (xs.drop (i * 4))).toArray 60 (0, 0)) → W.ownsRow base 60 4 (.slice (some ⟨w.heap.size, 0, none⟩) (n + m) k) (n + m) (xs.take (i * 4) ++ cs ++ xs.drop (i * 4)) := by
    intro W hW
    have hl : (xs.take (i * 4) ++ cs ++ xs.drop (i * 4)).length = (n + m) * 4 := by rw [List.length_append, List.length_append, htl, hcs, hdl]; omega
    refine ⟨hl, .inr ⟨_, _, _, rfl, hbase, hW, hge, hcm, ?_, ?_⟩⟩
    · simp only [List.size_toArray]; rw [length_splice _ _ _ (by rw [hsl, hdl]; omega), hsl]
    · rw [hfin, ← hl, List.take_left]
  have q1 : IntKind.i64.wrap ((n : Int) + m) = (n : Int) + m := by rw [IntKind.wrap_i64]; omega
  have q2 : IntKind.i64.wrap ((i : Int) + m) = (i : Int) + m := by rw [IntKind.wrap_i64]; omega
  have q3 : ((n : Int) + m - i) = ((n + m - i : Nat) : Int) := by omega
  have q4 : ((n : Int) == (i : Int)) = false := beq_f (by omega)
  have q5 : ((i : Int) == (n : Int)) = false := beq_f (by omega)
  have q6 : ((i : Int) + m).toNat = i + m := by omega
  have HB2 := Lib.hid hb2
  have HC1 := Lib.hid hc1
  have HC2 := Lib.hid hc2
  have HGR := Lib.hid hgr
  have HOUT := Lib.hid hout
  have HW2 := Lib.hid hW2
  have hck : i < k := by omega
  have kb1 : (0 : Int) ≤ (i : Int) + (m : Int) := by omega
  have kb2 : ¬ (k = i + m) := by omega
  have kb3 : (i : Int) ≤ (n : Int) + (m : Int) := by omega
  have kb4 : ¬ (cap = i) := by omega
  have kb5 : ¬ (k = i) := by omega
  have kb6 : i ≤ n := by omega
  have hz1 : ¬ ((m : Int) = 0) := by omega
  clear hc1 hc2 hgr hfin hsl hg2 hb2 hW2 hx1 hxb hb1 hW1 hCl hCs htl hdl hown hx h1c h1x hB hxl hz0 hz1 hz2 hzc hi0 hcs hCUR hbig hWW hW3
  unfold maxLen at hcm
  go_enter Tryd.func46, Tryd.ntmps46
  go_wp2_with (first | (at_builtin; with_reducible refine Lib.wpList_append_run _ rfl _ _ 29 3 rfl _ _ rfl rfl _ _ (HGR.out _) ?_) | (with_reducible refine wpList_copy_runI _ rfl _ _ 29 29 rfl _ _ rfl rfl (HC1.out _ _) ?_))
  go_region_law (refine step_copy_runI rfl _ _ 29 29 rfl _ _ (by simp [Act.eval, Act.put]) (by simp [Act.eval, Act.put]) (HC2.out W2.drew (fun _ => rfl) (fun _ => rfl) _ (k - (i + m)) (cap - i)) ?_)
  go_wp2_with fail
  go_ret
  refine ⟨_, rfl, by simpa [List.append_assoc] using HOUT.out _ (setRow_heap W2.drew _ _ _ 60 (0, 0) HW2.out), ?_⟩
  exact below_setRow (show Below base w0 W2.drew from ⟨HB2.out.os, HB2.out.tape, HB2.out.output, HB2.out.size, HB2.out.block⟩) hbase _

set_option maxRecDepth 100000 in
set_option maxHeartbeats 4000000 in
/-- within, where there is room: in place -/
theorem ins_room (base g cap n i xb m vc : Nat) (xs cs : List Value) (w0 w : World) (hi : i < n) (hm0 : 0 < m) (hcap : n + m ≤ cap) (hown : w.ownsRow base 60 4 (.slice (some ⟨g, 0, none⟩) n cap) n xs) (hx : w.heap[xb]? = some (.cells cs.toArray 60 (0, 0))) (hxg : xb ≠ g) (hcs : cs.length = m * 4) (h1c : ∀ u ∈ cs, u.oneCell' = true) (h1x : ∀ u ∈ xs, u.oneCell' = true)
    (hB : Below base w0 w) :
    Calls Tryd.prog 46 #[.slice (some ⟨g, 0, none⟩) n cap, .int .i64 i, .slice (some ⟨xb, 0, none⟩) m vc] w fun e w' => ∃ v', e = .returned v' ∧ w'.ownsRow base 60 4 v' (n + m) (xs.take (i * 4) ++ cs ++ xs.drop (i * 4)) ∧ Below base w0 w' := by
  have hxl := hown.1
  obtain ⟨cur, hbg, hg, hcm, hcsz, htk⟩ : ∃ cur : Array Value, base ≤ g ∧ w.heap[g]? = some (.cells cur 60 (0, 0)) ∧ cap ≤ maxLen ∧ cur.size = cap * 4 ∧ cur.toList.take (n * 4) = xs := by
    rcases hown.2 with ⟨h, _⟩ | ⟨g', cap', cur, he, hb, hh, hnc, hcm, hcs, htk⟩
    · cases h
    · injection he with e1 e2 e3
      injection e1 with e1
      injection e1 with e1
      subst e1 e3
      exact ⟨cur, hb, hh, hcm, by omega, htk⟩
  have hdl : (xs.drop (i * 4)).length = (n - i) * 4 := by rw [List.length_drop, hxl]; omega
  have hov : ∀ lb cb, (callFunc 70 #[.slice (some ⟨xb, 0, none⟩) m vc, .slice (some ⟨g, (i + m) * 4, none⟩) lb cb]).run Tryd.prog w = .ok (.value (.bool false)) w := fun lb cb => by
    rw [run_callFunc_extern Tryd.func70 (by kernel_rfl) (by kernel_rfl) (by kernel_rfl) (e := Extern.SlicesOverlaps.overlaps #[29, 29] #[4]) (by kernel_rfl),
      Lib.run_overlaps_apart w 29 4 60 Tryd.underlying29 4 Tryd.sizeOf60 ⟨xb, 0, none⟩ ⟨g, (i + m) * 4, none⟩ m vc lb cb hxg 60 60 cs.toArray.size cur.size (by simp [World.shape?, hx]) (by simp [World.shape?, hg]) (by omega) (frozen_of_blk hx _) (frozen_of_blk hx _)]
    rfl
  have hg1 := setRow_heap w.drew g cur (splice cur.toList ((i + m) * 4) (xs.drop (i * 4))).toArray 60 (0, 0) hg
  have hc1 : ∀ ty dc sc, (Builtin.copy_ #[29, 29] ty #[.slice (some ⟨g, (i + m) * 4, none⟩) (n + m - (i + m)) dc, .slice (some ⟨g, i * 4, none⟩) (n + m - i) sc]).run Tryd.prog w.drew = .ok (goInt ((n - i : Nat) : Int)) (w.drew.setRow g (splice cur.toList ((i + m) * 4) (xs.drop (i * 4))).toArray) := fun ty dc sc =>
    run_copy_wide (P := Tryd.prog) w.drew 29 29 ty 60 4 g ((i + m) * 4) (n + m - (i + m)) dc ⟨g, i * 4, none⟩ (n + m - i) sc (n - i) cur 60 (xs.drop (i * 4)) eVar.ht sVar hg (by simp only [Nat.min_def]; split <;> omega) hdl
      (fun j v hj => by
        have h1 : w.cell? ((⟨g, 0, none⟩ : Addr).add (i * 4 + j)) = some v := hown.cells rfl (i * 4 + j) v (by rw [List.getElem?_drop] at hj; exact hj)
        rw [add_plain] at h1 ⊢
        rw [Nat.zero_add] at h1
        exact h1) (by rw [hdl, hcsz]; omega) (fun u hu => h1x u (List.mem_of_mem_drop hu))
  have hxb := lt_of_blk hx
  have hx1 : (w.drew.setRow g (splice cur.toList ((i + m) * 4) (xs.drop (i * 4))).toArray).heap[xb]? = some (.cells cs.toArray 60 (0, 0)) := (setRow_other w.drew g xb _ hxg).trans hx
  have hbd : Below base w0 (w.drew.setRow g (splice cur.toList ((i + m) * 4) (xs.drop (i * 4))).toArray) := below_setRow (show Below base w0 w.drew from ⟨hB.os, hB.tape, hB.output, hB.size, hB.block⟩) hbg _
  generalize hWW : w.drew.setRow g (splice cur.toList ((i + m) * 4) (xs.drop (i * 4))).toArray = W1 at *
  have hsl : (splice cur.toList ((i + m) * 4) (xs.drop (i * 4))).length = cap * 4 := by rw [length_splice cur.toList ((i + m) * 4) (xs.drop (i * 4)) (by rw [hdl, Array.length_toList, hcsz]; omega), Array.length_toList, hcsz]
  have hc2 : ∀ ty dc, (Builtin.copy_ #[29, 29] ty #[.slice (some ⟨g, i * 4, none⟩) (n + m - i) dc, .slice (some ⟨xb, 0, none⟩) m vc]).run Tryd.prog W1 = .ok (goInt (m : Int)) (W1.setRow g (splice (splice cur.toList ((i + m) * 4) (xs.drop (i * 4))) (i * 4) cs).toArray) := fun ty dc => by
    have h := run_copy_wide (P := Tryd.prog) W1 29 29 ty 60 4 g (i * 4) (n + m - i) dc ⟨xb, 0, none⟩ m vc m (splice cur.toList ((i + m) * 4) (xs.drop (i * 4))).toArray 60 cs eVar.ht sVar hg1 (by simp only [Nat.min_def]; split <;> omega) hcs (by simpa using World.news_of_block (cs := cs.toArray) (t := 60) (fr := (0, 0)) hx1) (by simp only [List.size_toArray]; rw [hsl, hcs]; omega) h1c
    rw [List.toList_toArray] at h
    exact h
  have hg2 := setRow_heap W1 g _ (splice (splice cur.toList ((i + m) * 4) (xs.drop (i * 4))) (i * 4) cs).toArray 60 (0, 0) hg1
  have hb2 := below_setRow hbd hbg (splice (splice cur.toList ((i + m) * 4) (xs.drop (i * 4))) (i * 4) cs).toArray
  have hout : (W1.setRow g (splice (splice cur.toList ((i + m) * 4) (xs.drop (i * 4))) (i * 4) cs).toArray).ownsRow base 60 4 (.slice (some ⟨g, 0, none⟩) (n + m) cap) (n + m) (xs.take (i * 4) ++ cs ++ xs.drop (i * 4)) := by
    have htl : (xs.take (i * 4)).length = i * 4 := by rw [List.length_take, hxl]; omega
    have hl : (xs.take (i * 4) ++ cs ++ xs.drop (i * 4)).length = (n + m) * 4 := by rw [List.length_append, List.length_append, htl, hcs, hdl]; omega
    refine ⟨hl, .inr ⟨_, _, _, rfl, hbg, hg2, hcap, hcm, ?_, ?_⟩⟩
    · simp only [List.size_toArray]; rw [length_splice _ _ _ (by rw [hsl, hcs]; omega), hsl]
    · have h := ins_list2 (xs := xs) (cs := cs) (cur := cur.toList) (i := i * 4) (n := n * 4) (m * 4) htk (by rw [Array.length_toList, hcsz]; omega) (by omega) hcs
      rw [show i * 4 + m * 4 = (i + m) * 4 by omega, show n * 4 + m * 4 = (n + m) * 4 by omega] at h
      exact h
  generalize hWW2 : W1.setRow g (splice (splice cur.toList ((i + m) * 4) (xs.drop (i * 4))) (i * 4) cs).toArray = W2 at *
  have HB2 := Lib.hid hb2
  have HC1 := Lib.hid hc1
  have HC2 := Lib.hid hc2
  have HOV := Lib.hid hov
  have HOUT := Lib.hid hout
  have hck : i < cap := by omega
  have q1 : IntKind.i64.wrap ((n : Int) + m) = (n : Int) + m := by rw [IntKind.wrap_i64]; unfold maxLen at hcm; omega
  have q2 : IntKind.i64.wrap ((i : Int) + m) = (i : Int) + m := by rw [IntKind.wrap_i64]; unfold maxLen at hcm; omega
  have q5 : ((i : Int) == (n : Int)) = false := beq_f (by omega)
  have q6 : ((i : Int) + m).toNat = i + m := by omega
  have q7 : ((n : Int) + m).toNat = n + m := by omega
  have kb1 : (0 : Int) ≤ (i : Int) + (m : Int) := by omega
  have kb2 : ¬ (cap = i + m) := by omega
  have kb3 : (i : Int) ≤ (n : Int) + (m : Int) := by omega
  have kb4 : ¬ (cap = i) := by omega
  have kb6 : i ≤ n := by omega
  have hz1 : ¬ ((m : Int) = 0) := by omega
  clear hb2 hc1 hc2 hov hout hown hx h1c h1x hB hxl hcs hWW hWW2 hg hg1 hg2 hcsz htk hdl hxb hx1 hbd hsl
  unfold maxLen at hcm
  go_enter Tryd.func46, Tryd.ntmps46
  go_wp2_with (simp only [HOV.out])
  go_region_law (refine step_copy_runI rfl _ _ 29 29 rfl _ _ (by simp [Act.eval, Act.put]) (by simp [Act.eval, Act.put]) (HC1.out _ (cap - (i + m)) (cap - i)) ?_)
  go_wp2_with (with_reducible refine wpList_copy_runI _ rfl _ _ 29 29 rfl _ _ rfl rfl (HC2.out _ _) ?_)
  go_ret
  exact ⟨_, rfl, by simpa [List.append_assoc] using HOUT.out, HB2.out⟩
end Go.Proofs.YthhgfdejadbigaaDoor
