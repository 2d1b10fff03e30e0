/-
  The walk of value.Put.
-/
import Derived.Test.YthhgfdejadbigaaDoorPutP
import Derived.Test.YthhgfdejadbigaaDoorClone
import Derived.Test.YthhgfdejadbigaaDoorVal
set_option linter.unusedVariables false
set_option linter.unusedSimpArgs false
namespace Go.Proofs.YthhgfdejadbigaaDoor
open Go Go.RowKit Go.Proofs.Base

theorem own_base {w : World} {b b' e size n : Nat} {v : Value} {xs : List Value} (h : w.ownsRow b e size v n xs) (hb : b' ≤ b) : w.ownsRow b' e size v n xs := by
  obtain ⟨h1, h2⟩ := h
  refine ⟨h1, ?_⟩
  rcases h2 with h2 | ⟨g, cap, cur, rfl, hbg, r⟩
  · exact .inl h2
  · exact .inr ⟨g, cap, cur, rfl, Nat.le_trans hb hbg, r⟩
def PutTo (r : List GVar × Int) (w : World) (e : Ending) (w' : World) : Prop := ∃ v', e = .returned (.tuple #[v', .int .i64 r.2]) ∧ w'.ownsRow w.heap.size 60 4 v' r.1.length (varCells r.1) ∧ Below w.heap.size w w'

set_option maxRecDepth 100000 in
set_option maxHeartbeats 2000000 in
/-- what may not be -/
theorem put_bad (A : Option Addr) (n c : Nat) (name : ByteArray) (v : GVal) (l : List GVar) (w : World) (hs : okS name)
    (hR : ∀ W, Below w.heap.size w W → Calls Tryd.prog 21 #[.slice A n c] W fun e w' => e = .returned (.bool (rightV l)) ∧ Below W.heap.size W w')
    (hbad : (rightV l && named name && v.may) = false) :
    Calls Tryd.prog 15 #[.slice A n c, .string name, .agg #[.int .i64 v.k, .int .i64 v.n, .string v.s]] w (PutTo ([], 1) w) := by
  have hb0 : Below w.heap.size w (w.alloc (.cells #[.int .i64 v.k, .int .i64 v.n, .string v.s] 23)) := (Below.refl _ _).alloc (Nat.le_refl _) _
  have h1 := hR _ hb0
  have hk : (w.alloc (.cells #[.int .i64 v.k, .int .i64 v.n, .string v.s] 23)).heap[w.heap.size]? = some (.cells #[.int .i64 v.k, .int .i64 v.n, .string v.s] 23 (0, 0)) := heap_alloc_new w _
  have hN := fun W => val_Named name W (show name.size ≤ 9223372036854775807 by unfold okS at hs; omega)
  have hM := fun W => val_May v.k v.n v.s W
  have HB := Lib.hid hb0
  have HK := Lib.hid hk
  cases e1 : rightV l with
  | false =>
    rw [e1] at h1
    have H1 := Lib.hid h1
    clear h1 hR hb0 hbad e1 hs hN hM hk
    go_enter Tryd.func15, Tryd.ntmps15
    go_wp2_with (go_at_call 21; refine H1.out.mono ?_; rintro e w1 ⟨rfl, hb1⟩; have HS1 := Lib.hid (below2 HB.out hb1); clear hb1)
    go_ret2
    exact ⟨_, rfl, own_nil _ _ _ _, HS1.out⟩
  | true =>
    rw [e1] at h1
    have H1 := Lib.hid h1
    cases e2 : named name with
    | false =>
      rw [e2] at hN
      have HN := Lib.hid hN
      clear h1 hR hb0 hbad e1 e2 hs hN hM hk
      go_enter Tryd.func15, Tryd.ntmps15
      go_wp2_with (first | (go_at_call 21; refine H1.out.mono ?_; rintro e w1 ⟨rfl, hb1⟩; have HS1 := Lib.hid (below2 HB.out hb1); clear hb1) | (go_at_call 23; refine (HN.out _).mono ?_; rintro e w2 ⟨rfl, hb2⟩; have HS2 := Lib.hid (below2 HS1.out hb2); clear hb2))
      go_ret2
      exact ⟨_, rfl, own_nil _ _ _ _, HS2.out⟩
    | true =>
      have e3 : mayV v.k v.n v.s = false := by rw [e1, e2] at hbad; simpa [GVal.may] using hbad
      rw [e2] at hN
      rw [e3] at hM
      have HN := Lib.hid hN
      have HM := Lib.hid hM
      clear h1 hR hb0 hbad e1 e2 e3 hs hN hM hk
      go_enter Tryd.func15, Tryd.ntmps15
      go_wp2_with (first | (go_at_call 21; refine H1.out.mono ?_; rintro e w1 ⟨rfl, hb1⟩; have HS1 := Lib.hid (below2 HB.out hb1); have HK1 := Lib.hid (block_below hb1 HK.out); clear hb1) | (go_at_call 23; refine (HN.out _).mono ?_; rintro e w2 ⟨rfl, hb2⟩; have HS2 := Lib.hid (below2 HS1.out hb2); have k0 := cell_of_blk (block_below hb2 HK1.out) 0; have k1 := cell_of_blk (block_below hb2 HK1.out) 1; have k2 := cell_of_blk (block_below hb2 HK1.out) 2; clear hb2) | (go_at_call 22; refine (HM.out _).mono ?_; rintro e w3 ⟨rfl, hb3⟩; have HS3 := Lib.hid (below2 HS2.out hb3); clear hb3))
      go_ret2
      exact ⟨_, rfl, own_nil _ _ _ _, HS3.out⟩

set_option maxRecDepth 100000 in
set_option maxHeartbeats 4000000 in
/-- there is no room -/
theorem put_full (A : Option Addr) (n c : Nat) (name : ByteArray) (v : GVal) (l : List GVar) (w : World) (hs : okS name) (hl : l.length = n) (hnc : n ≤ c) (hr : ReadsV w A l)
    (hR : ∀ W, Below w.heap.size w W → Calls Tryd.prog 21 #[.slice A n c] W fun e w' => e = .returned (.bool (rightV l)) ∧ Below W.heap.size W w')
    (hrt : rightV l = true) (hnm : named name = true) (hmy : v.may = true) (hh : hasV name l = false) (hn16 : n = 16) :
    Calls Tryd.prog 15 #[.slice A n c, .string name, .agg #[.int .i64 v.k, .int .i64 v.n, .string v.s]] w (PutTo ([], 4) w) := by
  have hb0 : Below w.heap.size w (w.alloc (.cells #[.int .i64 v.k, .int .i64 v.n, .string v.s] 23)) := (Below.refl _ _).alloc (Nat.le_refl _) _
  have h1 := hR _ hb0
  rw [hrt] at h1
  have hN := fun W => val_Named name W (show name.size ≤ 9223372036854775807 by unfold okS at hs; omega)
  rw [hnm] at hN
  have hM := fun W => val_May v.k v.n v.s W
  rw [show mayV v.k v.n v.s = true from hmy] at hM
  have HB := Lib.hid hb0
  have HK := Lib.hid (show (w.alloc (.cells #[.int .i64 v.k, .int .i64 v.n, .string v.s] 23)).heap[w.heap.size]? = some (.cells #[.int .i64 v.k, .int .i64 v.n, .string v.s] 23 (0, 0)) from heap_alloc_new w _)
  have H1 := Lib.hid h1
  have HN := Lib.hid hN
  have HM := Lib.hid hM
  have HL := Lib.hid hl
  have HR := Lib.hid hr
  have HMO := Lib.hid (right_mono hrt name)
  have h16 := (rightV_all hrt).1
  rw [hl] at h16
  have HH : Hid ((decide (posV name l < l.length) && decide (cAt name l (posV name l) = 0)) = hasV name l) := Lib.hid rfl
  rw [hh] at HH
  subst hn16
  clear h1 hR hb0 hrt hnm hmy hs hN hM hl hr hh
  go_enter Tryd.func15, Tryd.ntmps15
  go_wp2_with (first | (go_at_call 21; refine H1.out.mono ?_; rintro e w1 ⟨rfl, hb1⟩; have HS1 := Lib.hid (below2 HB.out hb1); have HK1 := Lib.hid (block_below hb1 HK.out); clear hb1) | (go_at_call 23; refine (HN.out _).mono ?_; rintro e w2 ⟨rfl, hb2⟩; have HS2 := Lib.hid (below2 HS1.out hb2); have HK2 := Lib.hid (block_below hb2 HK1.out); have k0 := cell_of_blk HK2.out 0; have k1 := cell_of_blk HK2.out 1; have k2 := cell_of_blk HK2.out 2; clear hb2) | (go_at_call 22; refine (HM.out _).mono ?_; rintro e w3 ⟨rfl, hb3⟩; have HS3 := Lib.hid (below2 HS2.out hb3); have HK3 := Lib.hid (block_below hb3 HK2.out); clear hb3 k0 k1 k2) | (go_at_call 42; refine (put_search A 16 c name l _ HL.out hnc (by omega) (HR.out.below HS3.out) HMO.out).mono ?_; rintro e w4 ⟨i, hi1, hi2, hi3, rfl, hb4⟩; obtain rfl : posV name l = i := pos_of hi1 hi2 hi3; clear hi1 hi2 hi3; have HS4 := Lib.hid (below2 HS3.out hb4); have HK4 := Lib.hid (block_below hb4 HK3.out); clear hb4; rw [HH.out]) | (go_at_call 45; refine (put_clone A 16 c l _ HL.out hnc (by omega) (HR.out.below HS4.out)).mono ?_; rintro e w5 ⟨v5, rfl, hown, hb5⟩; have HS5 := Lib.hid (below2 HS4.out hb5); clear hb5 hown))
  go_ret2
  exact ⟨_, rfl, own_nil _ _ _ _, HS5.out⟩

theorem own_some {w : World} {b e size n : Nat} {v : Value} {xs : List Value} (h : w.ownsRow b e size v n xs) (hn : 0 < n * size) : ∃ g cap, ∃ cur : Array Value, v = .slice (some ⟨g, 0, none⟩) n cap ∧ b ≤ g ∧ w.heap[g]? = some (.cells cur e (0, 0)) ∧ n ≤ cap ∧ cap ≤ maxLen ∧ cap * size = cur.size ∧ cur.toList.take (n * size) = xs := by
  obtain ⟨h1, h2⟩ := h
  rcases h2 with ⟨_, h2⟩ | ⟨g, cap, cur, rfl, hbg, hh, hnc, hcm, hcs, htk⟩
  · subst h2; simp at hn
  · exact ⟨g, cap, cur, rfl, hbg, hh, hnc, hcm, by omega, htk⟩
theorem app_cells (l : List GVar) (i : Nat) (name : ByteArray) (v : GVal) : varCells (l.take i ++ ⟨name, v⟩ :: l.drop i) = (varCells l).take (i * 4) ++ [.string name, .int .i64 v.k, .int .i64 v.n, .string v.s] ++ (varCells l).drop (i * 4) := by
  rw [varCells_append, varCells_take]
  have e : varCells (⟨name, v⟩ :: l.drop i) = [.string name, .int .i64 v.k, .int .i64 v.n, .string v.s] ++ varCells (l.drop i) := rfl
  rw [e, varCells_drop, List.append_assoc]
/-- slices.Insert of one, wherever -/
theorem ins_one (base : Nat) (v : Value) (n i xb : Nat) (xs cs : List Value) (w0 w : World) (hi : i ≤ n) (hown : w.ownsRow base 60 4 v n xs) (hx : w.heap[xb]? = some (.cells cs.toArray 60 (0, 0))) (hxv : ∀ g, v.ownBlock = some g → xb ≠ g) (hcs : cs.length = 4) (h1c : ∀ u ∈ cs, u.oneCell' = true) (h1x : ∀ u ∈ xs, u.oneCell' = true)
    (hB : Below base w0 w) (hbase : base ≤ w.heap.size) (hbig : (n + 1) * 48 ≤ 140737488355328) :
    Calls Tryd.prog 46 #[v, .int .i64 i, .slice (some ⟨xb, 0, none⟩) 1 1] w fun e w' => ∃ v', e = .returned v' ∧ w'.ownsRow base 60 4 v' (n + 1) (xs.take (i * 4) ++ cs ++ xs.drop (i * 4)) ∧ Below base w0 w' := by
  by_cases he : i = n
  · subst he
    have hxl := hown.1
    have h := ins_end base v i xb xs cs w0 w hown hx hcs h1c hB hbase hbig
    rw [List.take_of_length_le (by omega), List.drop_of_length_le (by omega), List.append_nil]
    exact h
  · have hlt : i < n := by omega
    have h2 := hown.2
    rcases h2 with ⟨_, hn0⟩ | ⟨g, cap, cur, rfl, hb, hh, hnc, hcm, _⟩
    · have := hown.1; rw [hn0] at this; simp at this; omega
    · by_cases hc : n + 1 ≤ cap
      · exact ins_room base g cap n i xb 1 1 xs cs w0 w hlt (by omega) hc hown hx (hxv g rfl) (by omega) h1c h1x hB
      · exact ins_grow base g cap n i xb 1 1 xs cs w0 w hlt (by omega) (by omega) hown hx (by omega) h1c h1x hB hbase hbig

set_option maxRecDepth 100000 in
set_option maxHeartbeats 4000000 in
/-- a new one -/
theorem put_new (A : Option Addr) (n c : Nat) (name : ByteArray) (v : GVal) (l : List GVar) (w : World) (hs : okS name) (hl : l.length = n) (hnc : n ≤ c) (hr : ReadsV w A l)
    (hR : ∀ W, Below w.heap.size w W → Calls Tryd.prog 21 #[.slice A n c] W fun e w' => e = .returned (.bool (rightV l)) ∧ Below W.heap.size W w')
    (hrt : rightV l = true) (hnm : named name = true) (hmy : v.may = true) (hh : hasV name l = false) (hn16 : n < 16) :
    Calls Tryd.prog 15 #[.slice A n c, .string name, .agg #[.int .i64 v.k, .int .i64 v.n, .string v.s]] w (PutTo (l.take (posV name l) ++ ⟨name, v⟩ :: l.drop (posV name l), 0) w) := by
  have hb0 : Below w.heap.size w (w.alloc (.cells #[.int .i64 v.k, .int .i64 v.n, .string v.s] 23)) := (Below.refl _ _).alloc (Nat.le_refl _) _
  have h1 := hR _ hb0
  rw [hrt] at h1
  have hN := fun W => val_Named name W (show name.size ≤ 9223372036854775807 by unfold okS at hs; omega)
  rw [hnm] at hN
  have hM := fun W => val_May v.k v.n v.s W
  rw [show mayV v.k v.n v.s = true from hmy] at hM
  have HB := Lib.hid hb0
  have HK := Lib.hid (show (w.alloc (.cells #[.int .i64 v.k, .int .i64 v.n, .string v.s] 23)).heap[w.heap.size]? = some (.cells #[.int .i64 v.k, .int .i64 v.n, .string v.s] 23 (0, 0)) from heap_alloc_new w _)
  have H1 := Lib.hid h1
  have HN := Lib.hid hN
  have HM := Lib.hid hM
  have HL := Lib.hid hl
  have HR := Lib.hid hr
  have HMO := Lib.hid (right_mono hrt name)
  have h16 := (rightV_all hrt).1
  rw [hl] at h16
  have HH : Hid ((decide (posV name l < l.length) && decide (cAt name l (posV name l) = 0)) = hasV name l) := Lib.hid rfl
  rw [hh] at HH
  have hq16 : ((n : Int) == 16) = false := beq_f (by omega)
  have hpl : posV name l ≤ l.length := by unfold posV; exact (List.takeWhile_prefix _).length_le
  have HPL := Lib.hid hpl
  have HAC := Lib.hid (app_cells l (posV name l) name v)
  clear h1 hR hb0 hrt hnm hmy hs hN hM hl hr hh hpl
  go_enter Tryd.func15, Tryd.ntmps15
  go_wp2_with (first | (go_at_call 21; refine H1.out.mono ?_; rintro e w1 ⟨rfl, hb1⟩; have HS1 := Lib.hid (below2 HB.out hb1); have HK1 := Lib.hid (block_below hb1 HK.out); clear hb1) | (go_at_call 23; refine (HN.out _).mono ?_; rintro e w2 ⟨rfl, hb2⟩; have HS2 := Lib.hid (below2 HS1.out hb2); have HK2 := Lib.hid (block_below hb2 HK1.out); have k0 := cell_of_blk HK2.out 0; have k1 := cell_of_blk HK2.out 1; have k2 := cell_of_blk HK2.out 2; clear hb2) | (go_at_call 22; refine (HM.out _).mono ?_; rintro e w3 ⟨rfl, hb3⟩; have HS3 := Lib.hid (below2 HS2.out hb3); have HK3 := Lib.hid (block_below hb3 HK2.out); clear hb3 k0 k1 k2) | (go_at_call 42; refine (put_search A n c name l _ HL.out hnc (by omega) (HR.out.below HS3.out) HMO.out).mono ?_; rintro e w4 ⟨i, hi1, hi2, hi3, rfl, hb4⟩; obtain rfl : posV name l = i := pos_of hi1 hi2 hi3; clear hi1 hi2 hi3; have HS4 := Lib.hid (below2 HS3.out hb4); have HK4 := Lib.hid (block_below hb4 HK3.out); clear hb4; rw [HH.out]) | (go_at_call 45; refine (put_clone A n c l _ HL.out hnc (by omega) (HR.out.below HS4.out)).mono ?_; rintro e w5 ⟨v5, rfl, hown, hb5⟩; have HOW := Lib.hid hown; have HS5 := Lib.hid (below2 HS4.out hb5); have HK5 := Lib.hid (block_below hb5 HK4.out); have k0 := cell_of_blk HK5.out 0; have k1 := cell_of_blk HK5.out 1; have k2 := cell_of_blk HK5.out 2; have hsz5 := hb5.size; have hsz4 := HS4.out.size; clear hb5 hown))
  have hlt : ∀ g, v5.ownBlock = some g → w5.heap.size ≠ g := fun g hg => by have := (HOW.out.lt g hg).2; omega
  refine (ins_one w.heap.size v5 l.length (posV name l) w5.heap.size (varCells l) [.string name, .int .i64 v.k, .int .i64 v.n, .string v.s] w _ HPL.out ((own_base HOW.out (by have := HS4.out.size; omega)).alloc _) (heap_alloc_new w5 _) hlt rfl (by intro u hu; simp only [List.mem_cons, List.not_mem_nil, or_false] at hu; rcases hu with rfl | rfl | rfl | rfl <;> rfl) (varCells_one l) (below_alloc HS5.out _) (by have := HS5.out.size; simp; omega) (by rw [HL.out]; omega)).mono ?_
  rintro e w6 ⟨v6, rfl, hown6, hb6⟩
  have HO6 := Lib.hid hown6
  have HB6 := Lib.hid hb6
  clear hown6 hb6 hlt
  go_wp2_with fail
  go_ret2
  refine ⟨v6, rfl, ?_, HB6.out⟩
  have hlen : (l.take (posV name l) ++ ⟨name, v⟩ :: l.drop (posV name l)).length = l.length + 1 := by
    have := HPL.out
    simp only [List.length_append, List.length_take, List.length_cons, List.length_drop]; omega
  rw [hlen, HAC.out]
  exact HO6.out

set_option maxRecDepth 100000 in
set_option maxHeartbeats 4000000 in
/-- one that is there -/
theorem put_set (A : Option Addr) (n c : Nat) (name : ByteArray) (v : GVal) (l : List GVar) (w : World) (hs : okS name) (hl : l.length = n) (hnc : n ≤ c) (hr : ReadsV w A l)
    (hR : ∀ W, Below w.heap.size w W → Calls Tryd.prog 21 #[.slice A n c] W fun e w' => e = .returned (.bool (rightV l)) ∧ Below W.heap.size W w')
    (hrt : rightV l = true) (hnm : named name = true) (hmy : v.may = true) (hh : hasV name l = true) :
    Calls Tryd.prog 15 #[.slice A n c, .string name, .agg #[.int .i64 v.k, .int .i64 v.n, .string v.s]] w (PutTo (l.set (posV name l) ⟨name, v⟩, 0) w) := by
  have hb0 : Below w.heap.size w (w.alloc (.cells #[.int .i64 v.k, .int .i64 v.n, .string v.s] 23)) := (Below.refl _ _).alloc (Nat.le_refl _) _
  have h1 := hR _ hb0
  rw [hrt] at h1
  have hN := fun W => val_Named name W (show name.size ≤ 9223372036854775807 by unfold okS at hs; omega)
  rw [hnm] at hN
  have hM := fun W => val_May v.k v.n v.s W
  rw [show mayV v.k v.n v.s = true from hmy] at hM
  have HB := Lib.hid hb0
  have HK := Lib.hid (show (w.alloc (.cells #[.int .i64 v.k, .int .i64 v.n, .string v.s] 23)).heap[w.heap.size]? = some (.cells #[.int .i64 v.k, .int .i64 v.n, .string v.s] 23 (0, 0)) from heap_alloc_new w _)
  have H1 := Lib.hid h1
  have HN := Lib.hid hN
  have HM := Lib.hid hM
  have HL := Lib.hid hl
  have HR := Lib.hid hr
  have HMO := Lib.hid (right_mono hrt name)
  have h16 := (rightV_all hrt).1
  rw [hl] at h16
  have HH : Hid ((decide (posV name l < l.length) && decide (cAt name l (posV name l) = 0)) = hasV name l) := Lib.hid rfl
  rw [hh] at HH
  have hpl : posV name l ≤ l.length := by unfold posV; exact (List.takeWhile_prefix _).length_le
  have HPL := Lib.hid hpl
  have hlt : posV name l < l.length := by unfold hasV at hh; simp only [Bool.and_eq_true, decide_eq_true_eq] at hh; exact hh.1
  have hname : l[posV name l].name = name := by unfold hasV at hh; simp only [Bool.and_eq_true, decide_eq_true_eq] at hh; have h := hh.2; rw [cAt_at hlt] at h; exact (cmpS_eq _ _).1 h
  have HVS := Lib.hid (varCells_set (v := v) hlt hname)
  have hpn : posV name l < n := by omega
  clear hlt hname
  have HVL : Hid ((varCells l).length = n * 4) := Lib.hid (by rw [varCells_len, hl])
  clear h1 hR hb0 hrt hnm hmy hs hN hM hl hr hh hpl
  go_enter Tryd.func15, Tryd.ntmps15
  go_wp2_with (first | (go_at_call 21; refine H1.out.mono ?_; rintro e w1 ⟨rfl, hb1⟩; have HS1 := Lib.hid (below2 HB.out hb1); have HK1 := Lib.hid (block_below hb1 HK.out); clear hb1) | (go_at_call 23; refine (HN.out _).mono ?_; rintro e w2 ⟨rfl, hb2⟩; have HS2 := Lib.hid (below2 HS1.out hb2); have HK2 := Lib.hid (block_below hb2 HK1.out); have k0 := cell_of_blk HK2.out 0; have k1 := cell_of_blk HK2.out 1; have k2 := cell_of_blk HK2.out 2; clear hb2) | (go_at_call 22; refine (HM.out _).mono ?_; rintro e w3 ⟨rfl, hb3⟩; have HS3 := Lib.hid (below2 HS2.out hb3); have HK3 := Lib.hid (block_below hb3 HK2.out); clear hb3 k0 k1 k2) | (go_at_call 42; refine (put_search A n c name l _ HL.out hnc (by omega) (HR.out.below HS3.out) HMO.out).mono ?_; rintro e w4 ⟨i, hi1, hi2, hi3, rfl, hb4⟩; obtain rfl : posV name l = i := pos_of hi1 hi2 hi3; clear hi1 hi2 hi3; have HS4 := Lib.hid (below2 HS3.out hb4); have HK4 := Lib.hid (block_below hb4 HK3.out); clear hb4; rw [HH.out]))
  refine (put_clone A n c l _ HL.out hnc (by omega) (HR.out.below HS4.out)).mono ?_
  rintro e w5 ⟨v5, rfl, hown, hb5⟩
  have HS5 := Lib.hid (below2 HS4.out hb5)
  have HK5 := Lib.hid (block_below hb5 HK4.out)
  have k0 := cell_of_blk HK5.out 0
  have k1 := cell_of_blk HK5.out 1
  have k2 := cell_of_blk HK5.out 2
  have hb4 := HS4.out.size
  rw [HL.out] at hown
  obtain ⟨g, cap, cur, rfl, hbg, hhg, hnc5, hcm5, hcs5, htk5⟩ := own_some hown (by omega)
  obtain ⟨u1, hu1⟩ : ∃ u, cur[posV name l * 4 + 1]? = some u := ⟨_, Array.getElem?_eq_getElem (by omega)⟩
  obtain ⟨u2, hu2⟩ : ∃ u, cur[posV name l * 4 + 2]? = some u := ⟨_, Array.getElem?_eq_getElem (by omega)⟩
  obtain ⟨u3, hu3⟩ : ∃ u, cur[posV name l * 4 + 3]? = some u := ⟨_, Array.getElem?_eq_getElem (by omega)⟩
  have j1 := (cell_of_blk hhg (posV name l * 4 + 1)).trans hu1
  have j2 := (cell_of_blk hhg (posV name l * 4 + 2)).trans hu2
  have j3 := (cell_of_blk hhg (posV name l * 4 + 3)).trans hu3
  have f1 := frozen_of_blk hhg (posV name l * 4 + 1)
  have f2 := frozen_of_blk hhg (posV name l * 4 + 2)
  have f3 := frozen_of_blk hhg (posV name l * 4 + 3)
  have HG := Lib.hid hhg
  have HTK := Lib.hid htk5
  have HCS := Lib.hid hcs5
  have HBG : Hid (w.heap.size ≤ g) := Lib.hid (by omega)
  have HCM := Lib.hid hcm5
  clear hb5 hown hhg htk5 hcs5 hu1 hu2 hu3 hbg hb4 hcm5
  go_wp2_with fail
  go_ret2
  have hg2 := set_blk (o := posV name l * 4 + 3) (set_blk (o := posV name l * 4 + 2) (set_blk (o := posV name l * 4 + 1) HG.out (.int .i64 v.k)) (.int .i64 v.n)) (.string v.s)
  have hll : (l.set (posV name l) ⟨name, v⟩).length = n := by rw [List.length_set, HL.out]
  refine ⟨_, rfl, ?_, ?_⟩
  · show World.ownsRow _ _ _ _ _ (l.set (posV name l) ⟨name, v⟩).length (varCells (l.set (posV name l) ⟨name, v⟩))
    rw [hll]
    refine ⟨by rw [varCells_len, hll], .inr ⟨g, cap, _, rfl, HBG.out, hg2, hnc5, HCM.out, by simp only [Array.size_setIfInBounds]; have := HCS.out; omega, ?_⟩⟩
    rw [HVS.out, ← HTK.out]
    simp only [Array.toList_setIfInBounds, List.take_set]
  · exact ((HS5.out.setCell (p := ⟨g, posV name l * 4 + 1, none⟩) HBG.out _).setCell (p := ⟨g, posV name l * 4 + 2, none⟩) HBG.out _).setCell (p := ⟨g, posV name l * 4 + 3, none⟩) HBG.out _
set_option maxRecDepth 100000 in
/-- value.Put, whole -/
theorem val_Put (A : Option Addr) (n c : Nat) (name : ByteArray) (v : GVal) (l : List GVar) (w : World) (hs : okS name) (hl : l.length = n) (hnc : n ≤ c) (hr : ReadsV w A l)
    (hR : ∀ W, Below w.heap.size w W → Calls Tryd.prog 21 #[.slice A n c] W fun e w' => e = .returned (.bool (rightV l)) ∧ Below W.heap.size W w') :
    Calls Tryd.prog 15 #[.slice A n c, .string name, .agg #[.int .i64 v.k, .int .i64 v.n, .string v.s]] w (PutTo (putOut name v l) w) := by
  unfold putOut
  by_cases hok : (rightV l && named name && v.may) = true
  · rw [if_pos hok]
    simp only [Bool.and_eq_true] at hok
    obtain ⟨⟨h1, h2⟩, h3⟩ := hok
    have h16 := (rightV_all h1).1
    cases hh : hasV name l with
    | true =>
      rw [if_neg (by simp)]
      unfold putList; rw [hh, if_pos rfl]
      exact put_set A n c name v l w hs hl hnc hr hR h1 h2 h3 hh
    | false =>
      by_cases hn16 : n = 16
      · rw [if_pos ⟨rfl, by omega⟩]
        exact put_full A n c name v l w hs hl hnc hr hR h1 h2 h3 hh hn16
      · rw [if_neg (by omega)]
        unfold putList; rw [hh, if_neg (by simp)]
        exact put_new A n c name v l w hs hl hnc hr hR h1 h2 h3 hh (by omega)
  · rw [if_neg hok]
    exact put_bad A n c name v l w hs hR (by simpa using hok)
end Go.Proofs.YthhgfdejadbigaaDoor
