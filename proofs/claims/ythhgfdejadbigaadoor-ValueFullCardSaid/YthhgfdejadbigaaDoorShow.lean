/-
  Merged from Put, Show.
-/
import Derived.Test.YthhgfdejadbigaaDoorClone
/-
  The walk of value.Put.
-/
set_option linter.unusedVariables false
set_option linter.unusedSimpArgs false
namespace Go.Proofs.YthhgfdejadbigaaDoor
open Go Go.RowKit Go.Proofs.Base

theorem own_base {w : World} {b b' e size n : Nat} {v : Value} {xs : List Value} (h : w.ownsRow b e size v n xs) (hb : b' ≤ b) : w.ownsRow b' e size v n xs := by
  obtain ⟨h1, h2⟩ := h
  refine ⟨h1, ?_⟩
  rcases h2 with h2 | ⟨g, cap, cur, rfl, hbg, r⟩
  · exact .inl h2
  · exact .inr ⟨g, cap, cur, rfl, Nat.le_trans hb hbg, r⟩
def PutTo (r : List GVar × Int) (w : World) (e : Ending) (w' : World) : Prop := ∃ v', e = .returned (.tuple #[v', .int .i64 r.2]) ∧ w'.ownsRow w.heap.size 60 4 v' r.1.length (varCells r.1) ∧ Below w.heap.size w w'

set_option maxRecDepth 100000 in
set_option maxHeartbeats 2000000 in
/-- what may not be -/
theorem put_bad (A : Option Addr) (n c : Nat) (name : ByteArray) (v : GVal) (l : List GVar) (w : World) (hs : okS name)
    (hR : ∀ W, Below w.heap.size w W → Calls Tryd.prog 21 #[.slice A n c] W fun e w' => e = .returned (.bool (rightV l)) ∧ Below W.heap.size W w')
    (hbad : (rightV l && named name && v.may) = false) :
    Calls Tryd.prog 15 #[.slice A n c, .string name, .agg #[.int .i64 v.k, .int .i64 v.n, .string v.s]] w (PutTo ([], 1) w) := by
  have hb0 : Below w.heap.size w (w.alloc (.cells #[.int .i64 v.k, .int .i64 v.n, .string v.s] 23)) := (Below.refl _ _).alloc (Nat.le_refl _) _
  have h1 := hR _ hb0
  have hk : (w.alloc (.cells #[.int .i64 v.k, .int .i64 v.n, .string v.s] 23)).heap[w.heap.size]? = some (.cells #[.int .i64 v.k, .int .i64 v.n, .string v.s] 23 (0, 0)) := heap_alloc_new w _
  have hN := fun W => val_Named name W (show name.size ≤ 9223372036854775807 by unfold okS at hs; omega)
  have hM := fun W => val_May v.k v.n v.s W
  have HB := Lib.hid hb0
  have HK := Lib.hid hk
  cases e1 : rightV l with
  | false =>
    rw [e1] at h1
    have H1 := Lib.hid h1
    clear h1 hR hb0 hbad e1 hs hN hM hk
    go_enter Tryd.func15, Tryd.ntmps15
    go_wp2_with (go_at_call 21; refine H1.out.mono ?_; rintro e w1 ⟨rfl, hb1⟩; have HS1 := Lib.hid (below2 HB.out hb1); clear hb1)
    go_ret2
    exact ⟨_, rfl, own_nil _ _ _ _, HS1.out⟩
  | true =>
    rw [e1] at h1
    have H1 := Lib.hid h1
    cases e2 : named name with
    | false =>
      rw [e2] at hN
      have HN := Lib.hid hN
      clear h1 hR hb0 hbad e1 e2 hs hN hM hk
      go_enter Tryd.func15, Tryd.ntmps15
      go_wp2_with (first | (go_at_call 21; refine H1.out.mono ?_; rintro e w1 ⟨rfl, hb1⟩; have HS1 := Lib.hid (below2 HB.out hb1); clear hb1) | (go_at_call 23; refine (HN.out _).mono ?_; rintro e w2 ⟨rfl, hb2⟩; have HS2 := Lib.hid (below2 HS1.out hb2); clear hb2))
      go_ret2
      exact ⟨_, rfl, own_nil _ _ _ _, HS2.out⟩
    | true =>
      have e3 : mayV v.k v.n v.s = false := by rw [e1, e2] at hbad; simpa [GVal.may] using hbad
      rw [e2] at hN
      rw [e3] at hM
      have HN := Lib.hid hN
      have HM := Lib.hid hM
      clear h1 hR hb0 hbad e1 e2 e3 hs hN hM hk
      go_enter Tryd.func15, Tryd.ntmps15
      go_wp2_with (first | (go_at_call 21; refine H1.out.mono ?_; rintro e w1 ⟨rfl, hb1⟩; have HS1 := Lib.hid (below2 HB.out hb1); have HK1 := Lib.hid (block_below hb1 HK.out); clear hb1) | (go_at_call 23; refine (HN.out _).mono ?_; rintro e w2 ⟨rfl, hb2⟩; have HS2 := Lib.hid (below2 HS1.out hb2); have k0 := cell_of_blk (block_below hb2 HK1.out) 0; have k1 := cell_of_blk (block_below hb2 HK1.out) 1; have k2 := cell_of_blk (block_below hb2 HK1.out) 2; clear hb2) | (go_at_call 22; refine (HM.out _).mono ?_; rintro e w3 ⟨rfl, hb3⟩; have HS3 := Lib.hid (below2 HS2.out hb3); clear hb3))
      go_ret2
      exact ⟨_, rfl, own_nil _ _ _ _, HS3.out⟩

set_option maxRecDepth 100000 in
set_option maxHeartbeats 4000000 in
/-- there is no room -/
theorem put_full (A : Option Addr) (n c : Nat) (name : ByteArray) (v : GVal) (l : List GVar) (w : World) (hs : okS name) (hl : l.length = n) (hnc : n ≤ c) (hr : ReadsV w A l)
    (hR : ∀ W, Below w.heap.size w W → Calls Tryd.prog 21 #[.slice A n c] W fun e w' => e = .returned (.bool (rightV l)) ∧ Below W.heap.size W w')
    (hrt : rightV l = true) (hnm : named name = true) (hmy : v.may = true) (hh : hasV name l = false) (hn16 : n = 16) :
    Calls Tryd.prog 15 #[.slice A n c, .string name, .agg #[.int .i64 v.k, .int .i64 v.n, .string v.s]] w (PutTo ([], 4) w) := by
  have hb0 : Below w.heap.size w (w.alloc (.cells #[.int .i64 v.k, .int .i64 v.n, .string v.s] 23)) := (Below.refl _ _).alloc (Nat.le_refl _) _
  have h1 := hR _ hb0
  rw [hrt] at h1
  have hN := fun W => val_Named name W (show name.size ≤ 9223372036854775807 by unfold okS at hs; omega)
  rw [hnm] at hN
  have hM := fun W => val_May v.k v.n v.s W
  rw [show mayV v.k v.n v.s = true from hmy] at hM
  have HB := Lib.hid hb0
  have HK := Lib.hid (show (w.alloc (.cells #[.int .i64 v.k, .int .i64 v.n, .string v.s] 23)).heap[w.heap.size]? = some (.cells #[.int .i64 v.k, .int .i64 v.n, .string v.s] 23 (0, 0)) from heap_alloc_new w _)
  have H1 := Lib.hid h1
  have HN := Lib.hid hN
  have HM := Lib.hid hM
  have HL := Lib.hid hl
  have HR := Lib.hid hr
  have HMO := Lib.hid (right_mono hrt name)
  have h16 := (rightV_all hrt).1
  rw [hl] at h16
  have HH : Hid ((decide (posV name l < l.length) && decide (cAt name l (posV name l) = 0)) = hasV name l) := Lib.hid rfl
  rw [hh] at HH
  subst hn16
  clear h1 hR hb0 hrt hnm hmy hs hN hM hl hr hh
  go_enter Tryd.func15, Tryd.ntmps15
  go_wp2_with (first | (go_at_call 21; refine H1.out.mono ?_; rintro e w1 ⟨rfl, hb1⟩; have HS1 := Lib.hid (below2 HB.out hb1); have HK1 := Lib.hid (block_below hb1 HK.out); clear hb1) | (go_at_call 23; refine (HN.out _).mono ?_; rintro e w2 ⟨rfl, hb2⟩; have HS2 := Lib.hid (below2 HS1.out hb2); have HK2 := Lib.hid (block_below hb2 HK1.out); have k0 := cell_of_blk HK2.out 0; have k1 := cell_of_blk HK2.out 1; have k2 := cell_of_blk HK2.out 2; clear hb2) | (go_at_call 22; refine (HM.out _).mono ?_; rintro e w3 ⟨rfl, hb3⟩; have HS3 := Lib.hid (below2 HS2.out hb3); have HK3 := Lib.hid (block_below hb3 HK2.out); clear hb3 k0 k1 k2) | (go_at_call 42; refine (put_search A 16 c name l _ HL.out hnc (by omega) (HR.out.below HS3.out) HMO.out).mono ?_; rintro e w4 ⟨i, hi1, hi2, hi3, rfl, hb4⟩; obtain rfl : posV name l = i := pos_of hi1 hi2 hi3; clear hi1 hi2 hi3; have HS4 := Lib.hid (below2 HS3.out hb4); have HK4 := Lib.hid (block_below hb4 HK3.out); clear hb4; rw [HH.out]) | (go_at_call 45; refine (put_clone A 16 c l _ HL.out hnc (by omega) (HR.out.below HS4.out)).mono ?_; rintro e w5 ⟨v5, rfl, hown, hb5⟩; have HS5 := Lib.hid (below2 HS4.out hb5); clear hb5 hown))
  go_ret2
  exact ⟨_, rfl, own_nil _ _ _ _, HS5.out⟩

theorem own_some {w : World} {b e size n : Nat} {v : Value} {xs : List Value} (h : w.ownsRow b e size v n xs) (hn : 0 < n * size) : ∃ g cap, ∃ cur : Array Value, v = .slice (some ⟨g, 0, none⟩) n cap ∧ b ≤ g ∧ w.heap[g]? = some (.cells cur e (0, 0)) ∧ n ≤ cap ∧ cap ≤ maxLen ∧ cap * size = cur.size ∧ cur.toList.take (n * size) = xs := by
  obtain ⟨h1, h2⟩ := h
  rcases h2 with ⟨_, h2⟩ | ⟨g, cap, cur, rfl, hbg, hh, hnc, hcm, hcs, htk⟩
  · subst h2; simp at hn
  · exact ⟨g, cap, cur, rfl, hbg, hh, hnc, hcm, by omega, htk⟩
theorem app_cells (l : List GVar) (i : Nat) (name : ByteArray) (v : GVal) : varCells (l.take i ++ ⟨name, v⟩ :: l.drop i) = (varCells l).take (i * 4) ++ [.string name, .int .i64 v.k, .int .i64 v.n, .string v.s] ++ (varCells l).drop (i * 4) := by
  rw [varCells_append, varCells_take]
  have e : varCells (⟨name, v⟩ :: l.drop i) = [.string name, .int .i64 v.k, .int .i64 v.n, .string v.s] ++ varCells (l.drop i) := rfl
  rw [e, varCells_drop, List.append_assoc]
/-- slices.Insert of one, wherever -/
theorem ins_one (base : Nat) (v : Value) (n i xb : Nat) (xs cs : List Value) (w0 w : World) (hi : i ≤ n) (hown : w.ownsRow base 60 4 v n xs) (hx : w.heap[xb]? = some (.cells cs.toArray 60 (0, 0))) (hxv : ∀ g, v.ownBlock = some g → xb ≠ g) (hcs : cs.length = 4) (h1c : ∀ u ∈ cs, u.oneCell' = true) (h1x : ∀ u ∈ xs, u.oneCell' = true)
    (hB : Below base w0 w) (hbase : base ≤ w.heap.size) (hbig : (n + 1) * 48 ≤ 140737488355328) :
    Calls Tryd.prog 46 #[v, .int .i64 i, .slice (some ⟨xb, 0, none⟩) 1 1] w fun e w' => ∃ v', e = .returned v' ∧ w'.ownsRow base 60 4 v' (n + 1) (xs.take (i * 4) ++ cs ++ xs.drop (i * 4)) ∧ Below base w0 w' := by
  by_cases he : i = n
  · subst he
    have hxl := hown.1
    have h := ins_end base v i xb xs cs w0 w hown hx hcs h1c hB hbase hbig
    rw [List.take_of_length_le (by omega), List.drop_of_length_le (by omega), List.append_nil]
    exact h
  · have hlt : i < n := by omega
    have h2 := hown.2
    rcases h2 with ⟨_, hn0⟩ | ⟨g, cap, cur, rfl, hb, hh, hnc, hcm, _⟩
    · have := hown.1; rw [hn0] at this; simp at this; omega
    · by_cases hc : n + 1 ≤ cap
      · exact ins_room base g cap n i xb 1 1 xs cs w0 w hlt (by omega) hc hown hx (hxv g rfl) (by omega) h1c h1x hB
      · exact ins_grow base g cap n i xb 1 1 xs cs w0 w hlt (by omega) (by omega) hown hx (by omega) h1c h1x hB hbase hbig

set_option maxRecDepth 100000 in
set_option maxHeartbeats 4000000 in
/-- a new one -/
theorem put_new (A : Option Addr) (n c : Nat) (name : ByteArray) (v : GVal) (l : List GVar) (w : World) (hs : okS name) (hl : l.length = n) (hnc : n ≤ c) (hr : ReadsV w A l)
    (hR : ∀ W, Below w.heap.size w W → Calls Tryd.prog 21 #[.slice A n c] W fun e w' => e = .returned (.bool (rightV l)) ∧ Below W.heap.size W w')
    (hrt : rightV l = true) (hnm : named name = true) (hmy : v.may = true) (hh : hasV name l = false) (hn16 : n < 16) :
    Calls Tryd.prog 15 #[.slice A n c, .string name, .agg #[.int .i64 v.k, .int .i64 v.n, .string v.s]] w (PutTo (l.take (posV name l) ++ ⟨name, v⟩ :: l.drop (posV name l), 0) w) := by
  have hb0 : Below w.heap.size w (w.alloc (.cells #[.int .i64 v.k, .int .i64 v.n, .string v.s] 23)) := (Below.refl _ _).alloc (Nat.le_refl _) _
  have h1 := hR _ hb0
  rw [hrt] at h1
  have hN := fun W => val_Named name W (show name.size ≤ 9223372036854775807 by unfold okS at hs; omega)
  rw [hnm] at hN
  have hM := fun W => val_May v.k v.n v.s W
  rw [show mayV v.k v.n v.s = true from hmy] at hM
  have HB := Lib.hid hb0
  have HK := Lib.hid (show (w.alloc (.cells #[.int .i64 v.k, .int .i64 v.n, .string v.s] 23)).heap[w.heap.size]? = some (.cells #[.int .i64 v.k, .int .i64 v.n, .string v.s] 23 (0, 0)) from heap_alloc_new w _)
  have H1 := Lib.hid h1
  have HN := Lib.hid hN
  have HM := Lib.hid hM
  have HL := Lib.hid hl
  have HR := Lib.hid hr
  have HMO := Lib.hid (right_mono hrt name)
  have h16 := (rightV_all hrt).1
  rw [hl] at h16
  have HH : Hid ((decide (posV name l < l.length) && decide (cAt name l (posV name l) = 0)) = hasV name l) := Lib.hid rfl
  rw [hh] at HH
  have hq16 : ((n : Int) == 16) = false := beq_f (by omega)
  have hpl : posV name l ≤ l.length := by unfold posV; exact (List.takeWhile_prefix _).length_le
  have HPL := Lib.hid hpl
  have HAC := Lib.hid (app_cells l (posV name l) name v)
  clear h1 hR hb0 hrt hnm hmy hs hN hM hl hr hh hpl
  go_enter Tryd.func15, Tryd.ntmps15
  go_wp2_with (first | (go_at_call 21; refine H1.out.mono ?_; rintro e w1 ⟨rfl, hb1⟩; have HS1 := Lib.hid (below2 HB.out hb1); have HK1 := Lib.hid (block_below hb1 HK.out); clear hb1) | (go_at_call 23; refine (HN.out _).mono ?_; rintro e w2 ⟨rfl, hb2⟩; have HS2 := Lib.hid (below2 HS1.out hb2); have HK2 := Lib.hid (block_below hb2 HK1.out); have k0 := cell_of_blk HK2.out 0; have k1 := cell_of_blk HK2.out 1; have k2 := cell_of_blk HK2.out 2; clear hb2) | (go_at_call 22; refine (HM.out _).mono ?_; rintro e w3 ⟨rfl, hb3⟩; have HS3 := Lib.hid (below2 HS2.out hb3); have HK3 := Lib.hid (block_below hb3 HK2.out); clear hb3 k0 k1 k2) | (go_at_call 42; refine (put_search A n c name l _ HL.out hnc (by omega) (HR.out.below HS3.out) HMO.out).mono ?_; rintro e w4 ⟨i, hi1, hi2, hi3, rfl, hb4⟩; obtain rfl : posV name l = i := pos_of hi1 hi2 hi3; clear hi1 hi2 hi3; have HS4 := Lib.hid (below2 HS3.out hb4); have HK4 := Lib.hid (block_below hb4 HK3.out); clear hb4; rw [HH.out]) | (go_at_call 45; refine (put_clone A n c l _ HL.out hnc (by omega) (HR.out.below HS4.out)).mono ?_; rintro e w5 ⟨v5, rfl, hown, hb5⟩; have HOW := Lib.hid hown; have HS5 := Lib.hid (below2 HS4.out hb5); have HK5 := Lib.hid (block_below hb5 HK4.out); have k0 := cell_of_blk HK5.out 0; have k1 := cell_of_blk HK5.out 1; have k2 := cell_of_blk HK5.out 2; have hsz5 := hb5.size; have hsz4 := HS4.out.size; clear hb5 hown))
  have hlt : ∀ g, v5.ownBlock = some g → w5.heap.size ≠ g := fun g hg => by have := (HOW.out.lt g hg).2; omega
  refine (ins_one w.heap.size v5 l.length (posV name l) w5.heap.size (varCells l) [.string name, .int .i64 v.k, .int .i64 v.n, .string v.s] w _ HPL.out ((own_base HOW.out (by have := HS4.out.size; omega)).alloc _) (heap_alloc_new w5 _) hlt rfl (by intro u hu; simp only [List.mem_cons, List.not_mem_nil, or_false] at hu; rcases hu with rfl | rfl | rfl | rfl <;> rfl) (varCells_one l) (below_alloc HS5.out _) (by have := HS5.out.size; simp; omega) (by rw [HL.out]; omega)).mono ?_
  rintro e w6 ⟨v6, rfl, hown6, hb6⟩
  have HO6 := Lib.hid hown6
  have HB6 := Lib.hid hb6
  clear hown6 hb6 hlt
  go_wp2_with fail
  go_ret2
  refine ⟨v6, rfl, ?_, HB6.out⟩
  have hlen : (l.take (posV name l) ++ ⟨name, v⟩ :: l.drop (posV name l)).length = l.length + 1 := by
    have := HPL.out
    simp only [List.length_append, List.length_take, List.length_cons, List.length_drop]; omega
  rw [hlen, HAC.out]
  exact HO6.out

set_option maxRecDepth 100000 in
set_option maxHeartbeats 4000000 in
/-- one that is there -/
theorem put_set (A : Option Addr) (n c : Nat) (name : ByteArray) (v : GVal) (l : List GVar) (w : World) (hs : okS name) (hl : l.length = n) (hnc : n ≤ c) (hr : ReadsV w A l)
    (hR : ∀ W, Below w.heap.size w W → Calls Tryd.prog 21 #[.slice A n c] W fun e w' => e = .returned (.bool (rightV l)) ∧ Below W.heap.size W w')
    (hrt : rightV l = true) (hnm : named name = true) (hmy : v.may = true) (hh : hasV name l = true) :
    Calls Tryd.prog 15 #[.slice A n c, .string name, .agg #[.int .i64 v.k, .int .i64 v.n, .string v.s]] w (PutTo (l.set (posV name l) ⟨name, v⟩, 0) w) := by
  have hb0 : Below w.heap.size w (w.alloc (.cells #[.int .i64 v.k, .int .i64 v.n, .string v.s] 23)) := (Below.refl _ _).alloc (Nat.le_refl _) _
  have h1 := hR _ hb0
  rw [hrt] at h1
  have hN := fun W => val_Named name W (show name.size ≤ 9223372036854775807 by unfold okS at hs; omega)
  rw [hnm] at hN
  have hM := fun W => val_May v.k v.n v.s W
  rw [show mayV v.k v.n v.s = true from hmy] at hM
  have HB := Lib.hid hb0
  have HK := Lib.hid (show (w.alloc (.cells #[.int .i64 v.k, .int .i64 v.n, .string v.s] 23)).heap[w.heap.size]? = some (.cells #[.int .i64 v.k, .int .i64 v.n, .string v.s] 23 (0, 0)) from heap_alloc_new w _)
  have H1 := Lib.hid h1
  have HN := Lib.hid hN
  have HM := Lib.hid hM
  have HL := Lib.hid hl
  have HR := Lib.hid hr
  have HMO := Lib.hid (right_mono hrt name)
  have h16 := (rightV_all hrt).1
  rw [hl] at h16
  have HH : Hid ((decide (posV name l < l.length) && decide (cAt name l (posV name l) = 0)) = hasV name l) := Lib.hid rfl
  rw [hh] at HH
  have hpl : posV name l ≤ l.length := by unfold posV; exact (List.takeWhile_prefix _).length_le
  have HPL := Lib.hid hpl
  have hlt : posV name l < l.length := by unfold hasV at hh; simp only [Bool.and_eq_true, decide_eq_true_eq] at hh; exact hh.1
  have hname : l[posV name l].name = name := by unfold hasV at hh; simp only [Bool.and_eq_true, decide_eq_true_eq] at hh; have h := hh.2; rw [cAt_at hlt] at h; exact (cmpS_eq _ _).1 h
  have HVS := Lib.hid (varCells_set (v := v) hlt hname)
  have hpn : posV name l < n := by omega
  clear hlt hname
  have HVL : Hid ((varCells l).length = n * 4) := Lib.hid (by rw [varCells_len, hl])
  clear h1 hR hb0 hrt hnm hmy hs hN hM hl hr hh hpl
  go_enter Tryd.func15, Tryd.ntmps15
  go_wp2_with (first | (go_at_call 21; refine H1.out.mono ?_; rintro e w1 ⟨rfl, hb1⟩; have HS1 := Lib.hid (below2 HB.out hb1); have HK1 := Lib.hid (block_below hb1 HK.out); clear hb1) | (go_at_call 23; refine (HN.out _).mono ?_; rintro e w2 ⟨rfl, hb2⟩; have HS2 := Lib.hid (below2 HS1.out hb2); have HK2 := Lib.hid (block_below hb2 HK1.out); have k0 := cell_of_blk HK2.out 0; have k1 := cell_of_blk HK2.out 1; have k2 := cell_of_blk HK2.out 2; clear hb2) | (go_at_call 22; refine (HM.out _).mono ?_; rintro e w3 ⟨rfl, hb3⟩; have HS3 := Lib.hid (below2 HS2.out hb3); have HK3 := Lib.hid (block_below hb3 HK2.out); clear hb3 k0 k1 k2) | (go_at_call 42; refine (put_search A n c name l _ HL.out hnc (by omega) (HR.out.below HS3.out) HMO.out).mono ?_; rintro e w4 ⟨i, hi1, hi2, hi3, rfl, hb4⟩; obtain rfl : posV name l = i := pos_of hi1 hi2 hi3; clear hi1 hi2 hi3; have HS4 := Lib.hid (below2 HS3.out hb4); have HK4 := Lib.hid (block_below hb4 HK3.out); clear hb4; rw [HH.out]))
  refine (put_clone A n c l _ HL.out hnc (by omega) (HR.out.below HS4.out)).mono ?_
  rintro e w5 ⟨v5, rfl, hown, hb5⟩
  have HS5 := Lib.hid (below2 HS4.out hb5)
  have HK5 := Lib.hid (block_below hb5 HK4.out)
  have k0 := cell_of_blk HK5.out 0
  have k1 := cell_of_blk HK5.out 1
  have k2 := cell_of_blk HK5.out 2
  have hb4 := HS4.out.size
  rw [HL.out] at hown
  obtain ⟨g, cap, cur, rfl, hbg, hhg, hnc5, hcm5, hcs5, htk5⟩ := own_some hown (by omega)
  obtain ⟨u1, hu1⟩ : ∃ u, cur[posV name l * 4 + 1]? = some u := ⟨_, Array.getElem?_eq_getElem (by omega)⟩
  obtain ⟨u2, hu2⟩ : ∃ u, cur[posV name l * 4 + 2]? = some u := ⟨_, Array.getElem?_eq_getElem (by omega)⟩
  obtain ⟨u3, hu3⟩ : ∃ u, cur[posV name l * 4 + 3]? = some u := ⟨_, Array.getElem?_eq_getElem (by omega)⟩
  have j1 := (cell_of_blk hhg (posV name l * 4 + 1)).trans hu1
  have j2 := (cell_of_blk hhg (posV name l * 4 + 2)).trans hu2
  have j3 := (cell_of_blk hhg (posV name l * 4 + 3)).trans hu3
  have f1 := frozen_of_blk hhg (posV name l * 4 + 1)
  have f2 := frozen_of_blk hhg (posV name l * 4 + 2)
  have f3 := frozen_of_blk hhg (posV name l * 4 + 3)
  have HG := Lib.hid hhg
  have HTK := Lib.hid htk5
  have HCS := Lib.hid hcs5
  have HBG : Hid (w.heap.size ≤ g) := Lib.hid (by omega)
  have HCM := Lib.hid hcm5
  clear hb5 hown hhg htk5 hcs5 hu1 hu2 hu3 hbg hb4 hcm5
  go_wp2_with fail
  go_ret2
  have hg2 := set_blk (o := posV name l * 4 + 3) (set_blk (o := posV name l * 4 + 2) (set_blk (o := posV name l * 4 + 1) HG.out (.int .i64 v.k)) (.int .i64 v.n)) (.string v.s)
  have hll : (l.set (posV name l) ⟨name, v⟩).length = n := by rw [List.length_set, HL.out]
  refine ⟨_, rfl, ?_, ?_⟩
  · show World.ownsRow _ _ _ _ _ (l.set (posV name l) ⟨name, v⟩).length (varCells (l.set (posV name l) ⟨name, v⟩))
    rw [hll]
    refine ⟨by rw [varCells_len, hll], .inr ⟨g, cap, _, rfl, HBG.out, hg2, hnc5, HCM.out, by simp only [Array.size_setIfInBounds]; have := HCS.out; omega, ?_⟩⟩
    rw [HVS.out, ← HTK.out]
    simp only [Array.toList_setIfInBounds, List.take_set]
  · exact ((HS5.out.setCell (p := ⟨g, posV name l * 4 + 1, none⟩) HBG.out _).setCell (p := ⟨g, posV name l * 4 + 2, none⟩) HBG.out _).setCell (p := ⟨g, posV name l * 4 + 3, none⟩) HBG.out _
set_option maxRecDepth 100000 in
/-- value.Put, whole -/
theorem val_Put (A : Option Addr) (n c : Nat) (name : ByteArray) (v : GVal) (l : List GVar) (w : World) (hs : okS name) (hl : l.length = n) (hnc : n ≤ c) (hr : ReadsV w A l)
    (hR : ∀ W, Below w.heap.size w W → Calls Tryd.prog 21 #[.slice A n c] W fun e w' => e = .returned (.bool (rightV l)) ∧ Below W.heap.size W w') :
    Calls Tryd.prog 15 #[.slice A n c, .string name, .agg #[.int .i64 v.k, .int .i64 v.n, .string v.s]] w (PutTo (putOut name v l) w) := by
  unfold putOut
  by_cases hok : (rightV l && named name && v.may) = true
  · rw [if_pos hok]
    simp only [Bool.and_eq_true] at hok
    obtain ⟨⟨h1, h2⟩, h3⟩ := hok
    have h16 := (rightV_all h1).1
    cases hh : hasV name l with
    | true =>
      rw [if_neg (by simp)]
      unfold putList; rw [hh, if_pos rfl]
      exact put_set A n c name v l w hs hl hnc hr hR h1 h2 h3 hh
    | false =>
      by_cases hn16 : n = 16
      · rw [if_pos ⟨rfl, by omega⟩]
        exact put_full A n c name v l w hs hl hnc hr hR h1 h2 h3 hh hn16
      · rw [if_neg (by omega)]
        unfold putList; rw [hh, if_neg (by simp)]
        exact put_new A n c name v l w hs hl hnc hr hR h1 h2 h3 hh (by omega)
  · rw [if_neg hok]
    exact put_bad A n c name v l w hs hR (by simpa using hok)
end Go.Proofs.YthhgfdejadbigaaDoor

/-
  strings.Builder.WriteByte; value.Show of a text whose bytes are all printed as they are or behind a stroke.
-/
set_option linter.unusedVariables false
set_option linter.unusedSimpArgs false
namespace Go.Proofs.Base
open Go Go.RowKit
def b1 (c : Nat) : ByteArray := ofN [c]
theorem strCells_b1 {c : Nat} (h : c < 256) : Lib.strCells (b1 c) = [.int .u8 (c : Int)] := by
  simp [Lib.strCells, b1, ofN, ofL, UInt8.toNat_ofNat', Nat.mod_eq_of_lt h]
def escB (c : Nat) : ByteArray := if c = 34 ∨ c = 92 then ofN [92, c] else b1 c
def printable (c : Nat) : Prop := 32 ≤ c ∧ c ≤ 126
def escAll : List UInt8 → ByteArray
  | [] => ByteArray.empty
  | c :: r => escB c.toNat ++ escAll r
theorem escAll_size : ∀ l : List UInt8, (escAll l).size ≤ 2 * l.length
  | [] => Nat.le_refl _
  | c :: r => by
    have h := escAll_size r
    have h1 : (escB c.toNat).size ≤ 2 := by unfold escB b1; split <;> rw [ofN_size] <;> simp
    show (escB c.toNat ++ escAll r).size ≤ _
    rw [app_size, List.length_cons]; omega
def showT (s : ByteArray) : ByteArray := b1 34 ++ escAll (toL s) ++ b1 34
end Go.Proofs.Base
namespace Go.Proofs.YthhgfdejadbigaaDoor
open Go Go.RowKit Go.Proofs.Base

set_option maxRecDepth 100000 in
set_option maxHeartbeats 2000000 in
theorem bld_WriteByte (B b : Nat) (s : ByteArray) (c : Nat) (hc : c < 256) (w : World) (h : Bld w B b s) (hlen : s.size + 1 ≤ 140737488351232) (hBw : B ≤ w.heap.size) :
    Calls Tryd.prog 39 #[.pointer (some ⟨b, 0, none⟩), .int .u8 (c : Int)] w fun e w' => e = .returned (.nilIface) ∧ Bld w' B b (s ++ b1 c) ∧ Below B w w' := by
  obtain ⟨i0, z, hi, hz0, hz1, hz2, hzc⟩ := (ElemT.of (P := Tryd.prog) (t := 62) (e := 5) (sz := 1) (bytes := 1) (z := .int .u8 0) Tryd.underlying62 (by kernel_rfl) rfl).hi
  have hl : (Lib.strCells s).length = s.size := Lib.strCells_length s
  have hcat : Lib.strCells (s ++ b1 c) = Lib.strCells s ++ [.int .u8 (c : Int)] := by rw [← strCells_b1 hc]; simp [Lib.strCells]
  have Hcat := Lib.hid hcat
  have Hl := Lib.hid hl
  clear hcat hl
  go_enter Tryd.func39, Tryd.ntmps39
  go_wp2_with (go_at_call 68; refine (bld_check B b _ _ h).mono ?_)
  rintro e w1 ⟨rfl, h1, hb1, hm1⟩
  obtain ⟨hB, v, hbk, hown, hne⟩ := h1
  have c0 : w1.cell? ⟨b, 0, none⟩ = some (.pointer (some ⟨b, 0, none⟩)) := by rw [Lib.cell_of_heap hbk]; rfl
  have c1 : w1.cell? ⟨b, 1, none⟩ = some v := by rw [Lib.cell_of_heap hbk]; rfl
  have hB1 : B ≤ w1.heap.size := Nat.le_trans hBw hb1.size
  have hblt : b < w1.heap.size := lt_of_blk hbk
  have HOWN := Lib.hid (hown.alloc (.cells #[.int .u8 (c : Int)] 5))
  have HLT : Hid (∀ k, v.ownBlock = some k → B ≤ k ∧ k < w1.heap.size) := Lib.hid (fun k hk => hown.lt k hk)
  have HNE := Lib.hid hne
  have HBK := Lib.hid hbk
  have HBB := Lib.hid hb1
  clear hown hne hbk hb1 hm1
  go_wp2_with (at_builtin; refine wpList_append_own_at _ rfl _ _ 62 rfl B 5 i0 z 1 1 Tryd.underlying62 hi hz0 hz1 hz2 hzc (by omega) v _ _ rfl HOWN.out ⟨w1.heap.size, 0, none⟩ 1 1 [.int .u8 (c : Int)] rfl rfl (cell_one_new _ _ _) (by intro u hu; simp only [List.mem_cons, List.not_mem_nil, or_false] at hu; rw [hu]; rfl) (by rw [Hl.out]; simp only [maxLen]; omega) (by rw [Hl.out]; omega) (by simp; omega) ?_; intro v' w2 hown' hgrow _ _; have hb2 : w2.heap[b]? = some (.cells #[.pointer (some ⟨b, 0, none⟩), v] 69 (0, 0)) := (by rw [hgrow.block b (by simp; omega) (fun e => HNE.out e.symm)]; exact block_below ((Below.refl _ _).alloc (Nat.le_refl _) _) HBK.out); have d0 : w2.cell? ⟨b, 0, none⟩ = some (.pointer (some ⟨b, 0, none⟩)) := (by rw [Lib.cell_of_heap hb2]; rfl); have d1 : w2.cell? ⟨b, 1, none⟩ = some v := (by rw [Lib.cell_of_heap hb2]; rfl); have f1 : w2.frozen? ⟨b, 1, none⟩ = false := Lib.frozen_of_heap hb2 1; have HO2 := Lib.hid hown'; have HG2 := Lib.hid hgrow; have HB2 := Lib.hid hb2; obtain ⟨ao, n', cap, rfl⟩ : ∃ ao n' cap, v' = .slice ao n' cap := (by rcases HO2.out.2 with ⟨hv, _⟩ | ⟨g, cap, cur, hv, _⟩ <;> exact ⟨_, _, _, hv⟩); clear hown' hgrow hb2)
  go_ret
  refine ⟨rfl, ?_, ?_⟩
  · refine .inr (Lib.BuilderAt.put (T := 69) (e := 5) hB HB2.out (bs' := Lib.strCells (s ++ b1 c)) ?_ extra169.neB5)
    rw [Hcat.out]
    simpa [Lib.strCells_length] using HO2.out
  · exact ((HBB.out.alloc hB1 _).grown HG2.out (by simp; omega) (fun k hk => (HLT.out k hk).1)).setCell (p := ⟨b, 1, none⟩) hB _

theorem lit_two (W : World) (c : Nat) (hc : c < 256) : (convert 62 9 (.slice (some ⟨W.heap.size, 0, none⟩) 2 2)).run Tryd.prog (W.alloc (.cells #[.int .u8 92, .int .u8 (c : Int)] 5)) = .ok (.string (ofN [92, c])) (W.alloc (.cells #[.int .u8 92, .int .u8 (c : Int)] 5)) :=
  lit_string (P := Tryd.prog) Tryd.underlying62 Tryd.underlying5 Tryd.underlying9 W [92, c] 2 rfl (by omega)

set_option maxRecDepth 100000 in
set_option maxHeartbeats 4000000 in
theorem val_ShowT (s : ByteArray) (w : World) (hm : mayV 3 0 s = true) (hpr : ∀ c ∈ toL s, printable c.toNat) :
    Calls Tryd.prog 13 #[.agg #[.int .i64 3, .int .i64 0, .string s]] w fun e w' => e = .returned (.string (showT s)) ∧ Below w.heap.size w w' := by
  have hs : s.size ≤ 1024 := (mayV_k hm).2
  have hM := fun W => val_May 3 0 s W
  rw [hm] at hM
  have HM := Lib.hid hM
  have HPR := Lib.hid hpr
  have hb0 : Below w.heap.size w (w.alloc (.cells #[.int .i64 3, .int .i64 0, .string s] 23)) := (Below.refl _ _).alloc (Nat.le_refl _) _
  have HB0 := Lib.hid hb0
  have HK0 := Lib.hid (show (w.alloc (.cells #[.int .i64 3, .int .i64 0, .string s] 23)).heap[w.heap.size]? = some (.cells #[.int .i64 3, .int .i64 0, .string s] 23 (0, 0)) from heap_alloc_new w _)
  clear hM hpr hm hb0
  go_enter Tryd.func13, Tryd.ntmps13
  go_wp2_with (go_at_call 22; refine (HM.out _).mono ?_; rintro e w1 ⟨rfl, hb1⟩; have hk1 := block_below hb1 HK0.out; have k0 := cell_of_blk hk1 0; have k1 := cell_of_blk hk1 1; have k2 := cell_of_blk hk1 2; have HK1 := Lib.hid hk1; have HS1 := Lib.hid (below2 HB0.out hb1); clear hb1 hk1)
  refine (bld_WriteByte w1.heap.size w1.heap.size ByteArray.empty 34 (by omega) _ (Bld.new w1) (by rw [show ByteArray.empty.size = 0 from rfl]; omega) (by simp)).mono ?_
  rintro e w2 ⟨rfl, hB2, hb2⟩
  rw [empty_app] at hB2
  have hlt1 := lt_of_blk HK1.out
  have hS2 : Below w.heap.size w w2 := (below_alloc HS1.out (.cells #[.pointer none, .slice none 0 0] 69)).trans (hb2.mono HS1.out.size)
  have HS2 := Lib.hid hS2
  have hk2 : w2.heap[w.heap.size]? = some (.cells #[.int .i64 3, .int .i64 0, .string s] 23 (0, 0)) := by
    rw [hb2.block w.heap.size hlt1]
    exact block_below ((Below.refl _ _).alloc (Nat.le_refl _) _) HK1.out
  have HK2 := Lib.hid hk2
  have HBb2 : Hid (Below w1.heap.size (w1.alloc (.cells #[.pointer none, .slice none 0 0] 69)) w2) := Lib.hid hb2
  have HBL2 := Lib.hid hB2
  have q0 := cell_of_blk hk2 0
  have q1 := cell_of_blk hk2 1
  have q2 := cell_of_blk hk2 2
  have hsz2 : w1.heap.size ≤ w2.heap.size := by have := hb2.size; simp at this; omega
  have hgw : w.heap.size < w1.heap.size := hlt1
  generalize w1.heap.size = b0 at *
  clear hB2 hb2 hS2 hk2 k0 k1 k2
  go_wp2_with fail
  go_loopw [4, 5, 29] (fun _ _ i wr => ∃ (k : Nat) (acc : ByteArray), k ≤ s.size ∧ i = .int .i64 k ∧ Hid (Bld wr b0 b0 acc) ∧ acc.size ≤ 1 + 2 * k ∧ Hid (b1 34 ++ escAll (toL s) = acc ++ escAll ((toL s).drop k)) ∧ Below w.heap.size w wr ∧ b0 ≤ wr.heap.size ∧ Hid (wr.heap[w.heap.size]? = some (.cells #[.int .i64 3, .int .i64 0, .string s] 23 (0, 0)))) (fun _ _ i _ => s.size - (intOf i).toNat)
  case atStart => exact ⟨0, b1 34, Nat.zero_le _, rfl, HBL2, by decide, Lib.hid rfl, HS2.out, hsz2, HK2⟩
  case round =>
    clear HBL2 HS2 HK2 hsz2 q0 q1 q2 HBb2
    obtain ⟨k, acc, hk, rfl, HBL, hacc, HI, hbl, hbz, HK⟩ := hrel
    have HBLW := Lib.hid hbl
    have q0 := cell_of_blk HK.out 0
    have q1 := cell_of_blk HK.out 1
    have q2 := cell_of_blk HK.out 2
    have hblk := lt_of_blk HK.out
    by_cases hlt : k < s.size
    · have hi0 := HI.out
      rw [toL_drop_cons hlt] at hi0
      have hmem : s[k] ∈ toL s := by
        have h := toL_drop_cons hlt
        have h2 : s[k] ∈ (toL s).drop k := by rw [h]; exact List.mem_cons_self
        exact List.mem_of_mem_drop h2
      have hp := HPR.out _ hmem
      have hb := s[k].toNat_lt
      have hstep : ∀ e : ByteArray, escB s[k].toNat = e → b1 34 ++ escAll (toL s) = (acc ++ e) ++ escAll ((toL s).drop (k + 1)) := fun e he => by
        rw [hi0, app_assoc, ← he]; rfl
      have HST := Lib.hid hstep
      have h32 : ¬ (s[k].toNat : Int) < 32 := by have := hp.1; omega
      have h126 : ¬ (126 : Int) < (s[k].toNat : Int) := by have := hp.2; omega
      clear hi0 hmem hp hstep HI hbl
      by_cases hq : s[k].toNat = 34 ∨ s[k].toNat = 92
      · have HE : Hid (escB s[k].toNat = ofN [92, s[k].toNat]) := Lib.hid (by unfold escB; rw [if_pos hq])
        have hcv := lit_two wr s[k].toNat hb
        rcases hq with hq | hq
        · have hqb := beq_t (a := (s[k].toNat : Int)) (b := 34) (by omega)
          clear hq
          go_wp2_with fail
          refine (bld_WriteString b0 b0 acc (ofN [92, s[k].toNat]) _ (HBL.out.kept ((Below.refl _ _).alloc (Nat.le_refl _) _)) (by rw [ofN_size]; show acc.size + 2 ≤ _; omega) (by simp; omega)).mono ?_
          rintro e w3 ⟨rfl, hB3, hb3, _⟩
          have HB3 := Lib.hid hB3
          have hs3 : b0 ≤ w3.heap.size := by have := hb3.size; first | (simp at this; omega) | omega
          have HK3 : Hid (w3.heap[w.heap.size]? = some (.cells #[.int .i64 3, .int .i64 0, .string s] 23 (0, 0))) := Lib.hid (by rw [hb3.block w.heap.size hgw]; exact block_below ((Below.refl _ _).alloc (Nat.le_refl _) _) HK.out)
          have HS3 : Hid (Below w.heap.size w w3) := Lib.hid ((below_alloc HBLW.out _).trans (hb3.mono (by omega)))
          have hn3 : (acc ++ ofN [92, s[k].toNat]).size ≤ 1 + 2 * (k + 1) := by rw [app_size]; have : (ofN [92, s[k].toNat]).size ≤ 2 := (by first | exact Nat.le_refl _ | (unfold b1; rw [ofN_size]; simp)); omega
          clear hB3 hb3 q0 q1 q2
          go_wp2_with fail
          go_roundw
          case rel => exact ⟨k + 1, acc ++ ofN [92, s[k].toNat], by omega, by go_num, HB3, hn3, Lib.hid (HST.out _ HE.out), HS3.out, hs3, HK3⟩
          case measure => simp [intOf]; omega
        · have hqb := beq_f (a := (s[k].toNat : Int)) (b := 34) (by omega)
          have hqb2 := beq_t (a := (s[k].toNat : Int)) (b := 92) (by omega)
          clear hq
          go_wp2_with fail
          refine (bld_WriteString b0 b0 acc (ofN [92, s[k].toNat]) _ (HBL.out.kept ((Below.refl _ _).alloc (Nat.le_refl _) _)) (by rw [ofN_size]; show acc.size + 2 ≤ _; omega) (by simp; omega)).mono ?_
          rintro e w3 ⟨rfl, hB3, hb3, _⟩
          have HB3 := Lib.hid hB3
          have hs3 : b0 ≤ w3.heap.size := by have := hb3.size; first | (simp at this; omega) | omega
          have HK3 : Hid (w3.heap[w.heap.size]? = some (.cells #[.int .i64 3, .int .i64 0, .string s] 23 (0, 0))) := Lib.hid (by rw [hb3.block w.heap.size hgw]; exact block_below ((Below.refl _ _).alloc (Nat.le_refl _) _) HK.out)
          have HS3 : Hid (Below w.heap.size w w3) := Lib.hid ((below_alloc HBLW.out _).trans (hb3.mono (by omega)))
          have hn3 : (acc ++ ofN [92, s[k].toNat]).size ≤ 1 + 2 * (k + 1) := by rw [app_size]; have : (ofN [92, s[k].toNat]).size ≤ 2 := (by first | exact Nat.le_refl _ | (unfold b1; rw [ofN_size]; simp)); omega
          clear hB3 hb3 q0 q1 q2
          go_wp2_with fail
          go_roundw
          case rel => exact ⟨k + 1, acc ++ ofN [92, s[k].toNat], by omega, by go_num, HB3, hn3, Lib.hid (HST.out _ HE.out), HS3.out, hs3, HK3⟩
          case measure => simp [intOf]; omega
      · have HE : Hid (escB s[k].toNat = b1 s[k].toNat) := Lib.hid (by unfold escB; rw [if_neg hq])
        have hqb := beq_f (a := (s[k].toNat : Int)) (b := 34) (by omega)
        have hqb2 := beq_f (a := (s[k].toNat : Int)) (b := 92) (by omega)
        clear hq
        · go_wp2_with fail
          refine (bld_WriteByte b0 b0 acc s[k].toNat hb _ HBL.out (by omega) hbz).mono ?_
          rintro e w3 ⟨rfl, hB3, hb3⟩
          have HB3 := Lib.hid hB3
          have hs3 : b0 ≤ w3.heap.size := by have := hb3.size; first | (simp at this; omega) | omega
          have HK3 : Hid (w3.heap[w.heap.size]? = some (.cells #[.int .i64 3, .int .i64 0, .string s] 23 (0, 0))) := Lib.hid (by rw [hb3.block w.heap.size hgw]; exact HK.out)
          have HS3 : Hid (Below w.heap.size w w3) := Lib.hid ((HBLW.out).trans (hb3.mono (by omega)))
          have hn3 : (acc ++ b1 s[k].toNat).size ≤ 1 + 2 * (k + 1) := by rw [app_size]; have : (b1 s[k].toNat).size ≤ 2 := (by first | exact Nat.le_refl _ | (unfold b1; rw [ofN_size]; simp)); omega
          clear hB3 hb3 q0 q1 q2
          go_wp2_with fail
          go_roundw
          case rel => exact ⟨k + 1, acc ++ b1 s[k].toNat, by omega, by go_num, HB3, hn3, Lib.hid (HST.out _ HE.out), HS3.out, hs3, HK3⟩
          case measure => simp [intOf]; omega
    · have hfin : showT s = acc ++ b1 34 := by
        have h := HI.out
        rw [List.drop_eq_nil_of_le (by rw [toL_length]; omega)] at h
        unfold showT; rw [h]; show acc ++ ByteArray.empty ++ b1 34 = _; rw [app_empty]
      have HF := Lib.hid hfin
      have hz : ¬ 9223372036854775807 < acc.size + (⟨#[34]⟩ : ByteArray).size := by have : (⟨#[34]⟩ : ByteArray).size = 1 := rfl; omega
      clear hfin HI
      go_wp2_with (go_at_call 41; refine (bld_String b0 b0 acc wr HBL.out hbz).mono ?_; rintro e w6 ⟨rfl, hb6⟩)
      go_ret
      refine ⟨?_, HBLW.out.trans (hb6.mono (by omega))⟩
      rw [HF.out]; rfl
end Go.Proofs.YthhgfdejadbigaaDoor
