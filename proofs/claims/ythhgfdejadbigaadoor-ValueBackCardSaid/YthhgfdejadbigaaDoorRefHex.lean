/-
  Merged from Put, Show, Sh, ShowB, Ref01, RefHex.
-/
import Derived.Test.YthhgfdejadbigaaDoorClone
import Derived.Outline
import Derived.RegionTactic
import Derived.ChangeAlike
import Derived.Laws.BitsLemmas
import Derived.Shelf.Strings.Builder1
import Derived.Shelf.Small.Strs
import Derived.Shelf.Small.Wraps
import Derived.Shelf.Strings.BuilderF
import Derived.Shelf.Strings.BuilderK
import Derived.Shelf.Strconv.Itoa0
import Derived.Shelf.Strconv.Itoa1
import Derived.Shelf.LaysM
import Derived.Shelf.Strconv.Itoa2
import Derived.Shelf.Strconv.Itoa3
import Derived.Shelf.Strconv.Itoa4
import Derived.Shelf.Slices.Turned
import Derived.Test.YthhgfdejadbigaaDoorProg
import Derived.Lib.AppendIntMem
import Derived.Deep.QuietTactic
import Derived.BigQuiet
/-
  The walk of value.Put.
-/
set_option linter.unusedVariables false
set_option linter.unusedSimpArgs false
namespace Go.Proofs.YthhgfdejadbigaaDoor
open Go Go.RowKit Go.Proofs.Base
theorem own_base {w : World} {b b' e size n : Nat} {v : Value} {xs : List Value} (h : w.ownsRow b e size v n xs) (hb : b' ≤ b) : w.ownsRow b' e size v n xs := by
  obtain ⟨h1, h2⟩ := h
  refine ⟨h1, ?_⟩
  rcases h2 with h2 | ⟨g, cap, cur, rfl, hbg, r⟩
  · exact .inl h2
  · exact .inr ⟨g, cap, cur, rfl, Nat.le_trans hb hbg, r⟩
def PutTo (r : List GVar × Int) (w : World) (e : Ending) (w' : World) : Prop := ∃ v', e = .returned (.tuple #[v', .int .i64 r.2]) ∧ w'.ownsRow w.heap.size 60 4 v' r.1.length (varCells r.1) ∧ Below w.heap.size w w'
set_option maxRecDepth 100000 in
set_option maxHeartbeats 2000000 in
theorem put_bad (A : Option Addr) (n c : Nat) (name : ByteArray) (v : GVal) (l : List GVar) (w : World) (hs : okS name)
    (hR : ∀ W, Below w.heap.size w W → Calls Tryd.prog 21 #[.slice A n c] W fun e w' => e = .returned (.bool (rightV l)) ∧ Below W.heap.size W w')
    (hbad : (rightV l && named name && v.may) = false) :
    Calls Tryd.prog 15 #[.slice A n c, .string name, .agg #[.int .i64 v.k, .int .i64 v.n, .string v.s]] w (PutTo ([], 1) w) := by
  have hb0 : Below w.heap.size w (w.alloc (.cells #[.int .i64 v.k, .int .i64 v.n, .string v.s] 23)) := (Below.refl _ _).alloc (Nat.le_refl _) _
  have h1 := hR _ hb0
  have hk : (w.alloc (.cells #[.int .i64 v.k, .int .i64 v.n, .string v.s] 23)).heap[w.heap.size]? = some (.cells #[.int .i64 v.k, .int .i64 v.n, .string v.s] 23 (0, 0)) := heap_alloc_new w _
  have hN := fun W => val_Named name W (show name.size ≤ 9223372036854775807 by unfold okS at hs; omega)
  have hM := fun W => val_May v.k v.n v.s W
  have HB := Lib.hid hb0
  have HK := Lib.hid hk
  cases e1 : rightV l with
  | false =>
    rw [e1] at h1
    have H1 := Lib.hid h1
    clear h1 hR hb0 hbad e1 hs hN hM hk
    go_enter Tryd.func15, Tryd.ntmps15
    go_wp2_with (go_at_call 21; refine H1.out.mono ?_; rintro e w1 ⟨rfl, hb1⟩; have HS1 := Lib.hid (below2 HB.out hb1); clear hb1)
    go_ret2
    exact ⟨_, rfl, own_nil _ _ _ _, HS1.out⟩
  | true =>
    rw [e1] at h1
    have H1 := Lib.hid h1
    cases e2 : named name with
    | false =>
      rw [e2] at hN
      have HN := Lib.hid hN
      clear h1 hR hb0 hbad e1 e2 hs hN hM hk
      go_enter Tryd.func15, Tryd.ntmps15
      go_wp2_with (first | (go_at_call 21; refine H1.out.mono ?_; rintro e w1 ⟨rfl, hb1⟩; have HS1 := Lib.hid (below2 HB.out hb1); clear hb1) | (go_at_call 23; refine (HN.out _).mono ?_; rintro e w2 ⟨rfl, hb2⟩; have HS2 := Lib.hid (below2 HS1.out hb2); clear hb2))
      go_ret2
      exact ⟨_, rfl, own_nil _ _ _ _, HS2.out⟩
    | true =>
      have e3 : mayV v.k v.n v.s = false := by rw [e1, e2] at hbad; simpa [GVal.may] using hbad
      rw [e2] at hN
      rw [e3] at hM
      have HN := Lib.hid hN
      have HM := Lib.hid hM
      clear h1 hR hb0 hbad e1 e2 e3 hs hN hM hk
      go_enter Tryd.func15, Tryd.ntmps15
      go_wp2_with (first | (go_at_call 21; refine H1.out.mono ?_; rintro e w1 ⟨rfl, hb1⟩; have HS1 := Lib.hid (below2 HB.out hb1); have HK1 := Lib.hid (block_below hb1 HK.out); clear hb1) | (go_at_call 23; refine (HN.out _).mono ?_; rintro e w2 ⟨rfl, hb2⟩; have HS2 := Lib.hid (below2 HS1.out hb2); have k0 := cell_of_blk (block_below hb2 HK1.out) 0; have k1 := cell_of_blk (block_below hb2 HK1.out) 1; have k2 := cell_of_blk (block_below hb2 HK1.out) 2; clear hb2) | (go_at_call 22; refine (HM.out _).mono ?_; rintro e w3 ⟨rfl, hb3⟩; have HS3 := Lib.hid (below2 HS2.out hb3); clear hb3))
      go_ret2
      exact ⟨_, rfl, own_nil _ _ _ _, HS3.out⟩
set_option maxRecDepth 100000 in
set_option maxHeartbeats 4000000 in
theorem put_full (A : Option Addr) (n c : Nat) (name : ByteArray) (v : GVal) (l : List GVar) (w : World) (hs : okS name) (hl : l.length = n) (hnc : n ≤ c) (hr : ReadsV w A l)
    (hR : ∀ W, Below w.heap.size w W → Calls Tryd.prog 21 #[.slice A n c] W fun e w' => e = .returned (.bool (rightV l)) ∧ Below W.heap.size W w')
    (hrt : rightV l = true) (hnm : named name = true) (hmy : v.may = true) (hh : hasV name l = false) (hn16 : n = 16) :
    Calls Tryd.prog 15 #[.slice A n c, .string name, .agg #[.int .i64 v.k, .int .i64 v.n, .string v.s]] w (PutTo ([], 4) w) := by
  have hb0 : Below w.heap.size w (w.alloc (.cells #[.int .i64 v.k, .int .i64 v.n, .string v.s] 23)) := (Below.refl _ _).alloc (Nat.le_refl _) _
  have h1 := hR _ hb0
  rw [hrt] at h1
  have hN := fun W => val_Named name W (show name.size ≤ 9223372036854775807 by unfold okS at hs; omega)
  rw [hnm] at hN
  have hM := fun W => val_May v.k v.n v.s W
  rw [show mayV v.k v.n v.s = true from hmy] at hM
  have HB := Lib.hid hb0
  have HK := Lib.hid (show (w.alloc (.cells #[.int .i64 v.k, .int .i64 v.n, .string v.s] 23)).heap[w.heap.size]? = some (.cells #[.int .i64 v.k, .int .i64 v.n, .string v.s] 23 (0, 0)) from heap_alloc_new w _)
  have H1 := Lib.hid h1
  have HN := Lib.hid hN
  have HM := Lib.hid hM
  have HL := Lib.hid hl
  have HR := Lib.hid hr
  have HMO := Lib.hid (right_mono hrt name)
  have h16 := (rightV_all hrt).1
  rw [hl] at h16
  have HH : Hid ((decide (posV name l < l.length) && decide (cAt name l (posV name l) = 0)) = hasV name l) := Lib.hid rfl
  rw [hh] at HH
  subst hn16
  clear h1 hR hb0 hrt hnm hmy hs hN hM hl hr hh
  go_enter Tryd.func15, Tryd.ntmps15
  go_wp2_with (first | (go_at_call 21; refine H1.out.mono ?_; rintro e w1 ⟨rfl, hb1⟩; have HS1 := Lib.hid (below2 HB.out hb1); have HK1 := Lib.hid (block_below hb1 HK.out); clear hb1) | (go_at_call 23; refine (HN.out _).mono ?_; rintro e w2 ⟨rfl, hb2⟩; have HS2 := Lib.hid (below2 HS1.out hb2); have HK2 := Lib.hid (block_below hb2 HK1.out); have k0 := cell_of_blk HK2.out 0; have k1 := cell_of_blk HK2.out 1; have k2 := cell_of_blk HK2.out 2; clear hb2) | (go_at_call 22; refine (HM.out _).mono ?_; rintro e w3 ⟨rfl, hb3⟩; have HS3 := Lib.hid (below2 HS2.out hb3); have HK3 := Lib.hid (block_below hb3 HK2.out); clear hb3 k0 k1 k2) | (go_at_call 42; refine (put_search A 16 c name l _ HL.out hnc (by omega) (HR.out.below HS3.out) HMO.out).mono ?_; rintro e w4 ⟨i, hi1, hi2, hi3, rfl, hb4⟩; obtain rfl : posV name l = i := pos_of hi1 hi2 hi3; clear hi1 hi2 hi3; have HS4 := Lib.hid (below2 HS3.out hb4); have HK4 := Lib.hid (block_below hb4 HK3.out); clear hb4; rw [HH.out]) | (go_at_call 45; refine (put_clone A 16 c l _ HL.out hnc (by omega) (HR.out.below HS4.out)).mono ?_; rintro e w5 ⟨v5, rfl, hown, hb5⟩; have HS5 := Lib.hid (below2 HS4.out hb5); clear hb5 hown))
  go_ret2
  exact ⟨_, rfl, own_nil _ _ _ _, HS5.out⟩
theorem own_some {w : World} {b e size n : Nat} {v : Value} {xs : List Value} (h : w.ownsRow b e size v n xs) (hn : 0 < n * size) : ∃ g cap, ∃ cur : Array Value, v = .slice (some ⟨g, 0, none⟩) n cap ∧ b ≤ g ∧ w.heap[g]? = some (.cells cur e (0, 0)) ∧ n ≤ cap ∧ cap ≤ maxLen ∧ cap * size = cur.size ∧ cur.toList.take (n * size) = xs := by
  obtain ⟨h1, h2⟩ := h
  rcases h2 with ⟨_, h2⟩ | ⟨g, cap, cur, rfl, hbg, hh, hnc, hcm, hcs, htk⟩
  · subst h2; simp at hn
  · exact ⟨g, cap, cur, rfl, hbg, hh, hnc, hcm, by omega, htk⟩
theorem app_cells (l : List GVar) (i : Nat) (name : ByteArray) (v : GVal) : varCells (l.take i ++ ⟨name, v⟩ :: l.drop i) = (varCells l).take (i * 4) ++ [.string name, .int .i64 v.k, .int .i64 v.n, .string v.s] ++ (varCells l).drop (i * 4) := by
  rw [varCells_append, varCells_take]
  have e : varCells (⟨name, v⟩ :: l.drop i) = [.string name, .int .i64 v.k, .int .i64 v.n, .string v.s] ++ varCells (l.drop i) := rfl
  rw [e, varCells_drop, List.append_assoc]
theorem ins_one (base : Nat) (v : Value) (n i xb : Nat) (xs cs : List Value) (w0 w : World) (hi : i ≤ n) (hown : w.ownsRow base 60 4 v n xs) (hx : w.heap[xb]? = some (.cells cs.toArray 60 (0, 0))) (hxv : ∀ g, v.ownBlock = some g → xb ≠ g) (hcs : cs.length = 4) (h1c : ∀ u ∈ cs, u.oneCell' = true) (h1x : ∀ u ∈ xs, u.oneCell' = true)
    (hB : Below base w0 w) (hbase : base ≤ w.heap.size) (hbig : (n + 1) * 48 ≤ 140737488355328) :
    Calls Tryd.prog 46 #[v, .int .i64 i, .slice (some ⟨xb, 0, none⟩) 1 1] w fun e w' => ∃ v', e = .returned v' ∧ w'.ownsRow base 60 4 v' (n + 1) (xs.take (i * 4) ++ cs ++ xs.drop (i * 4)) ∧ Below base w0 w' := by
  by_cases he : i = n
  · subst he
    have hxl := hown.1
    have h := ins_end base v i xb xs cs w0 w hown hx hcs h1c hB hbase hbig
    rw [List.take_of_length_le (by omega), List.drop_of_length_le (by omega), List.append_nil]
    exact h
  · have hlt : i < n := by omega
    have h2 := hown.2
    rcases h2 with ⟨_, hn0⟩ | ⟨g, cap, cur, rfl, hb, hh, hnc, hcm, _⟩
    · have := hown.1; rw [hn0] at this; simp at this; omega
    · by_cases hc : n + 1 ≤ cap
      · exact ins_room base g cap n i xb 1 1 xs cs w0 w hlt (by omega) hc hown hx (hxv g rfl) (by omega) h1c h1x hB
      · exact ins_grow base g cap n i xb 1 1 xs cs w0 w hlt (by omega) (by omega) hown hx (by omega) h1c h1x hB hbase hbig
set_option maxRecDepth 100000 in
set_option maxHeartbeats 4000000 in
theorem put_new (A : Option Addr) (n c : Nat) (name : ByteArray) (v : GVal) (l : List GVar) (w : World) (hs : okS name) (hl : l.length = n) (hnc : n ≤ c) (hr : ReadsV w A l)
    (hR : ∀ W, Below w.heap.size w W → Calls Tryd.prog 21 #[.slice A n c] W fun e w' => e = .returned (.bool (rightV l)) ∧ Below W.heap.size W w')
    (hrt : rightV l = true) (hnm : named name = true) (hmy : v.may = true) (hh : hasV name l = false) (hn16 : n < 16) :
    Calls Tryd.prog 15 #[.slice A n c, .string name, .agg #[.int .i64 v.k, .int .i64 v.n, .string v.s]] w (PutTo (l.take (posV name l) ++ ⟨name, v⟩ :: l.drop (posV name l), 0) w) := by
  have hb0 : Below w.heap.size w (w.alloc (.cells #[.int .i64 v.k, .int .i64 v.n, .string v.s] 23)) := (Below.refl _ _).alloc (Nat.le_refl _) _
  have h1 := hR _ hb0
  rw [hrt] at h1
  have hN := fun W => val_Named name W (show name.size ≤ 9223372036854775807 by unfold okS at hs; omega)
  rw [hnm] at hN
  have hM := fun W => val_May v.k v.n v.s W
  rw [show mayV v.k v.n v.s = true from hmy] at hM
  have HB := Lib.hid hb0
  have HK := Lib.hid (show (w.alloc (.cells #[.int .i64 v.k, .int .i64 v.n, .string v.s] 23)).heap[w.heap.size]? = some (.cells #[.int .i64 v.k, .int .i64 v.n, .string v.s] 23 (0, 0)) from heap_alloc_new w _)
  have H1 := Lib.hid h1
  have HN := Lib.hid hN
  have HM := Lib.hid hM
  have HL := Lib.hid hl
  have HR := Lib.hid hr
  have HMO := Lib.hid (right_mono hrt name)
  have h16 := (rightV_all hrt).1
  rw [hl] at h16
  have HH : Hid ((decide (posV name l < l.length) && decide (cAt name l (posV name l) = 0)) = hasV name l) := Lib.hid rfl
  rw [hh] at HH
  have hq16 : ((n : Int) == 16) = false := beq_f (by omega)
  have hpl : posV name l ≤ l.length := by unfold posV; exact (List.takeWhile_prefix _).length_le
  have HPL := Lib.hid hpl
  have HAC := Lib.hid (app_cells l (posV name l) name v)
  clear h1 hR hb0 hrt hnm hmy hs hN hM hl hr hh hpl
  go_enter Tryd.func15, Tryd.ntmps15
  go_wp2_with (first | (go_at_call 21; refine H1.out.mono ?_; rintro e w1 ⟨rfl, hb1⟩; have HS1 := Lib.hid (below2 HB.out hb1); have HK1 := Lib.hid (block_below hb1 HK.out); clear hb1) | (go_at_call 23; refine (HN.out _).mono ?_; rintro e w2 ⟨rfl, hb2⟩; have HS2 := Lib.hid (below2 HS1.out hb2); have HK2 := Lib.hid (block_below hb2 HK1.out); have k0 := cell_of_blk HK2.out 0; have k1 := cell_of_blk HK2.out 1; have k2 := cell_of_blk HK2.out 2; clear hb2) | (go_at_call 22; refine (HM.out _).mono ?_; rintro e w3 ⟨rfl, hb3⟩; have HS3 := Lib.hid (below2 HS2.out hb3); have HK3 := Lib.hid (block_below hb3 HK2.out); clear hb3 k0 k1 k2) | (go_at_call 42; refine (put_search A n c name l _ HL.out hnc (by omega) (HR.out.below HS3.out) HMO.out).mono ?_; rintro e w4 ⟨i, hi1, hi2, hi3, rfl, hb4⟩; obtain rfl : posV name l = i := pos_of hi1 hi2 hi3; clear hi1 hi2 hi3; have HS4 := Lib.hid (below2 HS3.out hb4); have HK4 := Lib.hid (block_below hb4 HK3.out); clear hb4; rw [HH.out]) | (go_at_call 45; refine (put_clone A n c l _ HL.out hnc (by omega) (HR.out.below HS4.out)).mono ?_; rintro e w5 ⟨v5, rfl, hown, hb5⟩; have HOW := Lib.hid hown; have HS5 := Lib.hid (below2 HS4.out hb5); have HK5 := Lib.hid (block_below hb5 HK4.out); have k0 := cell_of_blk HK5.out 0; have k1 := cell_of_blk HK5.out 1; have k2 := cell_of_blk HK5.out 2; have hsz5 := hb5.size; have hsz4 := HS4.out.size; clear hb5 hown))
  have hlt : ∀ g, v5.ownBlock = some g → w5.heap.size ≠ g := fun g hg => by have := (HOW.out.lt g hg).2; omega
  refine (ins_one w.heap.size v5 l.length (posV name l) w5.heap.size (varCells l) [.string name, .int .i64 v.k, .int .i64 v.n, .string v.s] w _ HPL.out ((own_base HOW.out (by have := HS4.out.size; omega)).alloc _) (heap_alloc_new w5 _) hlt rfl (by intro u hu; simp only [List.mem_cons, List.not_mem_nil, or_false] at hu; rcases hu with rfl | rfl | rfl | rfl <;> rfl) (varCells_one l) (below_alloc HS5.out _) (by have := HS5.out.size; simp; omega) (by rw [HL.out]; omega)).mono ?_
  rintro e w6 ⟨v6, rfl, hown6, hb6⟩
  have HO6 := Lib.hid hown6
  have HB6 := Lib.hid hb6
  clear hown6 hb6 hlt
  go_wp2_with fail
  go_ret2
  refine ⟨v6, rfl, ?_, HB6.out⟩
  have hlen : (l.take (posV name l) ++ ⟨name, v⟩ :: l.drop (posV name l)).length = l.length + 1 := by
    have := HPL.out
    simp only [List.length_append, List.length_take, List.length_cons, List.length_drop]; omega
  rw [hlen, HAC.out]
  exact HO6.out
set_option maxRecDepth 100000 in
set_option maxHeartbeats 4000000 in
theorem put_set (A : Option Addr) (n c : Nat) (name : ByteArray) (v : GVal) (l : List GVar) (w : World) (hs : okS name) (hl : l.length = n) (hnc : n ≤ c) (hr : ReadsV w A l)
    (hR : ∀ W, Below w.heap.size w W → Calls Tryd.prog 21 #[.slice A n c] W fun e w' => e = .returned (.bool (rightV l)) ∧ Below W.heap.size W w')
    (hrt : rightV l = true) (hnm : named name = true) (hmy : v.may = true) (hh : hasV name l = true) :
    Calls Tryd.prog 15 #[.slice A n c, .string name, .agg #[.int .i64 v.k, .int .i64 v.n, .string v.s]] w (PutTo (l.set (posV name l) ⟨name, v⟩, 0) w) := by
  have hb0 : Below w.heap.size w (w.alloc (.cells #[.int .i64 v.k, .int .i64 v.n, .string v.s] 23)) := (Below.refl _ _).alloc (Nat.le_refl _) _
  have h1 := hR _ hb0
  rw [hrt] at h1
  have hN := fun W => val_Named name W (show name.size ≤ 9223372036854775807 by unfold okS at hs; omega)
  rw [hnm] at hN
  have hM := fun W => val_May v.k v.n v.s W
  rw [show mayV v.k v.n v.s = true from hmy] at hM
  have HB := Lib.hid hb0
  have HK := Lib.hid (show (w.alloc (.cells #[.int .i64 v.k, .int .i64 v.n, .string v.s] 23)).heap[w.heap.size]? = some (.cells #[.int .i64 v.k, .int .i64 v.n, .string v.s] 23 (0, 0)) from heap_alloc_new w _)
  have H1 := Lib.hid h1
  have HN := Lib.hid hN
  have HM := Lib.hid hM
  have HL := Lib.hid hl
  have HR := Lib.hid hr
  have HMO := Lib.hid (right_mono hrt name)
  have h16 := (rightV_all hrt).1
  rw [hl] at h16
  have HH : Hid ((decide (posV name l < l.length) && decide (cAt name l (posV name l) = 0)) = hasV name l) := Lib.hid rfl
  rw [hh] at HH
  have hpl : posV name l ≤ l.length := by unfold posV; exact (List.takeWhile_prefix _).length_le
  have HPL := Lib.hid hpl
  have hlt : posV name l < l.length := by unfold hasV at hh; simp only [Bool.and_eq_true, decide_eq_true_eq] at hh; exact hh.1
  have hname : l[posV name l].name = name := by unfold hasV at hh; simp only [Bool.and_eq_true, decide_eq_true_eq] at hh; have h := hh.2; rw [cAt_at hlt] at h; exact (cmpS_eq _ _).1 h
  have HVS := Lib.hid (varCells_set (v := v) hlt hname)
  have hpn : posV name l < n := by omega
  clear hlt hname
  have HVL : Hid ((varCells l).length = n * 4) := Lib.hid (by rw [varCells_len, hl])
  clear h1 hR hb0 hrt hnm hmy hs hN hM hl hr hh hpl
  go_enter Tryd.func15, Tryd.ntmps15
  go_wp2_with (first | (go_at_call 21; refine H1.out.mono ?_; rintro e w1 ⟨rfl, hb1⟩; have HS1 := Lib.hid (below2 HB.out hb1); have HK1 := Lib.hid (block_below hb1 HK.out); clear hb1) | (go_at_call 23; refine (HN.out _).mono ?_; rintro e w2 ⟨rfl, hb2⟩; have HS2 := Lib.hid (below2 HS1.out hb2); have HK2 := Lib.hid (block_below hb2 HK1.out); have k0 := cell_of_blk HK2.out 0; have k1 := cell_of_blk HK2.out 1; have k2 := cell_of_blk HK2.out 2; clear hb2) | (go_at_call 22; refine (HM.out _).mono ?_; rintro e w3 ⟨rfl, hb3⟩; have HS3 := Lib.hid (below2 HS2.out hb3); have HK3 := Lib.hid (block_below hb3 HK2.out); clear hb3 k0 k1 k2) | (go_at_call 42; refine (put_search A n c name l _ HL.out hnc (by omega) (HR.out.below HS3.out) HMO.out).mono ?_; rintro e w4 ⟨i, hi1, hi2, hi3, rfl, hb4⟩; obtain rfl : posV name l = i := pos_of hi1 hi2 hi3; clear hi1 hi2 hi3; have HS4 := Lib.hid (below2 HS3.out hb4); have HK4 := Lib.hid (block_below hb4 HK3.out); clear hb4; rw [HH.out]))
  refine (put_clone A n c l _ HL.out hnc (by omega) (HR.out.below HS4.out)).mono ?_
  rintro e w5 ⟨v5, rfl, hown, hb5⟩
  have HS5 := Lib.hid (below2 HS4.out hb5)
  have HK5 := Lib.hid (block_below hb5 HK4.out)
  have k0 := cell_of_blk HK5.out 0
  have k1 := cell_of_blk HK5.out 1
  have k2 := cell_of_blk HK5.out 2
  have hb4 := HS4.out.size
  rw [HL.out] at hown
  obtain ⟨g, cap, cur, rfl, hbg, hhg, hnc5, hcm5, hcs5, htk5⟩ := own_some hown (by omega)
  obtain ⟨u1, hu1⟩ : ∃ u, cur[posV name l * 4 + 1]? = some u := ⟨_, Array.getElem?_eq_getElem (by omega)⟩
  obtain ⟨u2, hu2⟩ : ∃ u, cur[posV name l * 4 + 2]? = some u := ⟨_, Array.getElem?_eq_getElem (by omega)⟩
  obtain ⟨u3, hu3⟩ : ∃ u, cur[posV name l * 4 + 3]? = some u := ⟨_, Array.getElem?_eq_getElem (by omega)⟩
  have j1 := (cell_of_blk hhg (posV name l * 4 + 1)).trans hu1
  have j2 := (cell_of_blk hhg (posV name l * 4 + 2)).trans hu2
  have j3 := (cell_of_blk hhg (posV name l * 4 + 3)).trans hu3
  have f1 := frozen_of_blk hhg (posV name l * 4 + 1)
  have f2 := frozen_of_blk hhg (posV name l * 4 + 2)
  have f3 := frozen_of_blk hhg (posV name l * 4 + 3)
  have HG := Lib.hid hhg
  have HTK := Lib.hid htk5
  have HCS := Lib.hid hcs5
  have HBG : Hid (w.heap.size ≤ g) := Lib.hid (by omega)
  have HCM := Lib.hid hcm5
  clear hb5 hown hhg htk5 hcs5 hu1 hu2 hu3 hbg hb4 hcm5
  go_wp2_with fail
  go_ret2
  have hg2 := set_blk (o := posV name l * 4 + 3) (set_blk (o := posV name l * 4 + 2) (set_blk (o := posV name l * 4 + 1) HG.out (.int .i64 v.k)) (.int .i64 v.n)) (.string v.s)
  have hll : (l.set (posV name l) ⟨name, v⟩).length = n := by rw [List.length_set, HL.out]
  refine ⟨_, rfl, ?_, ?_⟩
  · show World.ownsRow _ _ _ _ _ (l.set (posV name l) ⟨name, v⟩).length (varCells (l.set (posV name l) ⟨name, v⟩))
    rw [hll]
    refine ⟨by rw [varCells_len, hll], .inr ⟨g, cap, _, rfl, HBG.out, hg2, hnc5, HCM.out, by simp only [Array.size_setIfInBounds]; have := HCS.out; omega, ?_⟩⟩
    rw [HVS.out, ← HTK.out]
    simp only [Array.toList_setIfInBounds, List.take_set]
  · exact ((HS5.out.setCell (p := ⟨g, posV name l * 4 + 1, none⟩) HBG.out _).setCell (p := ⟨g, posV name l * 4 + 2, none⟩) HBG.out _).setCell (p := ⟨g, posV name l * 4 + 3, none⟩) HBG.out _
set_option maxRecDepth 100000 in
theorem val_Put (A : Option Addr) (n c : Nat) (name : ByteArray) (v : GVal) (l : List GVar) (w : World) (hs : okS name) (hl : l.length = n) (hnc : n ≤ c) (hr : ReadsV w A l)
    (hR : ∀ W, Below w.heap.size w W → Calls Tryd.prog 21 #[.slice A n c] W fun e w' => e = .returned (.bool (rightV l)) ∧ Below W.heap.size W w') :
    Calls Tryd.prog 15 #[.slice A n c, .string name, .agg #[.int .i64 v.k, .int .i64 v.n, .string v.s]] w (PutTo (putOut name v l) w) := by
  unfold putOut
  by_cases hok : (rightV l && named name && v.may) = true
  · rw [if_pos hok]
    simp only [Bool.and_eq_true] at hok
    obtain ⟨⟨h1, h2⟩, h3⟩ := hok
    have h16 := (rightV_all h1).1
    cases hh : hasV name l with
    | true =>
      rw [if_neg (by simp)]
      unfold putList; rw [hh, if_pos rfl]
      exact put_set A n c name v l w hs hl hnc hr hR h1 h2 h3 hh
    | false =>
      by_cases hn16 : n = 16
      · rw [if_pos ⟨rfl, by omega⟩]
        exact put_full A n c name v l w hs hl hnc hr hR h1 h2 h3 hh hn16
      · rw [if_neg (by omega)]
        unfold putList; rw [hh, if_neg (by simp)]
        exact put_new A n c name v l w hs hl hnc hr hR h1 h2 h3 hh (by omega)
  · rw [if_neg hok]
    exact put_bad A n c name v l w hs hR (by simpa using hok)
end Go.Proofs.YthhgfdejadbigaaDoor
/-
  strings.Builder.WriteByte; value.Show of a text whose bytes are all printed as they are or behind a stroke.
-/
set_option linter.unusedVariables false
set_option linter.unusedSimpArgs false
namespace Go.Proofs.Base
open Go Go.RowKit
def b1 (c : Nat) : ByteArray := ofN [c]
theorem strCells_b1 {c : Nat} (h : c < 256) : Lib.strCells (b1 c) = [.int .u8 (c : Int)] := by
  simp [Lib.strCells, b1, ofN, ofL, UInt8.toNat_ofNat', Nat.mod_eq_of_lt h]
def hexD (n : Nat) : Nat := if n < 10 then 48 + n else 87 + n
def escB (c : Nat) : ByteArray := if c = 34 ∨ c = 92 then ofN [92, c] else if c < 32 ∨ 126 < c then ofN [92, 120, hexD (c / 16), hexD (c % 16)] else b1 c
def escAll : List UInt8 → ByteArray
  | [] => ByteArray.empty
  | c :: r => escB c.toNat ++ escAll r
def showT (s : ByteArray) : ByteArray := b1 34 ++ escAll (toL s) ++ b1 34
end Go.Proofs.Base
namespace Go.Proofs.YthhgfdejadbigaaDoor
open Go Go.RowKit Go.Proofs.Base
set_option maxRecDepth 100000 in
set_option maxHeartbeats 2000000 in
theorem bld_WriteByte (B b : Nat) (s : ByteArray) (c : Nat) (hc : c < 256) (w : World) (h : Bld w B b s) (hlen : s.size + 1 ≤ 140737488351232) (hBw : B ≤ w.heap.size) :
    Calls Tryd.prog 39 #[.pointer (some ⟨b, 0, none⟩), .int .u8 (c : Int)] w fun e w' => e = .returned (.nilIface) ∧ Bld w' B b (s ++ b1 c) ∧ Below B w w' := by
  obtain ⟨i0, z, hi, hz0, hz1, hz2, hzc⟩ := (ElemT.of (P := Tryd.prog) (t := 62) (e := 5) (sz := 1) (bytes := 1) (z := .int .u8 0) Tryd.underlying62 (by kernel_rfl) rfl).hi
  have hl : (Lib.strCells s).length = s.size := Lib.strCells_length s
  have hcat : Lib.strCells (s ++ b1 c) = Lib.strCells s ++ [.int .u8 (c : Int)] := by rw [← strCells_b1 hc]; simp [Lib.strCells]
  have Hcat := Lib.hid hcat
  have Hl := Lib.hid hl
  clear hcat hl
  go_enter Tryd.func39, Tryd.ntmps39
  go_wp2_with (go_at_call 68; refine (bld_check B b _ _ h).mono ?_)
  rintro e w1 ⟨rfl, h1, hb1, hm1⟩
  obtain ⟨hB, v, hbk, hown, hne⟩ := h1
  have c0 : w1.cell? ⟨b, 0, none⟩ = some (.pointer (some ⟨b, 0, none⟩)) := by rw [Lib.cell_of_heap hbk]; rfl
  have c1 : w1.cell? ⟨b, 1, none⟩ = some v := by rw [Lib.cell_of_heap hbk]; rfl
  have hB1 : B ≤ w1.heap.size := Nat.le_trans hBw hb1.size
  have hblt : b < w1.heap.size := lt_of_blk hbk
  have HOWN := Lib.hid (hown.alloc (.cells #[.int .u8 (c : Int)] 5))
  have HLT : Hid (∀ k, v.ownBlock = some k → B ≤ k ∧ k < w1.heap.size) := Lib.hid (fun k hk => hown.lt k hk)
  have HNE := Lib.hid hne
  have HBK := Lib.hid hbk
  have HBB := Lib.hid hb1
  clear hown hne hbk hb1 hm1
  go_wp2_with (at_builtin; refine wpList_append_own_at _ rfl _ _ 62 rfl B 5 i0 z 1 1 Tryd.underlying62 hi hz0 hz1 hz2 hzc (by omega) v _ _ rfl HOWN.out ⟨w1.heap.size, 0, none⟩ 1 1 [.int .u8 (c : Int)] rfl rfl (cell_one_new _ _ _) (by intro u hu; simp only [List.mem_cons, List.not_mem_nil, or_false] at hu; rw [hu]; rfl) (by rw [Hl.out]; simp only [maxLen]; omega) (by rw [Hl.out]; omega) (by simp; omega) ?_; intro v' w2 hown' hgrow _ _; have hb2 : w2.heap[b]? = some (.cells #[.pointer (some ⟨b, 0, none⟩), v] 69 (0, 0)) := (by rw [hgrow.block b (by simp; omega) (fun e => HNE.out e.symm)]; exact block_below ((Below.refl _ _).alloc (Nat.le_refl _) _) HBK.out); have d0 : w2.cell? ⟨b, 0, none⟩ = some (.pointer (some ⟨b, 0, none⟩)) := (by rw [Lib.cell_of_heap hb2]; rfl); have d1 : w2.cell? ⟨b, 1, none⟩ = some v := (by rw [Lib.cell_of_heap hb2]; rfl); have f1 : w2.frozen? ⟨b, 1, none⟩ = false := Lib.frozen_of_heap hb2 1; have HO2 := Lib.hid hown'; have HG2 := Lib.hid hgrow; have HB2 := Lib.hid hb2; obtain ⟨ao, n', cap, rfl⟩ : ∃ ao n' cap, v' = .slice ao n' cap := (by rcases HO2.out.2 with ⟨hv, _⟩ | ⟨g, cap, cur, hv, _⟩ <;> exact ⟨_, _, _, hv⟩); clear hown' hgrow hb2)
  go_ret
  refine ⟨rfl, ?_, ?_⟩
  · refine .inr (Lib.BuilderAt.put (T := 69) (e := 5) hB HB2.out (bs' := Lib.strCells (s ++ b1 c)) ?_ extra169.neB5)
    rw [Hcat.out]
    simpa [Lib.strCells_length] using HO2.out
  · exact ((HBB.out.alloc hB1 _).grown HG2.out (by simp; omega) (fun k hk => (HLT.out k hk).1)).setCell (p := ⟨b, 1, none⟩) hB _
theorem lit_two (W : World) (c : Nat) (hc : c < 256) : (convert 62 9 (.slice (some ⟨W.heap.size, 0, none⟩) 2 2)).run Tryd.prog (W.alloc (.cells #[.int .u8 92, .int .u8 (c : Int)] 5)) = .ok (.string (ofN [92, c])) (W.alloc (.cells #[.int .u8 92, .int .u8 (c : Int)] 5)) :=
  lit_string (P := Tryd.prog) Tryd.underlying62 Tryd.underlying5 Tryd.underlying9 W [92, c] 2 rfl (by omega)
theorem lit_hex (W : World) (c d : Nat) (hc : c < 256) (hd : d < 256) : (convert 62 9 (.slice (some ⟨W.heap.size, 0, none⟩) 2 2)).run Tryd.prog (W.alloc (.cells #[.int .u8 (c : Int), .int .u8 (d : Int)] 5)) = .ok (.string (ofN [c, d])) (W.alloc (.cells #[.int .u8 (c : Int), .int .u8 (d : Int)] 5)) :=
  lit_string (P := Tryd.prog) Tryd.underlying62 Tryd.underlying5 Tryd.underlying9 W [c, d] 2 rfl (by omega)
theorem lit_hexd (W : World) (c d : Nat) (hc : c < 256) (hd : d < 256) : (convert 62 9 (.slice (some ⟨W.heap.size, 0, none⟩) 2 2)).run Tryd.prog (W.alloc (.cells #[.int .u8 (c : Int), .int .u8 (d : Int)] 5)).drew = .ok (.string (ofN [c, d])) (W.alloc (.cells #[.int .u8 (c : Int), .int .u8 (d : Int)] 5)).drew := lit_hex W.drew c d hc hd
theorem hexD_lt {n : Nat} (h : n < 16) : hexD n < 256 := by unfold hexD; split <;> omega
theorem hex_at {n : Nat} (h : n < 16) : (⟨#[48, 49, 50, 51, 52, 53, 54, 55, 56, 57, 97, 98, 99, 100, 101, 102]⟩ : ByteArray)[n]'h = UInt8.ofNat (hexD n) := by
  match n, h with
  | 0, _ => rfl
  | 1, _ => rfl
  | 2, _ => rfl
  | 3, _ => rfl
  | 4, _ => rfl
  | 5, _ => rfl
  | 6, _ => rfl
  | 7, _ => rfl
  | 8, _ => rfl
  | 9, _ => rfl
  | 10, _ => rfl
  | 11, _ => rfl
  | 12, _ => rfl
  | 13, _ => rfl
  | 14, _ => rfl
  | 15, _ => rfl
  | n + 16, h => exact absurd h (by omega)
theorem hex_div {c : Nat} (hc : c < 256) (h : ((c : Int) / 16).toNat < (⟨#[48, 49, 50, 51, 52, 53, 54, 55, 56, 57, 97, 98, 99, 100, 101, 102]⟩ : ByteArray).size) : ((⟨#[48, 49, 50, 51, 52, 53, 54, 55, 56, 57, 97, 98, 99, 100, 101, 102]⟩ : ByteArray)[((c : Int) / 16).toNat]'h).toNat = hexD (c / 16) := by
  have e : ((c : Int) / 16).toNat = c / 16 := by omega
  have h16 : c / 16 < 16 := by omega
  simp only [e]
  rw [hex_at h16, UInt8.toNat_ofNat', Nat.mod_eq_of_lt (hexD_lt h16)]
theorem hex_mod {c : Nat} (h : ((c : Int) % 16).toNat < (⟨#[48, 49, 50, 51, 52, 53, 54, 55, 56, 57, 97, 98, 99, 100, 101, 102]⟩ : ByteArray).size) : ((⟨#[48, 49, 50, 51, 52, 53, 54, 55, 56, 57, 97, 98, 99, 100, 101, 102]⟩ : ByteArray)[((c : Int) % 16).toNat]'h).toNat = hexD (c % 16) := by
  have e : ((c : Int) % 16).toNat = c % 16 := by omega
  have h16 : c % 16 < 16 := by omega
  simp only [e]
  rw [hex_at h16, UInt8.toNat_ofNat', Nat.mod_eq_of_lt (hexD_lt h16)]
set_option maxRecDepth 100000 in
set_option maxHeartbeats 4000000 in
theorem val_ShowT (s : ByteArray) (w : World) (hm : mayV 3 0 s = true) :
    Calls Tryd.prog 13 #[.agg #[.int .i64 3, .int .i64 0, .string s]] w fun e w' => e = .returned (.string (showT s)) ∧ Below w.heap.size w w' := by
  have hs : s.size ≤ 1024 := (mayV_k hm).2
  have hM := fun W => val_May 3 0 s W
  rw [hm] at hM
  have HM := Lib.hid hM
  have hb0 : Below w.heap.size w (w.alloc (.cells #[.int .i64 3, .int .i64 0, .string s] 23)) := (Below.refl _ _).alloc (Nat.le_refl _) _
  have HB0 := Lib.hid hb0
  have HK0 := Lib.hid (show (w.alloc (.cells #[.int .i64 3, .int .i64 0, .string s] 23)).heap[w.heap.size]? = some (.cells #[.int .i64 3, .int .i64 0, .string s] 23 (0, 0)) from heap_alloc_new w _)
  clear hM hm hb0
  go_enter Tryd.func13, Tryd.ntmps13
  go_wp2_with (go_at_call 22; refine (HM.out _).mono ?_; rintro e w1 ⟨rfl, hb1⟩; have hk1 := block_below hb1 HK0.out; have k0 := cell_of_blk hk1 0; have k1 := cell_of_blk hk1 1; have k2 := cell_of_blk hk1 2; have HK1 := Lib.hid hk1; have HS1 := Lib.hid (below2 HB0.out hb1); clear hb1 hk1)
  refine (bld_WriteByte w1.heap.size w1.heap.size ByteArray.empty 34 (by omega) _ (Bld.new w1) (by rw [show ByteArray.empty.size = 0 from rfl]; omega) (by simp)).mono ?_
  rintro e w2 ⟨rfl, hB2, hb2⟩
  rw [empty_app] at hB2
  have hlt1 := lt_of_blk HK1.out
  have hS2 : Below w.heap.size w w2 := (below_alloc HS1.out (.cells #[.pointer none, .slice none 0 0] 69)).trans (hb2.mono HS1.out.size)
  have HS2 := Lib.hid hS2
  have hk2 : w2.heap[w.heap.size]? = some (.cells #[.int .i64 3, .int .i64 0, .string s] 23 (0, 0)) := by
    rw [hb2.block w.heap.size hlt1]
    exact block_below ((Below.refl _ _).alloc (Nat.le_refl _) _) HK1.out
  have HK2 := Lib.hid hk2
  have HBb2 : Hid (Below w1.heap.size (w1.alloc (.cells #[.pointer none, .slice none 0 0] 69)) w2) := Lib.hid hb2
  have HBL2 := Lib.hid hB2
  have q0 := cell_of_blk hk2 0
  have q1 := cell_of_blk hk2 1
  have q2 := cell_of_blk hk2 2
  have hsz2 : w1.heap.size ≤ w2.heap.size := by have := hb2.size; simp at this; omega
  have hgw : w.heap.size < w1.heap.size := hlt1
  generalize w1.heap.size = b0 at *
  clear hB2 hb2 hS2 hk2 k0 k1 k2
  go_wp2_with fail
  go_loopw [4, 5, 29] (fun _ _ i wr => ∃ (k : Nat) (acc : ByteArray), k ≤ s.size ∧ i = .int .i64 k ∧ Hid (Bld wr b0 b0 acc) ∧ acc.size ≤ 1 + 4 * k ∧ Hid (b1 34 ++ escAll (toL s) = acc ++ escAll ((toL s).drop k)) ∧ Below w.heap.size w wr ∧ b0 ≤ wr.heap.size ∧ Hid (wr.heap[w.heap.size]? = some (.cells #[.int .i64 3, .int .i64 0, .string s] 23 (0, 0)))) (fun _ _ i _ => s.size - (intOf i).toNat)
  case atStart => exact ⟨0, b1 34, Nat.zero_le _, rfl, HBL2, by decide, Lib.hid rfl, HS2.out, hsz2, HK2⟩
  case round =>
    clear HBL2 HS2 HK2 hsz2 q0 q1 q2 HBb2
    obtain ⟨k, acc, hk, rfl, HBL, hacc, HI, hbl, hbz, HK⟩ := hrel
    have HBLW := Lib.hid hbl
    have q0 := cell_of_blk HK.out 0
    have q1 := cell_of_blk HK.out 1
    have q2 := cell_of_blk HK.out 2
    have hblk := lt_of_blk HK.out
    by_cases hlt : k < s.size
    · have hi0 := HI.out
      rw [toL_drop_cons hlt] at hi0
      have hb := s[k].toNat_lt
      have hstep : ∀ e : ByteArray, escB s[k].toNat = e → b1 34 ++ escAll (toL s) = (acc ++ e) ++ escAll ((toL s).drop (k + 1)) := fun e he => by
        rw [hi0, app_assoc, ← he]; rfl
      have HST := Lib.hid hstep
      clear hi0 hstep HI hbl
      by_cases hq : s[k].toNat = 34 ∨ s[k].toNat = 92
      · have HE : Hid (escB s[k].toNat = ofN [92, s[k].toNat]) := Lib.hid (by unfold escB; rw [if_pos hq])
        have hcv := lit_two wr s[k].toNat hb
        rcases hq with hq | hq
        · have hqb := beq_t (a := (s[k].toNat : Int)) (b := 34) (by omega)
          clear hq
          go_wp2_with fail
          refine (bld_WriteString b0 b0 acc (ofN [92, s[k].toNat]) _ (HBL.out.kept ((Below.refl _ _).alloc (Nat.le_refl _) _)) (by rw [ofN_size]; show acc.size + 2 ≤ _; omega) (by simp; omega)).mono ?_
          rintro e w3 ⟨rfl, hB3, hb3, _⟩
          have HB3 := Lib.hid hB3
          have hs3 : b0 ≤ w3.heap.size := by have := hb3.size; first | (simp at this; omega) | omega
          have HK3 : Hid (w3.heap[w.heap.size]? = some (.cells #[.int .i64 3, .int .i64 0, .string s] 23 (0, 0))) := Lib.hid (by rw [hb3.block w.heap.size hgw]; exact block_below ((Below.refl _ _).alloc (Nat.le_refl _) _) HK.out)
          have HS3 : Hid (Below w.heap.size w w3) := Lib.hid ((below_alloc HBLW.out _).trans (hb3.mono (by omega)))
          have hn3 : (acc ++ ofN [92, s[k].toNat]).size ≤ 1 + 4 * (k + 1) := by rw [app_size]; have : (ofN [92, s[k].toNat]).size ≤ 4 := (by first | exact Nat.le_refl _ | (unfold b1; rw [ofN_size]; simp) | (rw [ofN_size]; simp) | (rw [app_size, ofN_size]; exact Nat.le_refl 4)); omega
          clear hB3 hb3 q0 q1 q2
          go_wp2_with fail
          go_roundw
          case rel => exact ⟨k + 1, acc ++ ofN [92, s[k].toNat], by omega, by go_num, HB3, hn3, Lib.hid (HST.out _ HE.out), HS3.out, hs3, HK3⟩
          case measure => simp [intOf]; omega
        · have hqb := beq_f (a := (s[k].toNat : Int)) (b := 34) (by omega)
          have hqb2 := beq_t (a := (s[k].toNat : Int)) (b := 92) (by omega)
          clear hq
          go_wp2_with fail
          refine (bld_WriteString b0 b0 acc (ofN [92, s[k].toNat]) _ (HBL.out.kept ((Below.refl _ _).alloc (Nat.le_refl _) _)) (by rw [ofN_size]; show acc.size + 2 ≤ _; omega) (by simp; omega)).mono ?_
          rintro e w3 ⟨rfl, hB3, hb3, _⟩
          have HB3 := Lib.hid hB3
          have hs3 : b0 ≤ w3.heap.size := by have := hb3.size; first | (simp at this; omega) | omega
          have HK3 : Hid (w3.heap[w.heap.size]? = some (.cells #[.int .i64 3, .int .i64 0, .string s] 23 (0, 0))) := Lib.hid (by rw [hb3.block w.heap.size hgw]; exact block_below ((Below.refl _ _).alloc (Nat.le_refl _) _) HK.out)
          have HS3 : Hid (Below w.heap.size w w3) := Lib.hid ((below_alloc HBLW.out _).trans (hb3.mono (by omega)))
          have hn3 : (acc ++ ofN [92, s[k].toNat]).size ≤ 1 + 4 * (k + 1) := by rw [app_size]; have : (ofN [92, s[k].toNat]).size ≤ 4 := (by first | exact Nat.le_refl _ | (unfold b1; rw [ofN_size]; simp) | (rw [ofN_size]; simp) | (rw [app_size, ofN_size]; exact Nat.le_refl 4)); omega
          clear hB3 hb3 q0 q1 q2
          go_wp2_with fail
          go_roundw
          case rel => exact ⟨k + 1, acc ++ ofN [92, s[k].toNat], by omega, by go_num, HB3, hn3, Lib.hid (HST.out _ HE.out), HS3.out, hs3, HK3⟩
          case measure => simp [intOf]; omega
      · have hqb := beq_f (a := (s[k].toNat : Int)) (b := 34) (by omega)
        have hqb2 := beq_f (a := (s[k].toNat : Int)) (b := 92) (by omega)
        by_cases hp : s[k].toNat < 32 ∨ 126 < s[k].toNat
        · have HE : Hid (escB s[k].toNat = (⟨#[92, 120]⟩ : ByteArray) ++ ofN [hexD (s[k].toNat / 16), hexD (s[k].toNat % 16)]) := Lib.hid (by unfold escB; rw [if_neg hq, if_pos hp]; exact toL_inj (by rw [toL_append]; rfl))
          have hd1 : hexD (s[k].toNat / 16) < 256 := hexD_lt (by omega)
          have hd2 : hexD (s[k].toNat % 16) < 256 := hexD_lt (by omega)
          have hcv := lit_hexd wr _ _ hd1 hd2
          have hz4 : ¬ 9223372036854775807 < (⟨#[92, 120]⟩ : ByteArray).size + (ofN [hexD (s[k].toNat / 16), hexD (s[k].toNat % 16)]).size := by rw [ofN_size]; show ¬ 9223372036854775807 < 2 + 2; omega
          clear hq
          rcases hp with hp | hp
          · have h32 : (s[k].toNat : Int) < 32 := by omega
            clear hp
            have hx1 : 0 ≤ (s[k].toNat : Int) / 16 := by omega
            have hx2 : (s[k].toNat : Int) / 16 < 16 := by omega
            have hx3 := u8_and15 (x := (s[k].toNat : Int)) (by omega) (by omega)
            have hx4 : 0 ≤ (s[k].toNat : Int) % 16 := by omega
            have hx5 : (s[k].toNat : Int) % 16 < 16 := by omega
            have hg1 := hex_div (c := s[k].toNat) hb
            have hg2 := hex_mod (c := s[k].toNat)
            go_wp2_with fail
            go_region_with (go_at_call 40; refine (bld_WriteString b0 b0 acc ((⟨#[92, 120]⟩ : ByteArray) ++ ofN [hexD (s[k].toNat / 16), hexD (s[k].toNat % 16)]) _ (HBL.out.kept (((Below.refl _ _).alloc (Nat.le_refl _) _).drew)) (by rw [app_size, ofN_size]; show acc.size + (2 + 2) ≤ _; omega) (by simp; omega)).mono ?_; rintro e w3 ⟨rfl, hB3, hb3, _⟩)
            all_goals
              have HB3 := Lib.hid hB3
              have hs3 : b0 ≤ w3.heap.size := by have := hb3.size; first | (simp at this; omega) | omega
              have HK3 : Hid (w3.heap[w.heap.size]? = some (.cells #[.int .i64 3, .int .i64 0, .string s] 23 (0, 0))) := Lib.hid (by rw [hb3.block w.heap.size hgw]; exact block_below ((Below.refl _ _).alloc (Nat.le_refl _) _) HK.out)
              have HS3 : Hid (Below w.heap.size w w3) := Lib.hid (((below_alloc HBLW.out _).drew).trans (hb3.mono (by omega)))
              have hn3 : (acc ++ ((⟨#[92, 120]⟩ : ByteArray) ++ ofN [hexD (s[k].toNat / 16), hexD (s[k].toNat % 16)])).size ≤ 1 + 4 * (k + 1) := by rw [app_size]; have : (((⟨#[92, 120]⟩ : ByteArray) ++ ofN [hexD (s[k].toNat / 16), hexD (s[k].toNat % 16)])).size ≤ 4 := (by first | exact Nat.le_refl _ | (unfold b1; rw [ofN_size]; simp) | (rw [ofN_size]; simp) | (rw [app_size, ofN_size]; exact Nat.le_refl 4)); omega
              clear hB3 hb3 q0 q1 q2
              go_wp2_with fail
              go_roundw
              case rel => exact ⟨k + 1, acc ++ ((⟨#[92, 120]⟩ : ByteArray) ++ ofN [hexD (s[k].toNat / 16), hexD (s[k].toNat % 16)]), by omega, by go_num, HB3, hn3, Lib.hid (HST.out _ HE.out), HS3.out, hs3, HK3⟩
              case measure => simp [intOf]; omega
          · have h32 : ¬ (s[k].toNat : Int) < 32 := by omega
            have h126 : (126 : Int) < (s[k].toNat : Int) := by omega
            clear hp
            have hx1 : 0 ≤ (s[k].toNat : Int) / 16 := by omega
            have hx2 : (s[k].toNat : Int) / 16 < 16 := by omega
            have hx3 := u8_and15 (x := (s[k].toNat : Int)) (by omega) (by omega)
            have hx4 : 0 ≤ (s[k].toNat : Int) % 16 := by omega
            have hx5 : (s[k].toNat : Int) % 16 < 16 := by omega
            have hg1 := hex_div (c := s[k].toNat) hb
            have hg2 := hex_mod (c := s[k].toNat)
            go_wp2_with fail
            go_region_with (go_at_call 40; refine (bld_WriteString b0 b0 acc ((⟨#[92, 120]⟩ : ByteArray) ++ ofN [hexD (s[k].toNat / 16), hexD (s[k].toNat % 16)]) _ (HBL.out.kept (((Below.refl _ _).alloc (Nat.le_refl _) _).drew)) (by rw [app_size, ofN_size]; show acc.size + (2 + 2) ≤ _; omega) (by simp; omega)).mono ?_; rintro e w3 ⟨rfl, hB3, hb3, _⟩)
            all_goals
              have HB3 := Lib.hid hB3
              have hs3 : b0 ≤ w3.heap.size := by have := hb3.size; first | (simp at this; omega) | omega
              have HK3 : Hid (w3.heap[w.heap.size]? = some (.cells #[.int .i64 3, .int .i64 0, .string s] 23 (0, 0))) := Lib.hid (by rw [hb3.block w.heap.size hgw]; exact block_below ((Below.refl _ _).alloc (Nat.le_refl _) _) HK.out)
              have HS3 : Hid (Below w.heap.size w w3) := Lib.hid (((below_alloc HBLW.out _).drew).trans (hb3.mono (by omega)))
              have hn3 : (acc ++ ((⟨#[92, 120]⟩ : ByteArray) ++ ofN [hexD (s[k].toNat / 16), hexD (s[k].toNat % 16)])).size ≤ 1 + 4 * (k + 1) := by rw [app_size]; have : (((⟨#[92, 120]⟩ : ByteArray) ++ ofN [hexD (s[k].toNat / 16), hexD (s[k].toNat % 16)])).size ≤ 4 := (by first | exact Nat.le_refl _ | (unfold b1; rw [ofN_size]; simp) | (rw [ofN_size]; simp) | (rw [app_size, ofN_size]; exact Nat.le_refl 4)); omega
              clear hB3 hb3 q0 q1 q2
              go_wp2_with fail
              go_roundw
              case rel => exact ⟨k + 1, acc ++ ((⟨#[92, 120]⟩ : ByteArray) ++ ofN [hexD (s[k].toNat / 16), hexD (s[k].toNat % 16)]), by omega, by go_num, HB3, hn3, Lib.hid (HST.out _ HE.out), HS3.out, hs3, HK3⟩
              case measure => simp [intOf]; omega
        · have HE : Hid (escB s[k].toNat = b1 s[k].toNat) := Lib.hid (by unfold escB; rw [if_neg hq, if_neg hp])
          have h32 : ¬ (s[k].toNat : Int) < 32 := by omega
          have h126 : ¬ (126 : Int) < (s[k].toNat : Int) := by omega
          clear hq hp
          go_wp2_with fail
          refine (bld_WriteByte b0 b0 acc s[k].toNat hb _ HBL.out (by omega) hbz).mono ?_
          rintro e w3 ⟨rfl, hB3, hb3⟩
          have HB3 := Lib.hid hB3
          have hs3 : b0 ≤ w3.heap.size := by have := hb3.size; first | (simp at this; omega) | omega
          have HK3 : Hid (w3.heap[w.heap.size]? = some (.cells #[.int .i64 3, .int .i64 0, .string s] 23 (0, 0))) := Lib.hid (by rw [hb3.block w.heap.size hgw]; exact HK.out)
          have HS3 : Hid (Below w.heap.size w w3) := Lib.hid ((HBLW.out).trans (hb3.mono (by omega)))
          have hn3 : (acc ++ b1 s[k].toNat).size ≤ 1 + 4 * (k + 1) := by rw [app_size]; have : (b1 s[k].toNat).size ≤ 4 := (by first | exact Nat.le_refl _ | (unfold b1; rw [ofN_size]; simp) | (rw [ofN_size]; simp) | (rw [app_size, ofN_size]; exact Nat.le_refl 4)); omega
          clear hB3 hb3 q0 q1 q2
          go_wp2_with fail
          go_roundw
          case rel => exact ⟨k + 1, acc ++ b1 s[k].toNat, by omega, by go_num, HB3, hn3, Lib.hid (HST.out _ HE.out), HS3.out, hs3, HK3⟩
          case measure => simp [intOf]; omega
    · have hfin : showT s = acc ++ b1 34 := by
        have h := HI.out
        rw [List.drop_eq_nil_of_le (by rw [toL_length]; omega)] at h
        unfold showT; rw [h]; show acc ++ ByteArray.empty ++ b1 34 = _; rw [app_empty]
      have HF := Lib.hid hfin
      have hz : ¬ 9223372036854775807 < acc.size + (⟨#[34]⟩ : ByteArray).size := by have : (⟨#[34]⟩ : ByteArray).size = 1 := rfl; omega
      clear hfin HI
      go_wp2_with (go_at_call 41; refine (bld_String b0 b0 acc wr HBL.out hbz).mono ?_; rintro e w6 ⟨rfl, hb6⟩)
      go_ret
      refine ⟨?_, HBLW.out.trans (hb6.mono (by omega))⟩
      rw [HF.out]; rfl
end Go.Proofs.YthhgfdejadbigaaDoor
/-
  DERIVED: THE SHELF's CONTRACTS AT THIS DUMP, IN PLAIN WORDS (tools/lay-plain.mjs out of 'TrydShelf.lean', which tools/lay-shelf.mjs wrote): THE SAME DECLARATIONS UNDER THE SAME NAMES: 'import', 'namespace', 'open', 'def', 'theorem' AND NOTHING ELSE: no command of the shelf's: FOR A HAND-IN. Each laying: the table of numbers ('.._ren') and one theorem, a field a fact of the dump's own or the kernel's comparison; each contract: ONE APPLICATION.
-/
namespace Go.Proofs
open Go.Shelf
def Tryd.lays121_ren : Go.Shelf.Ren := ⟨fun | 121 => 38 | 214 => 67 | n => n, fun | 4 => 4 | 9 => 9 | n => n, fun | n => n⟩
theorem Tryd.lays121 : Go.Proofs.Lays.n121 Tryd.prog Tryd.lays121_ren := {
  mixed := by kernel_rfl
  f121 := Tryd.func38.trans (congrArg some (by kernel_rfl))
  f214 := Tryd.func67.trans (congrArg some (by kernel_rfl))
  t4 := Tryd.underlying4
  a4 := Tryd.isAgg4
  z4 := Tryd.sizeOf4
  v4 := Tryd.zeroValue4
  t9 := Tryd.underlying9
  a9 := Tryd.isAgg9
  z9 := Tryd.sizeOf9
  v9 := Tryd.zeroValue9 }
open Go.RowKit in
theorem Tryd.strconv_FormatBool (b : Bool) (w : World) :
    Calls Tryd.prog 38 #[.bool b] w fun e w' => e = .returned (.string ⟨(Lib.formatBool b).toArray⟩) ∧ w' = w := Any.strconv_FormatBool Tryd.lays121 b w
def Tryd.laysM173_ren : Go.Shelf.Ren := ⟨fun | 173 => 37 | 246 => 66 | 283 => 82 | 284 => 83 | 285 => 84 | 286 => 85 | 129 => 90 | 317 => 89 | 318 => 91 | 319 => 92 | 320 => 93 | 337 => 95 | 338 => 96 | n => n, fun | 2 => 2 | 3 => 3 | 9 => 9 | 4 => 4 | 171 => 111 | 0 => 0 | 53 => 89 | 37 => 62 | 5 => 5 | 173 => 114 | 212 => 123 | 51 => 124 | 20 => 20 | 213 => 125 | 46 => 75 | 232 => 130 | 233 => 131 | n => n, fun | 17 => 1 | 18 => 2 | 19 => 3 | n => n⟩
theorem Tryd.laysM173 : Go.Proofs.LaysM.n173 Tryd.prog Tryd.laysM173_ren := {
  mixed := by kernel_rfl
  f129 := Tryd.func90.trans (congrArg some (by kernel_rfl))
  f173 := Tryd.func37.trans (congrArg some (by kernel_rfl))
  f246 := Tryd.func66.trans (congrArg some (by kernel_rfl))
  f283 := Tryd.func82.trans (congrArg some (by kernel_rfl))
  f284 := Tryd.func83.trans (congrArg some (by kernel_rfl))
  f285 := Tryd.func84.trans (congrArg some (by kernel_rfl))
  f286 := Tryd.func85.trans (congrArg some (by kernel_rfl))
  f317 := Tryd.func89.trans (congrArg some (by kernel_rfl))
  f318 := Tryd.func91.trans (congrArg some (by kernel_rfl))
  f319 := Tryd.func92.trans (congrArg some (by kernel_rfl))
  f320 := Tryd.func93.trans (congrArg some (by kernel_rfl))
  f337 := Tryd.func95.trans (congrArg some (by kernel_rfl))
  f338 := Tryd.func96.trans (congrArg some (by kernel_rfl))
  t0 := Tryd.underlying0
  a0 := Tryd.isAgg0
  z0 := Tryd.sizeOf0
  v0 := Tryd.zeroValue0
  t2 := Tryd.underlying2
  a2 := Tryd.isAgg2
  z2 := Tryd.sizeOf2
  v2 := Tryd.zeroValue2
  t3 := Tryd.underlying3
  a3 := Tryd.isAgg3
  z3 := Tryd.sizeOf3
  v3 := Tryd.zeroValue3
  t4 := Tryd.underlying4
  a4 := Tryd.isAgg4
  z4 := Tryd.sizeOf4
  v4 := Tryd.zeroValue4
  t5 := Tryd.underlying5
  a5 := Tryd.isAgg5
  z5 := Tryd.sizeOf5
  v5 := Tryd.zeroValue5
  t9 := Tryd.underlying9
  a9 := Tryd.isAgg9
  z9 := Tryd.sizeOf9
  v9 := Tryd.zeroValue9
  t20 := Tryd.underlying20
  a20 := Tryd.isAgg20
  z20 := Tryd.sizeOf20
  v20 := Tryd.zeroValue20
  t37 := Tryd.underlying62
  a37 := Tryd.isAgg62
  z37 := Tryd.sizeOf62
  v37 := Tryd.zeroValue62
  t46 := Tryd.underlying75
  a46 := Tryd.isAgg75
  z46 := Tryd.sizeOf75
  v46 := Tryd.zeroValue75
  t51 := Tryd.underlying124
  a51 := Tryd.isAgg124
  z51 := Tryd.sizeOf124
  v51 := Tryd.zeroValue124
  t53 := Tryd.underlying89
  a53 := Tryd.isAgg89
  z53 := Tryd.sizeOf89
  v53 := Tryd.zeroValue89
  t171 := Tryd.underlying111
  a171 := Tryd.isAgg111
  z171 := Tryd.sizeOf111
  v171 := Tryd.zeroValue111
  t173 := Tryd.underlying114
  a173 := Tryd.isAgg114
  z173 := Tryd.sizeOf114
  v173 := Tryd.zeroValue114
  t212 := Tryd.underlying123
  a212 := Tryd.isAgg123
  z212 := Tryd.sizeOf123
  v212 := Tryd.zeroValue123
  t213 := Tryd.underlying125
  a213 := Tryd.isAgg125
  z213 := Tryd.sizeOf125
  t232 := Tryd.underlying130
  a232 := Tryd.isAgg130
  z232 := Tryd.sizeOf130
  v232 := Tryd.zeroValue130
  t233 := Tryd.underlying131
  a233 := Tryd.isAgg131
  z233 := Tryd.sizeOf131
  v233 := Tryd.zeroValue131
  g17 := by kernel_rfl
  g18 := by kernel_rfl
  g19 := by kernel_rfl
  i0 := by kernel_rfl
  i2 := by kernel_rfl
  i3 := by kernel_rfl
  i4 := by kernel_rfl
  i5 := by kernel_rfl
  i9 := by kernel_rfl
  i20 := by kernel_rfl
  i37 := by kernel_rfl
  i46 := by kernel_rfl
  i51 := by kernel_rfl
  i53 := by kernel_rfl
  i171 := by kernel_rfl
  i173 := by kernel_rfl
  i212 := by kernel_rfl
  i232 := by kernel_rfl
  i233 := by kernel_rfl
  m17 := by kernel_rfl
  m18 := by kernel_rfl
  m19 := by kernel_rfl }
open Go.RowKit Go.Sort Go.Lib in
theorem Tryd.strconv_FormatInt_10 (n : Int) (h0 : -9223372036854775808 ≤ n) (h1 : n ≤ 9223372036854775807) (w : World) (htab : Lib.TabIs Tryd.prog w "internal/strconv.uint64pow10" .u64 Lib.pow10Tab) :
    Calls Tryd.prog 37 #[.int .i64 n, .int .i64 10] w fun e w' => e = .returned (.string ⟨(Lib.itoa n).toArray⟩) ∧ ∃ k os, w' = grow (w.drewN k) os := Any.strconv_FormatInt_10 Tryd.laysM173 n h0 h1 w htab
end Go.Proofs
/-
  value.Show of every value: its contract, over the table that FormatInt reads.
-/
set_option linter.unusedVariables false
set_option linter.unusedSimpArgs false
namespace Go.Proofs.Base
open Go Go.RowKit
def boolT (b : Bool) : ByteArray := ⟨(Lib.formatBool b).toArray⟩
def intT (n : Int) : ByteArray := ⟨(Lib.itoa n).toArray⟩
def showM (k n : Int) (s : ByteArray) : ByteArray := if mayV k n s = true then (if k = 1 then intT n else if k = 2 then boolT (n == 1) else showT s) else ⟨#[63]⟩
def HasTab (P : Program) (w : World) : Prop := Lib.TabBelow P w.heap.size w "internal/strconv.uint64pow10" .u64 Lib.pow10Tab
theorem HasTab.here {P : Program} {w w' : World} (h : HasTab P w) (hb : Below w.heap.size w w') : Lib.TabIs P w' "internal/strconv.uint64pow10" .u64 Lib.pow10Tab := h w' hb
theorem HasTab.of {P : Program} {w : World} (h : Lib.TabIs P w "internal/strconv.uint64pow10" .u64 Lib.pow10Tab) : HasTab P w := Lib.tabBelow_of_tabIs h
end Go.Proofs.Base
namespace Go.Proofs.YthhgfdejadbigaaDoor
open Go Go.RowKit Go.Proofs.Base
set_option maxRecDepth 100000 in
set_option maxHeartbeats 1000000 in
theorem val_Show (k n : Int) (s : ByteArray) (w : World) (hn : i64 n) (htab : k = 1 → HasTab Tryd.prog w) :
    Calls Tryd.prog 13 #[.agg #[.int .i64 k, .int .i64 n, .string s]] w fun e w' => e = .returned (.string (showM k n s)) ∧ Below w.heap.size w w' := by
  have hb0 : Below w.heap.size w (w.alloc (.cells #[.int .i64 k, .int .i64 n, .string s] 23)) := (Below.refl _ _).alloc (Nat.le_refl _) _
  have HB0 := Lib.hid hb0
  have HK0 := Lib.hid (show (w.alloc (.cells #[.int .i64 k, .int .i64 n, .string s] 23)).heap[w.heap.size]? = some (.cells #[.int .i64 k, .int .i64 n, .string s] 23 (0, 0)) from heap_alloc_new w _)
  have HT := Lib.hid htab
  have HN := Lib.hid hn
  clear hb0 htab hn
  have hM := fun W => val_May k n s W
  cases hm : mayV k n s with
  | false =>
    have HF : Hid (showM k n s = ⟨#[63]⟩) := Lib.hid (by unfold showM; rw [if_neg (by rw [hm]; simp)])
    rw [hm] at hM
    have HM := Lib.hid hM
    clear hM hm
    go_enter Tryd.func13, Tryd.ntmps13
    go_wp2_with (go_at_call 22; refine (HM.out _).mono ?_; rintro e w1 ⟨rfl, hb1⟩; have HS1 := Lib.hid (below2 HB0.out hb1); clear hb1)
    go_ret
    exact ⟨by rw [HF.out]; rfl, HS1.out⟩
  | true =>
    obtain ⟨hk, hs⟩ := mayV_k hm
    rcases hk with rfl | rfl | rfl
    · have HTT := Lib.hid (HT.out rfl)
      clear HT
      have HF : Hid (showM 1 n s = intT n) := Lib.hid (by unfold showM; rw [if_pos hm, if_pos rfl])
      rw [hm] at hM
      have HM := Lib.hid hM
      clear hM hm
      go_enter Tryd.func13, Tryd.ntmps13
      go_wp2_with (first | (go_at_call 22; refine (HM.out _).mono ?_; rintro e w1 ⟨rfl, hb1⟩; have hk1 := block_below hb1 HK0.out; have k0 := cell_of_blk hk1 0; have k1 := cell_of_blk hk1 1; have k2 := cell_of_blk hk1 2; have HS1 := Lib.hid (below2 HB0.out hb1); clear hb1 hk1) | (go_at_call 37; refine (Tryd.strconv_FormatInt_10 n HN.out.1 HN.out.2 _ (HTT.out.here HS1.out)).mono ?_; rintro e w2 ⟨rfl, q, os, rfl⟩))
      go_ret
      exact ⟨by rw [HF.out]; rfl, HS1.out.trans (Lib.below_grow w.heap.size _ HS1.out.size q os)⟩
    · have HF : Hid (showM 2 n s = boolT (n == 1)) := Lib.hid (by unfold showM; rw [if_pos hm, if_neg (by omega), if_pos rfl])
      rw [hm] at hM
      have HM := Lib.hid hM
      clear hM hm
      go_enter Tryd.func13, Tryd.ntmps13
      go_wp2_with (first | (go_at_call 22; refine (HM.out _).mono ?_; rintro e w1 ⟨rfl, hb1⟩; have hk1 := block_below hb1 HK0.out; have k0 := cell_of_blk hk1 0; have k1 := cell_of_blk hk1 1; have k2 := cell_of_blk hk1 2; have HS1 := Lib.hid (below2 HB0.out hb1); clear hb1 hk1) | (go_at_call 38; refine (Tryd.strconv_FormatBool (n == 1) _).mono ?_; rintro e w2 ⟨rfl, rfl⟩))
      go_ret
      exact ⟨by rw [HF.out]; rfl, HS1.out⟩
    · have hn0 : n = 0 := by
        unfold mayV at hm
        rw [if_pos rfl] at hm
        simp only [Bool.and_eq_true, decide_eq_true_eq] at hm
        exact hm.1
      subst hn0
      have e : showM 3 0 s = showT s := by unfold showM; rw [if_pos hm, if_neg (by omega), if_neg (by omega)]
      rw [e]
      exact val_ShowT s w hm
end Go.Proofs.YthhgfdejadbigaaDoor
/-
  The walks of the reference's writers: Uint, Int, Text.
-/
set_option linter.unusedVariables false
set_option linter.unusedSimpArgs false
namespace Go.Proofs.YthhgfdejadbigaaDoor
open Go Go.RowKit Go.Proofs.Base
theorem ofN_append (a b : List Nat) : ofN (a ++ b) = ofN a ++ ofN b := by
  apply toL_inj
  rw [toL_append, toL_ofN, toL_ofN, toL_ofN, List.map_append]
set_option maxRecDepth 100000 in
set_option maxHeartbeats 1000000 in
theorem ref_Uint (v : Int) (w : World) (h0 : 0 ≤ v) (h1 : v ≤ 18446744073709551615) :
    Calls Tryd.prog 56 #[.int .u64 v] w fun e w' => e = .returned (.string (uintB v.toNat)) ∧ Below w.heap.size w w' := by
  have hlen : (uintN v.toNat).length ≤ 10 := uintN_len10 (by omega)
  have H1 := Lib.hid h1
  have Hlen := Lib.hid hlen
  clear h1 hlen
  go_enter Tryd.func56, Tryd.ntmps56
  go_wp2_with fail
  go_loopw [0, 3] (fun a b wr => ∃ (u : Nat) (xs : List Nat), a = .int .u64 u ∧ (u : Int) ≤ v ∧ Hid (xs ++ uintN u = uintN v.toNat) ∧ b = .string (ofN xs) ∧ Below w.heap.size w wr) (fun a _ _ => (intOf a).toNat)
  case atStart => exact ⟨v.toNat, [], by rw [Int.toNat_of_nonneg h0], by omega, Lib.hid rfl, rfl, Below.refl _ _⟩
  case round =>
    obtain ⟨u, xs, rfl, hu, HX, rfl, HB⟩ := hrel
    have hl2 : xs.length + (uintN u).length ≤ 10 := by have := congrArg List.length HX.out; have h9 := Hlen.out; rw [List.length_append] at this; omega
    have hp := uintN_pos u
    have hsz := ofN_size xs
    have hlit := fun (x : Nat) => lit_string (P := Tryd.prog) Tryd.underlying62 Tryd.underlying5 Tryd.underlying9 wr [x] 1 rfl (by omega)
    have hbel := fun (x : Nat) => HB.alloc HB.size (.cells #[.int .u8 (x : Int)] 5)
    have hap := fun (x : Nat) => ofN_append xs [x]
    have hs1 := fun (x : Nat) => ofN_size [x]
    by_cases hlt : 128 ≤ u
    · have hlt' : (128 : Int) ≤ u := by omega
      have e1 : (128 : Int) + (u : Int) % 128 = ((u % 128 + 128 : Nat) : Int) := by omega
      have hl' := hlit (u % 128 + 128)
      have hs' := hs1 (u % 128 + 128)
      have hb' := hbel (u % 128 + 128)
      have ha' := hap (u % 128 + 128)
      have hz : ¬ 9223372036854775807 < (ofN xs).size + (ofN [u % 128 + 128]).size := by rw [hs', hsz]; simp; omega
      have ew : IntKind.u64.wrap ((u : Int) / 128) = ((u / 128 : Nat) : Int) := by
        have : IntKind.u64.wrap ((u : Int) / 128) = ((u : Int) / 128) % 18446744073709551616 := by simp [IntKind.wrap, IntKind.bits, IntKind.signed]
        have := H1.out
        omega
      clear hlit hbel hap hs1
      simp only [nums8, List.map_cons, List.map_nil] at hl'
      rw [← e1] at hl' hb'
      clear e1
      go_wp2_with fail
      go_roundw
      case rel =>
        refine ⟨u / 128, xs ++ [u % 128 + 128], by first | rw [ew] | rfl, by omega, ?_, ?_, hb'⟩
        · have h9 := HX.out
          rw [uintN_ge (by omega)] at h9
          exact Lib.hid (by rw [← h9]; simp)
        · rw [ha']
      case measure => first | (rw [ew]; simp [intOf]; omega) | (simp [intOf, ew]; omega) | (simp [intOf]; omega)
    · have hlt' : ¬ (128 : Int) ≤ u := by omega
      have hl' := hlit u
      have hs' := hs1 u
      have hb' := hbel u
      have ha' := hap u
      have hz : ¬ 9223372036854775807 < (ofN xs).size + (ofN [u]).size := by rw [hs', hsz]; simp; omega
      clear hlit hbel hap hs1
      simp only [nums8, List.map_cons, List.map_nil] at hl'
      go_wp2_with fail
      go_ret
      have h9 := HX.out
      rw [uintN_lt (by omega)] at h9
      refine ⟨?_, hb'⟩
      rw [← ha', h9]; rfl
set_option maxHeartbeats 1000000 in
theorem ref_Int (v : Int) (w : World) (h0 : -9223372036854775808 ≤ v) (h1 : v ≤ 9223372036854775807) :
    Calls Tryd.prog 52 #[.int .i64 v] w fun e w' => e = .returned (.string (intB v)) ∧ Below w.heap.size w w' := by
  have hz := zig_lt h0 h1
  by_cases hv : 0 ≤ v
  · have e1 : ((zig v : Nat) : Int) = 2 * v := by unfold zig; rw [if_pos hv]; omega
    have hc := ref_Uint (2 * v) w (by omega) (by omega)
    have e2 : (2 * v).toNat = zig v := by omega
    rw [e2] at hc
    go_enter Tryd.func52, Tryd.ntmps52
    go_wp2_with (go_at_call 56; refine hc.mono ?_; rintro e w1 ⟨rfl, hb1⟩)
    go_ret
    exact ⟨rfl, hb1⟩
  · have e1 : ((zig v : Nat) : Int) = 2 * (-(v + 1)) + 1 := by unfold zig; rw [if_neg hv]; omega
    have hc := ref_Uint (2 * (-(v + 1)) + 1) w (by omega) (by omega)
    have e2 : (2 * (-(v + 1)) + 1).toNat = zig v := by omega
    rw [e2] at hc
    go_enter Tryd.func52, Tryd.ntmps52
    go_wp2_with (go_at_call 56; refine hc.mono ?_; rintro e w1 ⟨rfl, hb1⟩)
    go_ret
    exact ⟨rfl, hb1⟩
set_option maxHeartbeats 1000000 in
theorem ref_Text (s : ByteArray) (w : World) (h1 : s.size ≤ 140737488351232) :
    Calls Tryd.prog 51 #[.string s] w fun e w' => e = .returned (.string (textB s)) ∧ Below w.heap.size w w' := by
  have hu := uintB_size (v := s.size) (by omega)
  have hsz : ¬ 9223372036854775807 < (uintB s.size).size + s.size := by omega
  go_enter Tryd.func51, Tryd.ntmps51
  go_wp2_with (go_at_call 56; refine (ref_Uint _ _ (by omega) (by omega)).mono ?_; rintro e w1 ⟨rfl, hb1⟩)
  go_ret
  exact ⟨rfl, hb1⟩
end Go.Proofs.YthhgfdejadbigaaDoor
/-
  The reference's hex (chapter 9): a byte in two digits.
-/
set_option linter.unusedVariables false
set_option linter.unusedSimpArgs false
namespace Go.Proofs.Base
open Go Go.RowKit
def hexB (c : Nat) : ByteArray := ofN [hexD (c / 16), hexD (c % 16)]
theorem hex_cut {n : Nat} (h : n < 16) : (⟨#[48, 49, 50, 51, 52, 53, 54, 55, 56, 57, 97, 98, 99, 100, 101, 102]⟩ : ByteArray).extract n (n + 1) = ofN [hexD n] := by
  match n, h with
  | 0, _ => rfl
  | 1, _ => rfl
  | 2, _ => rfl
  | 3, _ => rfl
  | 4, _ => rfl
  | 5, _ => rfl
  | 6, _ => rfl
  | 7, _ => rfl
  | 8, _ => rfl
  | 9, _ => rfl
  | 10, _ => rfl
  | 11, _ => rfl
  | 12, _ => rfl
  | 13, _ => rfl
  | 14, _ => rfl
  | 15, _ => rfl
  | n + 16, h => exact absurd h (by omega)
end Go.Proofs.Base
namespace Go.Proofs.YthhgfdejadbigaaDoor
open Go Go.RowKit Go.Proofs.Base
set_option maxRecDepth 100000 in
set_option maxHeartbeats 1000000 in
theorem ref_hex (c : Int) (w : World) (h0 : 0 ≤ c) (h1 : c ≤ 255) :
    Calls Tryd.prog 54 #[.int .u8 c] w fun e w' => e = .returned (.string (hexB c.toNat)) ∧ Below w.heap.size w w' := by
  obtain ⟨m, rfl⟩ := Int.eq_ofNat_of_zero_le h0
  have a1 : 0 ≤ (m : Int) / 16 := by omega
  have a2 : (m : Int) / 16 < 16 := by omega
  have a3 : 0 ≤ (m : Int) % 16 := by omega
  have a4 : (m : Int) % 16 < 16 := by omega
  have a5 : (m : Int) / 16 + 1 ≤ 16 := by omega
  have a6 : (m : Int) % 16 + 1 ≤ 16 := by omega
  go_enter Tryd.func54, Tryd.ntmps54
  go_wp2
  go_quiet (fail)
  go_wp2
  go_ret
  refine ⟨?_, below_drewN (Below.refl _ _) nq⟩
  have e : hexB m = (⟨#[48, 49, 50, 51, 52, 53, 54, 55, 56, 57, 97, 98, 99, 100, 101, 102]⟩ : ByteArray).extract (m / 16) (m / 16 + 1) ++ (⟨#[48, 49, 50, 51, 52, 53, 54, 55, 56, 57, 97, 98, 99, 100, 101, 102]⟩ : ByteArray).extract (m % 16) (m % 16 + 1) := by
    rw [hex_cut (by omega), hex_cut (by omega)]
    exact toL_inj (by rw [toL_append]; rfl)
  rw [Int.toNat_natCast]
  exact congrArg (fun z => Ending.returned (Value.string z)) e.symm
end Go.Proofs.YthhgfdejadbigaaDoor
