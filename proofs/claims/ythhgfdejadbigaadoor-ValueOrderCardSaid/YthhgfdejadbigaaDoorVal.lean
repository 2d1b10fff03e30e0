/-
  The walks of value: May, Named.
-/
import Derived.Test.YthhgfdejadbigaaDoorValP
import Derived.Test.YthhgfdejadbigaaDoorWire
import Derived.Test.YthhgfdejadbigaaDoorReadB
set_option linter.unusedVariables false
set_option linter.unusedSimpArgs false
namespace Go.Proofs.YthhgfdejadbigaaDoor
open Go Go.RowKit Go.Proofs.Base

set_option maxHeartbeats 1000000 in
theorem val_May (k n : Int) (s : ByteArray) (w : World) :
    Calls Tryd.prog 22 #[.agg #[.int .i64 k, .int .i64 n, .string s]] w fun e w' => e = .returned (.bool (mayV k n s)) ∧ Below w.heap.size w w' := by
  have hdone : Below w.heap.size w (w.alloc (.cells #[.int .i64 k, .int .i64 n, .string s] 23)) := (Below.refl _ _).alloc (Nat.le_refl _) _
  have HD := Lib.hid hdone
  clear hdone
  have hs0 : s.toList.isEmpty = decide (s.size = 0) := by
    by_cases h : s.size = 0
    · rw [emp_true h]; simp [h]
    · rw [emp_false (by omega)]; simp [h]
  have HS := Lib.hid hs0
  clear hs0
  by_cases h3 : k = 3
  · subst h3
    have hm : mayV 3 n s = (decide (n = 0) && decide (s.size ≤ 1024)) := by simp [mayV]
    have HM := Lib.hid hm
    clear hm
    by_cases hn : n = 0
    · subst hn
      go_enter Tryd.func22, Tryd.ntmps22
      go_wp2
      go_ret
      exact ⟨by rw [HM.out]; exact ret1 (vbool (by simp; omega)), HD⟩
    · have hb := beq_f hn
      have HN := Lib.hid hn
      clear hn
      go_enter Tryd.func22, Tryd.ntmps22
      go_wp2
      go_ret
      exact ⟨by rw [HM.out]; exact ret1 (vbool (by simp [HN.out])), HD⟩
  · by_cases h2 : k = 2
    · subst h2
      have hm : mayV 2 n s = ((decide (n = 0) || decide (n = 1)) && decide (s.size = 0)) := by simp [mayV]
      have HM := Lib.hid hm
      clear hm h3
      by_cases hn : n = 0 ∨ n = 1
      · rcases hn with rfl | rfl
        all_goals
          go_enter Tryd.func22, Tryd.ntmps22
          go_wp2
          go_ret
          exact ⟨by rw [HM.out]; exact ret1 (vbool (by simp [HS.out])), HD⟩
      · have hb := bne_t (fun h => hn (.inl h) : n ≠ 0)
        have hb1 := bne_t (fun h => hn (.inr h) : n ≠ 1)
        have HN := Lib.hid hn
        clear hn
        go_enter Tryd.func22, Tryd.ntmps22
        go_wp2
        go_ret
        exact ⟨by rw [HM.out]; exact ret1 (vbool (by have := HN.out; simp; omega)), HD⟩
    · by_cases h1 : k = 1
      · subst h1
        have hm : mayV 1 n s = decide (s.size = 0) := by simp [mayV]
        have HM := Lib.hid hm
        clear hm h3 h2
        go_enter Tryd.func22, Tryd.ntmps22
        go_wp2
        go_ret
        exact ⟨by rw [HM.out]; exact ret1 (vbool (by simp [HS.out])), HD⟩
      · have hm : mayV k n s = false := by simp [mayV, h1, h2, h3]
        have b1 := beq_f h1
        have b2 := beq_f h2
        have b3 := beq_f h3
        have HM := Lib.hid hm
        clear hm h1 h2 h3
        go_enter Tryd.func22, Tryd.ntmps22
        go_wp2
        go_ret
        exact ⟨by rw [HM.out]; rfl, HD⟩

/-- the place of the first one that is so, from i on -/
def idxFrom {α : Type} (p : α → Bool) : List α → Nat → Int
  | [], _ => -1
  | x :: r, i => if p x then (i : Int) else idxFrom p r (i + 1)
theorem idxFrom_any {α : Type} (p : α → Bool) : ∀ (l : List α) (i : Nat), decide (0 ≤ idxFrom p l i) = l.any p
  | [], i => by simp [idxFrom]
  | x :: r, i => by
    by_cases h : p x = true
    · simp [idxFrom, h]
    · simp only [idxFrom, h, Bool.false_eq_true, if_false, List.any_cons, Bool.false_or]
      exact idxFrom_any p r (i + 1)

theorem strs_new (w : World) (e : TypeId) (xs : List ByteArray) : ∀ i u, xs[i]? = some u → (w.alloc (.cells (xs.map Value.string).toArray e)).cell? ⟨w.heap.size, 0 + i, none⟩ = some (.string u) := fun i u hu => by
  rw [Nat.zero_add, cell_of_blk (heap_alloc_new w _)]
  simp [hu]

set_option maxHeartbeats 1000000 in
theorem sl_Index_str (b o n c : Nat) (xs : List ByteArray) (x : ByteArray) (w : World) (hl : xs.length = n) (hn : n ≤ 9223372036854775807) (hc : ∀ i u, xs[i]? = some u → w.cell? ⟨b, o + i, none⟩ = some (.string u)) :
    Calls Tryd.prog 72 #[.slice (some ⟨b, o, none⟩) n c, .string x] w fun e w' => e = .returned (.int .i64 (idxFrom (fun y => x.toList == y.toList) xs 0)) ∧ w = w' := by
  have HI : Hid (idxFrom (fun y : ByteArray => x.toList == y.toList) xs 0 = idxFrom (fun y => x.toList == y.toList) (xs.drop 0) 0) := Lib.hid rfl
  have Hl := Lib.hid hl
  have Hc := Lib.hid hc
  clear hl hc
  go_enter Tryd.func72, Tryd.ntmps72
  go_wp2_with fail
  go_loop [5, 8] (fun _ i => ∃ k : Nat, k ≤ n ∧ i = .int .i64 k ∧ Hid (idxFrom (fun y : ByteArray => x.toList == y.toList) xs 0 = idxFrom (fun y => x.toList == y.toList) (xs.drop k) k)) (fun _ i => n - (intOf i).toNat)
  case atStart => exact ⟨0, Nat.zero_le _, rfl, HI⟩
  case round =>
    obtain ⟨k, hk, rfl, HN⟩ := hrel
    by_cases hlt : k < n
    · have hkl : k < xs.length := by rw [Hl.out]; exact hlt
      have hN := HN.out
      rw [List.drop_eq_getElem_cons hkl] at hN
      have hx := Hc.out k xs[k] (List.getElem?_eq_getElem hkl)
      generalize xs[k] = y at *
      clear hkl
      by_cases he : (x.toList == y.toList) = true
      · simp only [idxFrom, he, if_true] at hN
        have HN2 := Lib.hid hN
        clear hN HN
        go_wp2
        go_ret
        exact ⟨by rw [HN2.out]; rfl, rfl⟩
      · have he' : (x.toList == y.toList) = false := by simpa using he
        clear he
        simp only [idxFrom, he', Bool.false_eq_true, if_false] at hN
        have HN2 := Lib.hid hN
        clear hN HN
        go_wp2
        go_round
        case rel => exact ⟨k + 1, by omega, by go_num, HN2⟩
        case measure => simp [intOf]; omega
    · go_wp2
      go_ret
      have h9 := HN.out
      rw [List.drop_eq_nil_of_le (by rw [Hl.out]; omega)] at h9
      exact ⟨by rw [h9]; rfl, rfl⟩

set_option maxHeartbeats 1000000 in
theorem sl_Contains_str (b o n c : Nat) (xs : List ByteArray) (x : ByteArray) (w : World) (hl : xs.length = n) (hn : n ≤ 9223372036854775807) (hc : ∀ i u, xs[i]? = some u → w.cell? ⟨b, o + i, none⟩ = some (.string u)) :
    Calls Tryd.prog 50 #[.slice (some ⟨b, o, none⟩) n c, .string x] w fun e w' => e = .returned (.bool (xs.any fun y => x.toList == y.toList)) ∧ w = w' := by
  have HC := Lib.hid (sl_Index_str b o n c xs x w hl hn hc)
  rw [← idxFrom_any _ _ 0]
  generalize idxFrom (fun y : ByteArray => x.toList == y.toList) xs 0 = r at *
  clear hl hc hn
  go_enter Tryd.func50, Tryd.ntmps50
  go_wp2_with (go_at_call 72; refine HC.out.mono ?_; rintro e w1 ⟨rfl, rfl⟩)
  go_ret
  exact ⟨rfl, rfl⟩

set_option maxHeartbeats 1000000 in
theorem val_Named (s : ByteArray) (w : World) (hs : s.size ≤ 9223372036854775807) :
    Calls Tryd.prog 23 #[.string s] w fun e w' => e = .returned (.bool (named s)) ∧ Below w.heap.size w w' := by
  by_cases h0 : 0 < s.size
  · have hN := named_cons h0
    by_cases h32 : s.size ≤ 32
    · by_cases hlet : 97 ≤ s[0].toNat ∧ s[0].toNat ≤ 122
      · have hm : named s = (((toL s).drop 0).all nameB && !(wordBs.any fun y => s.toList == y.toList)) := by
          have l1 : letterB s[0] = true := by unfold letterB; simp; omega
          have l2 : nameB s[0] = true := by unfold nameB; simp; omega
          rw [hN, toL_drop_cons h0, List.all_cons, l2]
          simp [h32, l1]
        have HM := Lib.hid hm
        clear hm hN
        have hc := fun (w : World) => sl_Contains_str w.heap.size 0 6 6 wordBs s (w.alloc (.cells (wordBs.map Value.string).toArray 9)) rfl (by omega) (strs_new w _ _)
        have HC := Lib.hid hc
        clear hc
        obtain ⟨hl1, hl2⟩ := hlet
        have hl1' : (97 : Int) ≤ s[0].toNat := by omega
        have hl2' : (s[0].toNat : Int) ≤ 122 := by omega
        clear hl1 hl2
        go_enter Tryd.func23, Tryd.ntmps23
        go_wp2_with fail
        clear hl1' hl2' h32
        go_loop [3, 4, 25] (fun _ _ i => ∃ k : Nat, k ≤ s.size ∧ i = .int .i64 k ∧ Hid (named s = (((toL s).drop k).all nameB && !(wordBs.any fun y => s.toList == y.toList)))) (fun _ _ i => s.size - (intOf i).toNat)
        case atStart => exact ⟨0, Nat.zero_le _, rfl, HM⟩
        case round =>
          obtain ⟨k, hk, rfl, HK⟩ := hrel
          by_cases hlt : k < s.size
          · have hq := HK.out
            rw [toL_drop_cons hlt, List.all_cons] at hq
            have HQ := Lib.hid hq
            clear hq HK
            have hb := s[k].toNat_lt
            by_cases hn : nameB s[k] = true
            · have hq := HQ.out
              rw [hn, Bool.true_and] at hq
              have HQ2 := Lib.hid hq
              clear hq HQ
              have h3 : (97 ≤ s[k].toNat ∧ s[k].toNat ≤ 122) ∨ (48 ≤ s[k].toNat ∧ s[k].toNat ≤ 57) ∨ s[k].toNat = 95 := by unfold nameB at hn; simp at hn; omega
              clear hn
              by_cases h95 : s[k].toNat = 95
              · have hb95 := bne_f (a := (s[k].toNat : Int)) (b := 95) (by omega)
                have h1 : (s[k].toNat : Int) < 97 := by omega
                have h2 : ¬ (s[k].toNat : Int) < 48 := by omega
                have h4 : (57 : Int) < (s[k].toNat : Int) := by omega
                clear h3 h95
                go_wp2_with fail
                go_round
                case rel => exact ⟨k + 1, by omega, by go_num, HQ2⟩
                case measure => simp [intOf]; omega
              · have h4 : (97 ≤ s[k].toNat ∧ s[k].toNat ≤ 122) ∨ (48 ≤ s[k].toNat ∧ s[k].toNat ≤ 57) := by omega
                clear h3 h95
                rcases h4 with ⟨h1, h2⟩ | ⟨h1, h2⟩
                · have h3 : ¬ (s[k].toNat : Int) < 97 := by omega
                  have h4 : ¬ (122 : Int) < (s[k].toNat : Int) := by omega
                  clear h1 h2
                  go_wp2_with fail
                  go_round
                  case rel => exact ⟨k + 1, by omega, by go_num, HQ2⟩
                  case measure => simp [intOf]; omega
                · have h3 : (s[k].toNat : Int) < 97 := by omega
                  have h4 : ¬ (s[k].toNat : Int) < 48 := by omega
                  have h5 : ¬ (57 : Int) < (s[k].toNat : Int) := by omega
                  clear h1 h2
                  go_wp2_with fail
                  go_round
                  case rel => exact ⟨k + 1, by omega, by go_num, HQ2⟩
                  case measure => simp [intOf]; omega
            · have hm : named s = false := by rw [HQ.out]; simp [hn]
              have HM2 := Lib.hid hm
              clear hm HQ HM
              have h3 : ¬ (97 ≤ s[k].toNat ∧ s[k].toNat ≤ 122) ∧ ¬ (48 ≤ s[k].toNat ∧ s[k].toNat ≤ 57) ∧ ¬ s[k].toNat = 95 := by unfold nameB at hn; simp at hn; omega
              clear hn
              have hb95 := bne_t (a := (s[k].toNat : Int)) (b := 95) (by omega)
              have h4 : (s[k].toNat : Int) < 48 ∨ (57 < (s[k].toNat : Int) ∧ (s[k].toNat : Int) < 97) ∨ 122 < (s[k].toNat : Int) := by omega
              clear h3
              rcases h4 with h4 | ⟨h4, h5⟩ | h4
              · have h6 : (s[k].toNat : Int) < 97 := by omega
                go_wp2_with fail
                go_ret
                exact ⟨by rw [HM2.out]; rfl, Below.refl _ _⟩
              · have h6 : ¬ (s[k].toNat : Int) < 48 := by omega
                go_wp2_with fail
                go_ret
                exact ⟨by rw [HM2.out]; rfl, Below.refl _ _⟩
              · have h6 : ¬ (s[k].toNat : Int) < 97 := by omega
                have h7 : ¬ (s[k].toNat : Int) < 48 := by omega
                have h8 : (57 : Int) < (s[k].toNat : Int) := by omega
                go_wp2_with fail
                go_ret
                exact ⟨by rw [HM2.out]; rfl, Below.refl _ _⟩
          · have hm : named s = !(wordBs.any fun y => s.toList == y.toList) := by rw [HK.out, List.drop_eq_nil_of_le (by simp; omega)]; rfl
            have HM2 := Lib.hid hm
            clear hm HK HM
            go_wp2_with (go_at_call 50; refine (HC.out _).mono ?_; rintro e w1 ⟨rfl, rfl⟩)
            go_ret
            exact ⟨by rw [HM2.out]; rfl, (Below.refl _ _).alloc (Nat.le_refl _) _⟩
      · have hm : named s = false := by
          rw [hN]
          have : letterB s[0] = false := by unfold letterB; simp; omega
          simp [this]
        have HM := Lib.hid hm
        have hle : (s[0].toNat : Int) < 97 ∨ ¬ (s[0].toNat : Int) < 97 ∧ 122 < (s[0].toNat : Int) := by omega
        clear hm hN hlet
        rcases hle with hle | ⟨hl1, hl2⟩
        all_goals
          go_enter Tryd.func23, Tryd.ntmps23
          go_wp2_with fail
          go_ret
          exact ⟨by rw [HM.out]; rfl, Below.refl _ _⟩
    · have hm : named s = false := by rw [hN]; simp [h32]
      have HM := Lib.hid hm
      clear hm hN
      go_enter Tryd.func23, Tryd.ntmps23
      go_wp2_with fail
      go_ret
      exact ⟨by rw [HM.out]; rfl, Below.refl _ _⟩
  · have hm := named_nil h0
    have HM := Lib.hid hm
    clear hm
    go_enter Tryd.func23, Tryd.ntmps23
    go_wp2_with fail
    go_ret
    exact ⟨by rw [HM.out]; rfl, Below.refl _ _⟩
end Go.Proofs.YthhgfdejadbigaaDoor
