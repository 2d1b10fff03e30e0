/-
  What is taken from bytes is what they were made of, and nothing else: numbers with a sign, texts, values, variables, records.
-/
import Derived.Test.YtcfdbdmefdffdaaTakeP
set_option linter.unusedVariables false
set_option linter.unusedSimpArgs false
namespace Go.Proofs.Base
open Go Go.RowKit

/-- what 'takeM' says when all went well -/
theorem takeM_back {α : Type} {z v : α} {s s' : ByteArray} {e : Nat} {one : α × Nat × Nat} (h : takeM z s e one = (v, s', 0)) : e = 0 ∧ one.2.2 = 0 ∧ one.1 = v ∧ s.extract one.2.1 s.size = s' := by
  unfold takeM at h
  split at h
  · rename_i he
    simp only [Prod.mk.injEq] at h
    exact absurd h.2.2 he
  · rename_i he
    split at h
    · rename_i h2
      simp only [Prod.mk.injEq] at h
      exact absurd h.2.2 h2
    · rename_i h2
      simp only [Prod.mk.injEq] at h
      exact ⟨by omega, by omega, h.1, h.2.1⟩
theorem numM_full {v : Nat} (hv : v < 18446744073709551616) (x : ByteArray) : numM (toL (uintB v ++ x)) = (v, (uintB v).size, 0) := by
  have h := numGo_full (v + 1) v 0 0 (toL x) (by omega) (by simpa using hv) (.inl rfl)
  have hl : toL (uintB v ++ x) = ub v ++ toL x := by rw [toL_append, toL_uintB]
  have hs : (uintB v).size = (ub v).length := by rw [← toL_uintB, toL_length]
  unfold numM
  rw [hl, h, hs]
  simp
theorem numM_back {s : ByteArray} {n k : Nat} (h : numM (toL s) = (n, k, 0)) : ∃ r : ByteArray, s = uintB n ++ r ∧ k = (uintB n).size := by
  obtain ⟨u, r, hlr, hn, hk, _⟩ := numGo_back (toL s) 0 0 _ _ h
  simp only [Nat.zero_add, Nat.pow_zero, Nat.mul_one] at hn hk
  subst hn
  exact ⟨ofL r, toL_inj (by rw [toL_append, toL_uintB, toL_ofL, hlr]), by rw [hk, ← toL_length (uintB n), toL_uintB]⟩
theorem unzig_zig (v : Int) : unzig (zig v) = v := by unfold zig unzig; split <;> split <;> omega
theorem zig_unzig (n : Nat) : zig (unzig n) = n := by unfold zig unzig; split <;> split <;> omega
theorem rdInt_full {v : Int} (hv : i64 v) (x : ByteArray) : rdInt (intB v ++ x) 0 = (v, x, 0) := by
  unfold rdInt intOne
  have hn := numM_full (zig_lt hv.1 hv.2) x
  show takeM 0 (uintB (zig v) ++ x) 0 (unzig (numM (toL (uintB (zig v) ++ x))).1, (numM (toL (uintB (zig v) ++ x))).2.1, (numM (toL (uintB (zig v) ++ x))).2.2) = _
  rw [hn, takeM_ok rfl]
  simp only [unzig_zig]
  rw [extract_app]
theorem rdInt_back {s s' : ByteArray} {e : Nat} {v : Int} (h : rdInt s e = (v, s', 0)) : e = 0 ∧ s = intB v ++ s' := by
  obtain ⟨h0, h1, h2, h3⟩ := takeM_back h
  unfold intOne at h1 h2 h3
  simp only at h1 h2 h3
  have hq : numM (toL s) = ((numM (toL s)).1, (numM (toL s)).2.1, 0) := by
    have h9 : numM (toL s) = ((numM (toL s)).1, (numM (toL s)).2.1, (numM (toL s)).2.2) := rfl
    rw [h1] at h9
    exact h9
  obtain ⟨r, hr, hk⟩ := numM_back hq
  refine ⟨h0, ?_⟩
  have e1 : intB v = uintB (numM (toL s)).1 := by rw [← h2]; unfold intB; rw [zig_unzig]
  have e2 : s' = r := by rw [← h3, hk]; generalize (numM (toL s)).1 = n at hr; rw [hr, extract_app]
  rw [e1, e2]; exact hr
theorem extract_mid (a b c : ByteArray) : (a ++ (b ++ c)).extract a.size (a.size + b.size) = b := by
  refine toL_inj ?_
  show ((a ++ (b ++ c)).extract a.size (a.size + b.size)).data.toList = b.data.toList
  rw [ByteArray.data_extract, Array.toList_extract, List.extract_eq_take_drop]
  show List.take (a.size + b.size - a.size) (List.drop a.size (toL (a ++ (b ++ c)))) = toL b
  rw [toL_append, toL_append, ← toL_length a, List.drop_left, Nat.add_sub_cancel_left, ← toL_length b, List.take_left]
theorem rdText_full {m : Int} {t : ByteArray} (hm : (t.size : Int) ≤ m) (ht : okS t) (x : ByteArray) : rdText m (textB t ++ x) 0 = (t, x, 0) := by
  have ht2 : t.size < 18446744073709551616 := by unfold okS at ht; omega
  have hn := numM_full ht2 (t ++ x)
  have e : textB t ++ x = uintB t.size ++ (t ++ x) := app_assoc _ _ _
  have ho : textOne (textB t ++ x) m = (t, (uintB t.size).size + t.size, 0) := by
    unfold textOne
    rw [e, hn]
    simp only [ne_eq, not_true_eq_false, if_false]
    rw [if_neg (by omega), if_neg (by rw [app_size, app_size]; omega), extract_mid]
  unfold rdText
  rw [ho, takeM_ok rfl]
  simp only
  have e2 : (uintB t.size).size + t.size = (textB t).size := (app_size _ _).symm
  rw [e2, extract_app]
theorem rdText_back {m : Int} {s s' t : ByteArray} {e : Nat} (h : rdText m s e = (t, s', 0)) : e = 0 ∧ s = textB t ++ s' := by
  obtain ⟨h0, h1, h2, h3⟩ := takeM_back h
  refine ⟨h0, ?_⟩
  unfold textOne at h1 h2 h3
  by_cases c1 : (numM (toL s)).2.2 ≠ 0
  · rw [if_pos c1] at h1; exact absurd h1 c1
  · rw [if_neg c1] at h1 h2 h3
    by_cases c2 : m < 0 ∨ m < (numM (toL s)).1
    · rw [if_pos c2] at h1; simp at h1
    · rw [if_neg c2] at h1 h2 h3
      by_cases c3 : s.size - (numM (toL s)).2.1 < (numM (toL s)).1
      · rw [if_pos c3] at h1; simp at h1
      · rw [if_neg c3] at h2 h3
        simp only at h2 h3
        have c1' : (numM (toL s)).2.2 = 0 := by omega
        have hq : numM (toL s) = ((numM (toL s)).1, (numM (toL s)).2.1, 0) := by
          have h9 : numM (toL s) = ((numM (toL s)).1, (numM (toL s)).2.1, (numM (toL s)).2.2) := rfl
          rw [c1'] at h9
          exact h9
        obtain ⟨r, hr, hk⟩ := numM_back hq
        rw [hk] at h2 h3 c3
        generalize (numM (toL s)).1 = n at *
        have hrs : n ≤ r.size := by rw [hr, app_size] at c3; omega
        have er : r = ofL ((toL r).take n) ++ ofL ((toL r).drop n) := toL_inj (by rw [toL_append, toL_ofL, toL_ofL, List.take_append_drop])
        have en : (ofL ((toL r).take n)).size = n := by rw [ofL_size, List.length_take, toL_length]; omega
        generalize ofL ((toL r).take n) = b at *
        generalize ofL ((toL r).drop n) = c at *
        subst er
        rw [hr] at h2 h3
        have e5 : b = t := by rw [← h2, ← en, extract_mid]
        have e6 : c = s' := by
          rw [← h3]
          have e7 : (uintB n).size + n = (uintB n ++ b).size := by rw [app_size, en]
          rw [e7, ← app_assoc, extract_app]
        rw [hr, ← e5, ← e6]
        unfold textB
        rw [en, app_assoc]
theorem rdByte_full {b : Nat} (hb : b < 256) (x : ByteArray) : rdByte (ofN [b] ++ x) 0 = (b, x, 0) := by
  have hs : (ofN [b]).size = 1 := by rw [ofN_size]; rfl
  have hp : 0 < (ofN [b] ++ x).size := by rw [app_size, hs]; omega
  have hl : toL (ofN [b] ++ x) = UInt8.ofNat b :: toL x := by rw [toL_append, toL_ofN]; rfl
  have h0 : (ofN [b] ++ x)[0] = UInt8.ofNat b := by
    have h1 := toL_drop_cons (s := ofN [b] ++ x) (k := 0) hp
    rw [List.drop_zero, hl] at h1
    exact (List.cons.inj h1).1.symm
  have ho : byteOne (ofN [b] ++ x) = (b, 1, 0) := by
    unfold byteOne
    rw [dif_pos hp, h0, ofNat_toNat hb]
  unfold rdByte
  rw [ho, takeM_ok rfl]
  simp only
  have := extract_app (ofN [b]) x
  rw [hs] at this
  rw [this]
theorem rdByte_back {s s' : ByteArray} {e b : Nat} (h : rdByte s e = (b, s', 0)) : e = 0 ∧ b < 256 ∧ s = ofN [b] ++ s' := by
  obtain ⟨h0, h1, h2, h3⟩ := takeM_back h
  unfold byteOne at h1 h2 h3
  by_cases hp : 0 < s.size
  · rw [dif_pos hp] at h2 h3
    simp only at h2 h3
    have hb : s[0].toNat < 256 := s[0].toNat_lt
    have hl := toL_drop_cons (s := s) (k := 0) hp
    rw [List.drop_zero] at hl
    refine ⟨h0, by omega, ?_⟩
    have e1 : s' = ofL ((toL s).drop 1) := by
      rw [← h3]
      have := app_drop (s := s) (a := [s[0]]) (r := (toL s).drop 1) hl
      exact this
    refine toL_inj ?_
    rw [toL_append, toL_ofN, e1, toL_ofL, ← h2]
    simp only [List.map_cons, List.map_nil, toNat_ofNat8, List.cons_append, List.nil_append]
    exact hl
  · rw [dif_neg hp] at h1; simp at h1
end Go.Proofs.Base
