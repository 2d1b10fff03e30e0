/-
  What is taken from bytes is what they were made of, and nothing else: numbers and texts.
-/
import Derived.Test.YtcfdbdmefdffdaaRecJ
set_option linter.unusedVariables false
set_option linter.unusedSimpArgs false
namespace Go.Proofs.Base
open Go Go.RowKit

theorem ofNat_toNat {n : Nat} (h : n < 256) : (UInt8.ofNat n).toNat = n := by simp [UInt8.toNat_ofNat', Nat.mod_eq_of_lt h]
theorem toNat_ofNat8 (b : UInt8) : UInt8.ofNat b.toNat = b := by simp
/-- the bytes of a number -/
def ub (v : Nat) : List UInt8 := (uintN v).map UInt8.ofNat
theorem toL_uintB (v : Nat) : toL (uintB v) = ub v := toL_ofN _
theorem ub_lt {v : Nat} (h : v < 128) : ub v = [UInt8.ofNat v] := by unfold ub; rw [uintN_lt h]; rfl
theorem ub_ge {v : Nat} (h : ¬ v < 128) : ub v = UInt8.ofNat (v % 128 + 128) :: ub (v / 128) := by unfold ub; rw [uintN_ge h]; rfl
theorem numGo_full : ∀ (n v i a : Nat) (r : List UInt8), v < n → v * 128 ^ i < 18446744073709551616 → (i = 0 ∨ 1 ≤ v) → numGo (ub v ++ r) i a = (a + v * 128 ^ i, i + (ub v).length, 0)
  | 0, v, i, a, r, hn, _, _ => by omega
  | n + 1, v, i, a, r, hn, hv, h1 => by
    have h9 : i = 9 → v ≤ 1 := by rintro rfl; omega
    by_cases hl : v < 128
    · rw [ub_lt hl]
      have hb : (UInt8.ofNat v).toNat = v := ofNat_toNat (by omega)
      rw [List.cons_append, List.nil_append, numGo_end (by rw [hb]; omega) (by rw [hb]; exact hl), hb, Nat.mod_eq_of_lt hl]
      rfl
    · rw [ub_ge hl]
      have hb : (UInt8.ofNat (v % 128 + 128)).toNat = v % 128 + 128 := ofNat_toNat (by omega)
      have hp : 128 ^ (i + 1) = 128 ^ i * 128 := Nat.pow_succ ..
      have hsum : v % 128 * 128 ^ i + v / 128 * 128 ^ (i + 1) = v * 128 ^ i := by
        rw [hp, Nat.mul_comm (128 ^ i) 128, ← Nat.mul_assoc, ← Nat.add_mul]
        congr 1
        omega
      rw [List.cons_append, numGo_on (by rw [hb]; omega) (by rw [hb]; omega), hb]
      rw [numGo_full n (v / 128) (i + 1) _ r (by omega) (by omega) (by omega)]
      have e : (v % 128 + 128) % 128 = v % 128 := by omega
      rw [e, List.length_cons, Nat.add_assoc, hsum]
      congr 2
      omega
theorem numGo_back : ∀ (l : List UInt8) (i a n k : Nat), numGo l i a = (n, k, 0) → ∃ (v : Nat) (r : List UInt8), l = ub v ++ r ∧ n = a + v * 128 ^ i ∧ k = i + (ub v).length ∧ (i ≠ 0 → v ≠ 0)
  | [], i, a, n, k, h => by simp [numGo] at h
  | b :: l, i, a, n, k, h => by
    by_cases hbad : (i = 9 ∧ 1 < b.toNat) ∨ (0 < i ∧ b.toNat = 0)
    · rw [numGo_bad hbad] at h; simp at h
    · by_cases hl : b.toNat < 128
      · rw [numGo_end hbad hl, Nat.mod_eq_of_lt hl] at h
        simp only [Prod.mk.injEq] at h
        refine ⟨b.toNat, l, ?_, h.1.symm, ?_, fun hi => by omega⟩
        · rw [ub_lt hl, toNat_ofNat8]; rfl
        · rw [ub_lt hl]; exact h.2.1.symm
      · rw [numGo_on hbad hl] at h
        obtain ⟨v, r, hlr, hn, hk, hv⟩ := numGo_back l (i + 1) _ n k h
        have hv0 := hv (by omega)
        have hb := b.toNat_lt
        have hge : ¬ v * 128 + b.toNat % 128 < 128 := by omega
        have e1 : (v * 128 + b.toNat % 128) % 128 + 128 = b.toNat := by omega
        have e2 : (v * 128 + b.toNat % 128) / 128 = v := by omega
        refine ⟨v * 128 + b.toNat % 128, r, ?_, ?_, ?_, fun _ => by omega⟩
        · rw [ub_ge hge, e1, e2, toNat_ofNat8, hlr]; rfl
        · rw [hn, Nat.pow_succ, Nat.add_mul, Nat.add_assoc]
          congr 1
          rw [Nat.mul_comm (128 ^ i) 128, ← Nat.mul_assoc]
          omega
        · rw [ub_ge hge, e2, List.length_cons, hk]; omega
theorem extract_app (a b : ByteArray) : (a ++ b).extract a.size (a ++ b).size = b := by
  refine toL_inj ?_
  have h1 : ∀ (s : ByteArray) (i : Nat), toL (s.extract i s.size) = (toL s).drop i := fun s i => by
    show (s.extract i s.size).data.toList = s.data.toList.drop i
    rw [ByteArray.data_extract, Array.toList_extract]
    have hs : s.size = s.data.toList.length := rfl
    rw [hs, List.extract_eq_take_drop, List.take_of_length_le (by simp)]
  rw [h1, toL_append, ← toL_length a, List.drop_left]
theorem app_drop {s : ByteArray} {a r : List UInt8} (h : toL s = a ++ r) : s.extract a.length s.size = ofL r := by
  have e : s = ofL a ++ ofL r := toL_inj (by rw [toL_append, toL_ofL, toL_ofL, h])
  rw [e]
  have := extract_app (ofL a) (ofL r)
  rwa [ofL_size a] at this
theorem rdUint_full {v : Nat} (hv : v < 18446744073709551616) (x : ByteArray) : rdUint (uintB v ++ x) 0 = (v, x, 0) := by
  have h := numGo_full (v + 1) v 0 0 (toL x) (by omega) (by simpa using hv) (.inl rfl)
  have hl : toL (uintB v ++ x) = ub v ++ toL x := by rw [toL_append, toL_uintB]
  unfold rdUint numM
  rw [hl, h, takeM_ok rfl]
  simp only [Nat.zero_add, Nat.pow_zero, Nat.mul_one]
  rw [app_drop hl, ofL_toL]
theorem rdUint_back {s s' : ByteArray} {e v : Nat} (h : rdUint s e = (v, s', 0)) : e = 0 ∧ s = uintB v ++ s' := by
  unfold rdUint takeM at h
  split at h
  · rename_i he
    simp only [Prod.mk.injEq] at h
    exact absurd h.2.2 he
  · rename_i he
    split at h
    · rename_i h2
      simp only [Prod.mk.injEq] at h
      exact absurd h.2.2 h2
    · rename_i h2
      simp only [Prod.mk.injEq] at h
      have h2' : (numM (toL s)).2.2 = 0 := by omega
      have hq : numGo (toL s) 0 0 = ((numM (toL s)).1, (numM (toL s)).2.1, 0) := by
        have h3 : numM (toL s) = ((numM (toL s)).1, (numM (toL s)).2.1, (numM (toL s)).2.2) := rfl
        rw [h2'] at h3
        exact h3
      obtain ⟨u, r, hlr, hn, hk, _⟩ := numGo_back (toL s) 0 0 _ _ hq
      simp only [Nat.zero_add, Nat.pow_zero, Nat.mul_one] at hn hk
      refine ⟨by omega, ?_⟩
      have hv : v = u := by rw [← h.1, hn]
      rw [hk, app_drop hlr] at h
      rw [hv, ← h.2.1]
      exact toL_inj (by rw [toL_append, toL_uintB, toL_ofL, hlr])
end Go.Proofs.Base
