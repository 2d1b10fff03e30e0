/-
  What a number at the head of bytes is (layer 1); no program.
-/
import Derived.Test.YthhgfdejadbigaaDoorWireP
set_option linter.unusedVariables false
set_option linter.unusedSimpArgs false
namespace Go.Proofs.Base
open Go Go.RowKit

/-- The number that begins bytes, from place i on: the number, how many bytes, why not. -/
def numGo : List UInt8 → Nat → Nat → Nat × Nat × Nat
  | [], _, _ => (0, 0, 2)
  | b :: r, i, v =>
    if (i = 9 ∧ 1 < b.toNat) ∨ (0 < i ∧ b.toNat = 0) then (0, 0, 3)
    else if b.toNat < 128 then (v + b.toNat % 128 * 128 ^ i, i + 1, 0)
    else numGo r (i + 1) (v + b.toNat % 128 * 128 ^ i)
def numM (l : List UInt8) : Nat × Nat × Nat := numGo l 0 0
theorem numGo_bad {b : UInt8} {r : List UInt8} {i v : Nat} (h : (i = 9 ∧ 1 < b.toNat) ∨ (0 < i ∧ b.toNat = 0)) : numGo (b :: r) i v = (0, 0, 3) := by rw [numGo, if_pos h]
theorem numGo_end {b : UInt8} {r : List UInt8} {i v : Nat} (h : ¬ ((i = 9 ∧ 1 < b.toNat) ∨ (0 < i ∧ b.toNat = 0))) (hb : b.toNat < 128) : numGo (b :: r) i v = (v + b.toNat % 128 * 128 ^ i, i + 1, 0) := by rw [numGo, if_neg h, if_pos hb]
theorem numGo_on {b : UInt8} {r : List UInt8} {i v : Nat} (h : ¬ ((i = 9 ∧ 1 < b.toNat) ∨ (0 < i ∧ b.toNat = 0))) (hb : ¬ b.toNat < 128) : numGo (b :: r) i v = numGo r (i + 1) (v + b.toNat % 128 * 128 ^ i) := by rw [numGo, if_neg h, if_neg hb]
theorem step_lt {v i b : Nat} (hv : v < 128 ^ i) (hb : b < 128) : v + b * 128 ^ i < 128 ^ (i + 1) := by
  have h1 : b * 128 ^ i ≤ 127 * 128 ^ i := Nat.mul_le_mul_right _ (by omega)
  rw [Nat.pow_succ]
  omega
/-- The number is one of 64 bits, and it has no more bytes than there are. -/
theorem numGo_range : ∀ (l : List UInt8) (i v : Nat), i ≤ 9 → v < 128 ^ i → (numGo l i v).1 < 18446744073709551616 ∧ (numGo l i v).2.1 ≤ i + l.length ∧ (numGo l i v).2.1 ≤ 10
  | [], i, v, hi, hv => by simp [numGo]
  | b :: r, i, v, hi, hv => by
    by_cases h : (i = 9 ∧ 1 < b.toNat) ∨ (0 < i ∧ b.toNat = 0)
    · rw [numGo_bad h]; simp
    · by_cases hb : b.toNat < 128
      · rw [numGo_end h hb]
        refine ⟨?_, by simp <;> omega, by simp <;> omega⟩
        show v + b.toNat % 128 * 128 ^ i < _
        by_cases h9 : i = 9
        · subst h9
          have h1 : b.toNat % 128 * 128 ^ 9 ≤ 1 * 128 ^ 9 := Nat.mul_le_mul_right _ (by omega)
          have h2 : (128 : Nat) ^ 9 = 9223372036854775808 := by decide
          omega
        · have h1 := step_lt (b := b.toNat % 128) hv (by omega)
          have h2 : 128 ^ (i + 1) ≤ 128 ^ 9 := Nat.pow_le_pow_right (by omega) (by omega)
          have h3 : (128 : Nat) ^ 9 = 9223372036854775808 := by decide
          omega
      · rw [numGo_on h hb]
        have h1 := step_lt (b := b.toNat % 128) hv (by omega)
        obtain ⟨a1, a2, a3⟩ := numGo_range r (i + 1) (v + b.toNat % 128 * 128 ^ i) (by omega) h1
        exact ⟨a1, by simp; omega, a3⟩
theorem numM_range (l : List UInt8) : (numM l).1 < 18446744073709551616 ∧ (numM l).2.1 ≤ l.length ∧ (numM l).2.1 ≤ 10 := by
  have := numGo_range l 0 0 (by omega) (by simp)
  simpa [numM] using this
theorem numGo_err : ∀ (l : List UInt8) (i v : Nat), (numGo l i v).2.2 = 0 ∨ (numGo l i v).2.2 = 2 ∨ (numGo l i v).2.2 = 3
  | [], i, v => by simp [numGo]
  | b :: r, i, v => by
    by_cases h : (i = 9 ∧ 1 < b.toNat) ∨ (0 < i ∧ b.toNat = 0)
    · rw [numGo_bad h]; simp
    · by_cases hb : b.toNat < 128
      · rw [numGo_end h hb]; simp
      · rw [numGo_on h hb]; exact numGo_err r _ _
theorem toL_drop_cons {s : ByteArray} {k : Nat} (h : k < s.size) : (toL s).drop k = s[k] :: (toL s).drop (k + 1) := by
  rw [List.drop_eq_getElem_cons (by simpa using h)]
  rfl
/-- one with a sign -/
def unzig (v : Nat) : Int := if v % 2 = 0 then (v / 2 : Nat) else -((v / 2 : Nat) : Int) - 1
end Go.Proofs.Base
namespace Go.Proofs.Base
open Go Go.RowKit
/-- take: what is read, and the reader behind it. -/
def takeM {α : Type} (z : α) (s : ByteArray) (e : Nat) (one : α × Nat × Nat) : α × ByteArray × Nat :=
  if e ≠ 0 then (z, s, e) else if one.2.2 ≠ 0 then (z, s, one.2.2) else (one.1, s.extract one.2.1 s.size, 0)
def byteOne (s : ByteArray) : Nat × Nat × Nat := if h : 0 < s.size then (s[0].toNat, 1, 0) else (0, 0, 2)
def intOne (s : ByteArray) : Int × Nat × Nat := (unzig (numM (toL s)).1, (numM (toL s)).2.1, (numM (toL s)).2.2)
def textOne (s : ByteArray) (most : Int) : ByteArray × Nat × Nat :=
  if (numM (toL s)).2.2 ≠ 0 then (ByteArray.empty, 0, (numM (toL s)).2.2)
  else if most < 0 ∨ most < (numM (toL s)).1 then (ByteArray.empty, 0, 13)
  else if s.size - (numM (toL s)).2.1 < (numM (toL s)).1 then (ByteArray.empty, 0, 2)
  else (s.extract (numM (toL s)).2.1 ((numM (toL s)).2.1 + (numM (toL s)).1), (numM (toL s)).2.1 + (numM (toL s)).1, 0)
def rdByte (s : ByteArray) (e : Nat) : Nat × ByteArray × Nat := takeM 0 s e (byteOne s)
def rdUint (s : ByteArray) (e : Nat) : Nat × ByteArray × Nat := takeM 0 s e (numM (toL s))
def rdInt (s : ByteArray) (e : Nat) : Int × ByteArray × Nat := takeM 0 s e (intOne s)
def rdText (most : Int) (s : ByteArray) (e : Nat) : ByteArray × ByteArray × Nat := takeM ByteArray.empty s e (textOne s most)
theorem takeM_wrong {α : Type} {z : α} {s : ByteArray} {e : Nat} {one : α × Nat × Nat} (h : e ≠ 0) : takeM z s e one = (z, s, e) := by rw [takeM, if_pos h]
theorem takeM_bad {α : Type} {z : α} {s : ByteArray} {one : α × Nat × Nat} (h : one.2.2 ≠ 0) : takeM z s 0 one = (z, s, one.2.2) := by rw [takeM, if_neg (by simp), if_pos h]
theorem takeM_ok {α : Type} {z : α} {s : ByteArray} {one : α × Nat × Nat} (h : one.2.2 = 0) : takeM z s 0 one = (one.1, s.extract one.2.1 s.size, 0) := by rw [takeM, if_neg (by simp), if_neg (by simp [h])]
theorem takeM_size {α : Type} (z : α) (s : ByteArray) (e : Nat) (one : α × Nat × Nat) : (takeM z s e one).2.1.size ≤ s.size := by
  unfold takeM
  split
  · exact Nat.le_refl _
  · split
    · exact Nat.le_refl _
    · simp
theorem byteOne_le {s : ByteArray} (h : (byteOne s).2.2 = 0) : (byteOne s).2.1 ≤ s.size := by
  unfold byteOne at *
  split <;> simp_all <;> omega
theorem textOne_le {s : ByteArray} {most : Int} (h : (textOne s most).2.2 = 0) : (textOne s most).2.1 ≤ s.size := by
  have h1 := numM_range (toL s)
  rw [toL_length] at h1
  unfold textOne at h ⊢
  by_cases a : (numM (toL s)).2.2 ≠ 0
  · rw [if_pos a] at h ⊢; exact Nat.zero_le _
  · rw [if_neg a] at h ⊢
    by_cases b : most < 0 ∨ most < (numM (toL s)).1
    · rw [if_pos b] at h ⊢; exact Nat.zero_le _
    · rw [if_neg b] at h ⊢
      by_cases c : s.size - (numM (toL s)).2.1 < (numM (toL s)).1
      · rw [if_pos c] at h ⊢; exact Nat.zero_le _
      · rw [if_neg c] at h ⊢
        show (numM (toL s)).2.1 + (numM (toL s)).1 ≤ s.size
        omega
end Go.Proofs.Base
