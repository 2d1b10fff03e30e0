/-
  What the bytes of numbers and texts are (layer 1), as plain lists; no program.
-/
import Derived.Test.YthhgfdejadbigaaDoorBase
set_option linter.unusedVariables false
set_option linter.unusedSimpArgs false
namespace Go.Proofs.Base
open Go Go.RowKit

def uintN (v : Nat) : List Nat := if h : v < 128 then [v] else (v % 128 + 128) :: uintN (v / 128)
termination_by v
decreasing_by omega
theorem uintN_lt {v : Nat} (h : v < 128) : uintN v = [v] := by rw [uintN, dif_pos h]
theorem uintN_ge {v : Nat} (h : ¬ v < 128) : uintN v = (v % 128 + 128) :: uintN (v / 128) := by rw [uintN, dif_neg h]
theorem uintN_len : ∀ (k v : Nat), v < 128 ^ (k + 1) → (uintN v).length ≤ k + 1
  | 0, v, h => by rw [uintN_lt (by simpa using h)]; simp
  | k + 1, v, h => by
    by_cases hv : v < 128
    · rw [uintN_lt hv]; simp
    · rw [uintN_ge hv]
      have := uintN_len k (v / 128) (Nat.div_lt_of_lt_mul (by rw [Nat.pow_succ, Nat.mul_comm] at h; exact h))
      simp only [List.length_cons]
      omega
theorem uintN_len10 {v : Nat} (h : v < 18446744073709551616) : (uintN v).length ≤ 10 := uintN_len 9 v (Nat.lt_of_lt_of_le h (by decide))
theorem uintN_pos (v : Nat) : 0 < (uintN v).length := by
  by_cases hv : v < 128
  · rw [uintN_lt hv]; simp
  · rw [uintN_ge hv]; simp
theorem uintN_byte : ∀ (k v : Nat), v < k → ∀ x ∈ uintN v, x < 256
  | 0, v, h => by omega
  | k + 1, v, h => by
    intro x hx
    by_cases hv : v < 128
    · rw [uintN_lt hv] at hx; simp at hx; omega
    · rw [uintN_ge hv] at hx
      rcases List.mem_cons.1 hx with rfl | hx
      · omega
      · exact uintN_byte k (v / 128) (by omega) x hx
def uintB (v : Nat) : ByteArray := ofN (uintN v)
theorem ofN_size (xs : List Nat) : (ofN xs).size = xs.length := by simp [ofN, ofL_size]
theorem toL_ofN (xs : List Nat) : toL (ofN xs) = xs.map UInt8.ofNat := by simp [ofN]
theorem uintB_size {v : Nat} (h : v < 18446744073709551616) : (uintB v).size ≤ 10 := by rw [uintB, ofN_size]; exact uintN_len10 h
theorem uintB_pos (v : Nat) : 0 < (uintB v).size := by rw [uintB, ofN_size]; exact uintN_pos v
/-- a number with a sign, as one without -/
def zig (v : Int) : Nat := if 0 ≤ v then (2 * v).toNat else (-2 * v - 1).toNat
theorem zig_lt {v : Int} (h0 : -9223372036854775808 ≤ v) (h1 : v ≤ 9223372036854775807) : zig v < 18446744073709551616 := by unfold zig; split <;> omega
def intB (v : Int) : ByteArray := uintB (zig v)
theorem intB_size {v : Int} (h0 : -9223372036854775808 ≤ v) (h1 : v ≤ 9223372036854775807) : (intB v).size ≤ 10 := uintB_size (zig_lt h0 h1)
def textB (s : ByteArray) : ByteArray := uintB s.size ++ s
end Go.Proofs.Base
