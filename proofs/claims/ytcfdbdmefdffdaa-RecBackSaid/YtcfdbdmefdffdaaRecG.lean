/-
  The bytes of numbers and texts begin with them alone; records of which one field is another one.
-/
import Derived.Test.YtcfdbdmefdffdaaRecP
import Derived.OpenShut
set_option linter.unusedVariables false
set_option linter.unusedSimpArgs false
namespace Go.Proofs.Base
open Go Go.RowKit

/-! ### bytes as numbers -/
def nb (s : ByteArray) : List Nat := (toL s).map UInt8.toNat
theorem nb_append (a b : ByteArray) : nb (a ++ b) = nb a ++ nb b := by simp [nb]
theorem nb_inj {a b : ByteArray} (h : nb a = nb b) : a = b := by
  refine toL_inj ?_
  unfold nb at h
  exact (List.map_inj_right (fun x y hxy => UInt8.toNat_inj.1 hxy)).1 h
theorem nb_length (a : ByteArray) : (nb a).length = a.size := by simp [nb]
theorem nb_ofN {l : List Nat} (h : ∀ x ∈ l, x < 256) : nb (ofN l) = l := by
  unfold nb
  rw [toL_ofN, List.map_map]
  conv => rhs; rw [← List.map_id l]
  refine List.map_congr_left fun x hx => ?_
  simp [UInt8.toNat_ofNat', Nat.mod_eq_of_lt (h x hx)]
theorem app_left {a b c : ByteArray} (h : a ++ b = a ++ c) : b = c := by
  refine nb_inj (List.append_cancel_left (as := nb a) ?_)
  rw [← nb_append, ← nb_append, h]
theorem app_right {a b c : ByteArray} (h : a ++ c = b ++ c) : a = b := by
  refine nb_inj (List.append_cancel_right (bs := nb c) ?_)
  rw [← nb_append, ← nb_append, h]

theorem uintN_pre : ∀ (n a b : Nat) (x y : List Nat), a < n → uintN a ++ x = uintN b ++ y → a = b ∧ x = y
  | 0, a, b, x, y, hn, h => by omega
  | n + 1, a, b, x, y, hn, h => by
    by_cases ha : a < 128
    · by_cases hb : b < 128
      · rw [uintN_lt ha, uintN_lt hb] at h
        simp only [List.cons_append, List.nil_append, List.cons.injEq] at h
        exact h
      · rw [uintN_lt ha, uintN_ge hb] at h
        simp only [List.cons_append, List.nil_append, List.cons.injEq] at h
        omega
    · by_cases hb : b < 128
      · rw [uintN_ge ha, uintN_lt hb] at h
        simp only [List.cons_append, List.nil_append, List.cons.injEq] at h
        omega
      · rw [uintN_ge ha, uintN_ge hb] at h
        simp only [List.cons_append, List.cons.injEq] at h
        obtain ⟨h1, h2⟩ := uintN_pre n (a / 128) (b / 128) x y (by omega) h.2
        exact ⟨by omega, h2⟩
theorem uintB_pre {a b : Nat} {x y : ByteArray} (h : uintB a ++ x = uintB b ++ y) : a = b ∧ x = y := by
  have h1 := congrArg nb h
  rw [nb_append, nb_append, uintB, uintB, nb_ofN (uintN_byte (a + 1) a (by omega)), nb_ofN (uintN_byte (b + 1) b (by omega))] at h1
  obtain ⟨h2, h3⟩ := uintN_pre (a + 1) a b _ _ (by omega) h1
  exact ⟨h2, nb_inj h3⟩
theorem uintB_inj {a b : Nat} (h : uintB a = uintB b) : a = b := (uintB_pre (x := ByteArray.empty) (y := ByteArray.empty) (by rw [h])).1
theorem zig_inj {a b : Int} (h : zig a = zig b) : a = b := by
  unfold zig at h
  split at h <;> split at h <;> omega
theorem intB_pre {a b : Int} {x y : ByteArray} (h : intB a ++ x = intB b ++ y) : a = b ∧ x = y := by
  obtain ⟨h1, h2⟩ := uintB_pre h
  exact ⟨zig_inj h1, h2⟩
theorem intB_inj {a b : Int} (h : intB a = intB b) : a = b := zig_inj (uintB_inj h)
theorem textB_pre {a b x y : ByteArray} (h : textB a ++ x = textB b ++ y) : a = b ∧ x = y := by
  unfold textB at h
  rw [app_assoc, app_assoc] at h
  obtain ⟨h1, h2⟩ := uintB_pre h
  have h3 := congrArg nb h2
  rw [nb_append, nb_append] at h3
  obtain ⟨h4, h5⟩ := List.append_inj h3 (by rw [nb_length, nb_length, h1])
  exact ⟨nb_inj h4, nb_inj h5⟩
theorem textB_inj {a b : ByteArray} (h : textB a = textB b) : a = b := (textB_pre (x := ByteArray.empty) (y := ByteArray.empty) (by rw [h])).1

/-! ### one field is another one -/
theorem rec_key {r : GRec} {x : Int} (hr : u64 r.key) (hx : u64 x) (h : recText { r with key := x } = recText r) : x = r.key := by
  have h1 := app_right (app_right (app_right h))
  have h2 := app_left h1
  have h3 := uintB_inj (app_right (app_right h2))
  have := hr.1; have := hx.1
  simp only at h3
  omega
theorem rec_key2 {r : GRec} {x : Int} (hr : u64 r.key2) (hx : u64 x) (h : recText { r with key2 := x } = recText r) : x = r.key2 := by
  have h1 := app_right (app_right (app_right h))
  have h2 := app_left h1
  have h3 := uintB_inj (app_left (app_right h2))
  have := hr.1; have := hx.1
  simp only at h3
  omega
theorem rec_key3 {r : GRec} {x : Int} (hr : u64 r.key3) (hx : u64 x) (h : recText { r with key3 := x } = recText r) : x = r.key3 := by
  have h1 := app_right (app_right (app_right h))
  have h2 := app_left h1
  have h3 := uintB_inj (app_left h2)
  have := hr.1; have := hx.1
  simp only at h3
  omega
theorem rec_n {r : GRec} {x : Int} (h : recText { r with n := x } = recText r) : x = r.n := by
  have h1 := app_right (app_right h)
  exact intB_inj (app_right (app_left h1))
theorem rec_m {r : GRec} {x : Int} (h : recText { r with m := x } = recText r) : x = r.m := by
  have h1 := app_right (app_right h)
  exact intB_inj (app_left (app_left h1))
theorem rec_time {r : GRec} {x : Int} (h : recText { r with time := x } = recText r) : x = r.time := by
  have h1 := app_right (app_right (app_right (app_right h)))
  exact intB_inj (app_left (app_left h1))
theorem rec_a {r : GRec} {x : ByteArray} (h : recText { r with a := x } = recText r) : x = r.a := by
  have h1 := app_right h
  exact textB_inj (app_right (app_right (app_left h1)))
theorem rec_b {r : GRec} {x : ByteArray} (h : recText { r with b := x } = recText r) : x = r.b := by
  have h1 := app_right h
  exact textB_inj (app_left (app_right (app_left h1)))
theorem rec_c {r : GRec} {x : ByteArray} (h : recText { r with c := x } = recText r) : x = r.c := by
  have h1 := app_right h
  exact textB_inj (app_left (app_left h1))

/-! ### the numbers that the law lays -/
theorem tmod_small {d : Int} : -100 < Int.tmod d 100 ∧ Int.tmod d 100 < 100 := by
  constructor
  · have := Int.lt_tmod_of_pos d (show (0 : Int) < 100 by decide); omega
  · exact Int.tmod_lt_of_pos d (by decide)
theorem add_other {k t : Int} (hk : u64 k) (ht : t ≠ 0) (h1 : -100 < t) (h2 : t < 100) : u64 (IntKind.u64.wrap (k + IntKind.u64.wrap t)) ∧ IntKind.u64.wrap (k + IntKind.u64.wrap t) ≠ k := by
  obtain ⟨k0, k1⟩ := hk
  have e : ∀ x : Int, IntKind.u64.wrap x = x % 18446744073709551616 := fun x => by simp [IntKind.wrap, IntKind.bits, IntKind.signed]
  rw [e, e]
  unfold u64
  omega
theorem x_size : (⟨#[120]⟩ : ByteArray).size = 1 := rfl
theorem app_other {a : ByteArray} : a ++ ⟨#[120]⟩ ≠ a := by
  intro h
  have := congrArg ByteArray.size h
  rw [app_size, x_size] at this
  omega
theorem bits_i64 (x y : Int) : i64 (bits .xor .i64 x y) := by
  have h : (Lit.int .i64 (bits .xor .i64 x y)).wf = true := wf_bits ..
  exact bounds_i64 h
theorem xor_other {a t : Int} (ha : i64 a) (ht : t ≠ 0) (h1 : -100 < t) (h2 : t < 100) : bits .xor .i64 a t ≠ a := by
  intro h
  have h0 : (IntKind.i64.wrap (((BitVec.ofInt 64 a ^^^ BitVec.ofInt 64 t).toNat : Nat) : Int)) = a := h
  have hX : ((BitVec.ofInt 64 a ^^^ BitVec.ofInt 64 t).toNat : Int) = a % 18446744073709551616 := by
    have h2 : (BitVec.ofInt 64 a ^^^ BitVec.ofInt 64 t).toNat < 18446744073709551616 := (BitVec.ofInt 64 a ^^^ BitVec.ofInt 64 t).isLt
    generalize (BitVec.ofInt 64 a ^^^ BitVec.ofInt 64 t).toNat = X at *
    simp only [IntKind.wrap, IntKind.bits, IntKind.signed] at h0
    simp at h0
    omega
  have hA : ((BitVec.ofInt 64 a).toNat : Int) = a % 18446744073709551616 := by rw [BitVec.toNat_ofInt]; omega
  have hT : ((BitVec.ofInt 64 t).toNat : Int) = t % 18446744073709551616 := by rw [BitVec.toNat_ofInt]; omega
  rw [BitVec.toNat_xor] at hX
  generalize (BitVec.ofInt 64 a).toNat = A at *
  generalize (BitVec.ofInt 64 t).toNat = T at *
  have e : A ^^^ T = A := by omega
  have e2 : T = 0 := by
    have := congrArg (A ^^^ ·) e
    simpa [← Nat.xor_assoc] using this
  omega
end Go.Proofs.Base
