/-
  The walks of wire's writers: Uint, Int, Text.
-/
import Derived.Test.YthhgfdejadbigaaDoorWireP
import Derived.Test.YthhgfdejadbigaaDoorProg
set_option linter.unusedVariables false
set_option linter.unusedSimpArgs false
namespace Go.Proofs.YthhgfdejadbigaaDoor
open Go Go.RowKit Go.Proofs.Base

theorem elBytes : ElemT Tryd.prog 62 5 1 1 := .of Tryd.underlying62 (z := .int .u8 0) (by kernel_rfl) rfl

theorem or128 (x : Int) (h0 : 0 ≤ x) (h1 : x < 256) : bits .or .u8 x 128 = x % 128 + 128 := by
  obtain ⟨n, rfl⟩ := Int.eq_ofNat_of_zero_le h0
  have hn : n < 256 := by omega
  have : ∀ m : Fin 256, bits .or .u8 ((m.val : Nat) : Int) 128 = ((m.val : Nat) : Int) % 128 + 128 := by decide +kernel
  exact this ⟨n, hn⟩

set_option maxRecDepth 100000 in
set_option maxHeartbeats 1000000 in
theorem wire_Uint (v : Int) (w : World) (h0 : 0 ≤ v) (h1 : v ≤ 18446744073709551615) :
    Calls Tryd.prog 55 #[.int .u64 v] w fun e w' => e = .returned (.string (uintB v.toNat)) ∧ Below w.heap.size w w' := by
  have H1 := Lib.hid h1
  have hlen : (uintN v.toNat).length ≤ 10 := uintN_len10 (by omega)
  have Hlen := Lib.hid hlen
  clear h1 hlen
  go_enter Tryd.func55, Tryd.ntmps55
  go_wp2_with fail
  go_loopw [0, 3] (fun a b wr => ∃ (u : Nat) (xs : List Nat), a = .int .u64 u ∧ (u : Int) ≤ v ∧ Hid (xs ++ uintN u = uintN v.toNat) ∧ wr.ownsRow w.heap.size 5 1 b xs.length (nums8 xs) ∧ Below w.heap.size w wr) (fun a _ _ => (intOf a).toNat)
  case atStart => exact ⟨v.toNat, [], by rw [Int.toNat_of_nonneg h0], by omega, Lib.hid rfl, own_nil _ _ _ _, Below.refl _ _⟩
  case round =>
    obtain ⟨u, xs, rfl, hu, HX, HO, HB⟩ := hrel
    have hl2 : xs.length + (uintN u).length ≤ 10 := by have := congrArg List.length HX.out; have h9 := Hlen.out; rw [List.length_append] at this; omega
    have hp := uintN_pos u
    by_cases hlt : 127 < u
    · have hlt' : (127 : Int) < u := by omega
      go_wp2_with (at_builtin; refine wp_app elBytes (by decide) rfl (.tmp 6) (.tmp 10) rfl w.heap.size _ xs.length (nums8 xs) [_] rfl rfl rfl (by simp [Value.oneCell']) HO HB HB.size (by omega) (by omega) ?_; intro v1 w1 HO1 HB1 hg1 hat1)
      go_roundw
      case rel =>
        have e1 : bits .or .u8 ((u : Int) % 256) 128 = ((u % 128 + 128 : Nat) : Int) := by rw [or128 _ (by omega) (by omega)]; omega
        have e2 : nums8 xs ++ [Value.int .u8 (bits .or .u8 ((u : Int) % 256) 128)] = nums8 (xs ++ [u % 128 + 128]) := by rw [e1, nums8_append]; rfl
        rw [e2] at HO1
        refine ⟨u / 128, xs ++ [u % 128 + 128], by go_num, by omega, ?_, by simpa using HO1, HB1⟩
        have h9 := HX.out
        rw [uintN_ge (by omega)] at h9
        exact Lib.hid (by rw [← h9]; simp)
      case measure => simp [intOf]; omega
    · have hlt' : ¬ (127 : Int) < u := by omega
      go_wp2_with (at_builtin; refine wp_app elBytes (by decide) rfl (.tmp 14) (.tmp 17) rfl w.heap.size _ xs.length (nums8 xs) [_] rfl rfl rfl (by simp [Value.oneCell']) HO HB HB.size (by omega) (by omega) ?_)
      intro v1 w1 HO1 HB1 hg1 hat1
      have hcv := own_string (P := Tryd.prog) Tryd.underlying62 Tryd.underlying5 Tryd.underlying9 (xs := xs ++ [u]) (by rw [nums8_append]; exact HO1)
      go_wp2
      go_ret
      have h9 := HX.out
      rw [uintN_lt (by omega)] at h9
      exact ⟨by rw [h9]; rfl, HB1⟩

theorem xor_zig (v : Int) (h0 : -9223372036854775808 ≤ v) (h1 : v ≤ 9223372036854775807) :
    bits .xor .u64 (IntKind.u64.wrap (IntKind.u64.wrap v * 2)) (IntKind.u64.wrap (v / 9223372036854775808)) = (zig v : Int) := by
  have hw : ∀ x : Int, IntKind.u64.wrap x = x % 18446744073709551616 := fun x => by simp [IntKind.wrap, IntKind.bits, IntKind.signed]
  have hb : ∀ a b : Int, bits .xor .u64 a b = IntKind.u64.wrap ((BitVec.ofInt 64 a ^^^ BitVec.ofInt 64 b).toNat : Int) := fun a b => rfl
  rw [hb]
  unfold zig
  by_cases hv : 0 ≤ v
  · have e1 : v / 9223372036854775808 = 0 := by omega
    have e2 : IntKind.u64.wrap (IntKind.u64.wrap v * 2) = 2 * v := by rw [hw, hw]; omega
    rw [e1, e2, if_pos hv, hw, hw]
    have e3 : BitVec.ofInt 64 (0 % 18446744073709551616) = 0#64 := by decide
    rw [e3, BitVec.xor_zero, BitVec.toNat_ofInt]
    omega
  · have e1 : v / 9223372036854775808 = -1 := by omega
    have e2 : IntKind.u64.wrap (IntKind.u64.wrap v * 2) = 2 * v + 18446744073709551616 := by rw [hw, hw]; omega
    rw [e1, e2, if_neg hv, hw, hw]
    have e3 : BitVec.ofInt 64 (-1 % 18446744073709551616) = BitVec.allOnes 64 := by decide
    rw [e3, BitVec.xor_allOnes, BitVec.toNat_not, BitVec.toNat_ofInt]
    omega

set_option maxHeartbeats 1000000 in
theorem wire_Int (v : Int) (w : World) (h0 : -9223372036854775808 ≤ v) (h1 : v ≤ 9223372036854775807) :
    Calls Tryd.prog 36 #[.int .i64 v] w fun e w' => e = .returned (.string (intB v)) ∧ Below w.heap.size w w' := by
  have hz := zig_lt h0 h1
  go_enter Tryd.func36, Tryd.ntmps36
  go_wp2_with fail
  rw [xor_zig v h0 h1]
  refine (wire_Uint _ _ (by omega) (by omega)).mono ?_
  rintro e w1 ⟨rfl, hb1⟩
  go_wp2
  go_ret
  exact ⟨by simp [intB], hb1⟩

set_option maxHeartbeats 1000000 in
theorem wire_Text (s : ByteArray) (w : World) (h1 : s.size ≤ 140737488351232) :
    Calls Tryd.prog 35 #[.string s] w fun e w' => e = .returned (.string (textB s)) ∧ Below w.heap.size w w' := by
  have hu := uintB_size (v := s.size) (by omega)
  have hsz : ¬ 9223372036854775807 < (uintB s.size).size + s.size := by omega
  go_enter Tryd.func35, Tryd.ntmps35
  go_wp2_with (go_at_call 55; refine (wire_Uint _ _ (by omega) (by omega)).mono ?_; rintro e w1 ⟨rfl, hb1⟩)
  go_ret
  exact ⟨rfl, hb1⟩
end Go.Proofs.YthhgfdejadbigaaDoor
