/-
  The walks of wire's reader.
-/
import Derived.Test.YthhgfdejadbigaaDoorReadP
import Derived.Test.YthhgfdejadbigaaDoorProg
set_option linter.unusedVariables false
set_option linter.unusedSimpArgs false
namespace Go.Proofs.YthhgfdejadbigaaDoor
open Go Go.RowKit Go.Proofs.Base

/-- A reader: what is left, why it is wrong. -/
def Rdr (w : World) (g : Nat) (s : ByteArray) (e : Nat) : Prop := w.heap[g]? = some (.cells #[.string s, .int .i64 e] 95 (0, 0))
theorem Rdr.facts {w : World} {g : Nat} {s : ByteArray} {e : Nat} (h : Rdr w g s e) : w.cell? ⟨g, 0, none⟩ = some (.string s) ∧ w.cell? ⟨g, 1, none⟩ = some (.int .i64 e) ∧ w.frozen? ⟨g, 0, none⟩ = false ∧ w.frozen? ⟨g, 1, none⟩ = false ∧ g < w.heap.size :=
  ⟨cell_of_blk h 0, cell_of_blk h 1, frozen_of_blk h 0, frozen_of_blk h 1, lt_of_blk h⟩

theorem and127 (b : UInt8) : bits .and .u8 (b.toNat : Int) 127 = ((b.toNat % 128 : Nat) : Int) := by
  have h : ∀ m : Fin 256, bits .and .u8 ((m.val : Nat) : Int) 127 = ((m.val % 128 : Nat) : Int) := by decide +kernel
  exact h ⟨b.toNat, b.toNat_lt⟩
theorem or_step (v k : Nat) (b : UInt8) (hv : v < 128 ^ k) (hk : k ≤ 9) (hb : k = 9 → b.toNat ≤ 1) (m : Int) (hm : m = 2 ^ (7 * k)) :
    bits .or .u64 (v : Int) (IntKind.u64.wrap (IntKind.u64.wrap (bits .and .u8 (b.toNat : Int) 127) * m)) = ((v + b.toNat % 128 * 128 ^ k : Nat) : Int) := by
  subst hm
  have hw : ∀ x : Int, IntKind.u64.wrap x = x % 18446744073709551616 := fun x => by simp [IntKind.wrap, IntKind.bits, IntKind.signed]
  have e7 : (2 : Int) ^ (7 * k) = ((128 ^ k : Nat) : Int) := by rw [Int.pow_mul]; simp
  have hlt : b.toNat % 128 * 128 ^ k < 18446744073709551616 ∧ v < 18446744073709551616 := by
    have h3 : (128 : Nat) ^ 9 = 9223372036854775808 := by decide
    by_cases h9 : k = 9
    · subst h9
      have h1 : b.toNat % 128 * 128 ^ 9 ≤ 1 * 128 ^ 9 := Nat.mul_le_mul_right _ (by have := hb rfl; omega)
      omega
    · have h1 := step_lt (b := b.toNat % 128) hv (by omega)
      have h2 : 128 ^ (k + 1) ≤ 128 ^ 9 := Nat.pow_le_pow_right (by omega) (by omega)
      omega
  rw [and127, e7, hw, hw]
  have e1 : ((b.toNat % 128 : Nat) : Int) % 18446744073709551616 = ((b.toNat % 128 : Nat) : Int) := by omega
  rw [e1, ← Int.natCast_mul]
  have e2 : ((b.toNat % 128 * 128 ^ k : Nat) : Int) % 18446744073709551616 = ((b.toNat % 128 * 128 ^ k : Nat) : Int) := by
    generalize b.toNat % 128 * 128 ^ k = q at hlt ⊢
    omega
  rw [e2, u64_or_nat _ _ hlt.2 hlt.1]
  have e128 : 128 ^ k = 2 ^ (7 * k) := by rw [Nat.pow_mul]
  rw [e128, ← Nat.shiftLeft_eq, Nat.or_comm, Nat.add_comm, Nat.shiftLeft_add_eq_or_of_lt (by rw [← e128]; exact hv)]

set_option maxRecDepth 100000 in
set_option maxHeartbeats 1000000 in
theorem rd_number (g : Nat) (s : ByteArray) (e0 : Nat) (w : World) (hr : Rdr w g s e0) (hs : s.size ≤ 9223372036854775807) :
    Calls Tryd.prog 77 #[.pointer (some ⟨g, 0, none⟩)] w fun e w' => e = .returned (.tuple #[.int .u64 (numM (toL s)).1, .int .i64 (numM (toL s)).2.1, .int .i64 (numM (toL s)).2.2]) ∧ w = w' := by
  obtain ⟨c0, c1, f0, f1, hg⟩ := hr.facts
  have HM : Hid (numM (toL s) = numGo ((toL s).drop 0) 0 0) := Lib.hid rfl
  clear hr c1 f0 f1
  go_enter Tryd.func77, Tryd.ntmps77
  go_wp2_with fail
  go_loop [5, 6, 7, 13] (fun a _ _ i => ∃ (k v : Nat), k ≤ s.size ∧ k ≤ 9 ∧ i = .int .i64 k ∧ a = .int .u64 v ∧ v < 128 ^ k ∧ Hid (numM (toL s) = numGo ((toL s).drop k) k v)) (fun _ _ _ i => s.size - (intOf i).toNat)
  case atStart => exact ⟨0, 0, by omega, by omega, rfl, rfl, by simp, HM⟩
  case round =>
    obtain ⟨k, v, hk, hk9, rfl, rfl, hv, HN⟩ := hrel
    by_cases hlt : k < s.size
    · have hN := HN.out
      rw [toL_drop_cons hlt] at hN
      have HN2 := Lib.hid hN
      clear hN HN
      have hb := s[k].toNat_lt
      by_cases hbad : (k = 9 ∧ 1 < s[k].toNat) ∨ (0 < k ∧ s[k].toNat = 0)
      · have h9 := HN2.out
        rw [numGo_bad hbad] at h9
        have H9 := Lib.hid h9
        clear h9 HN2
        rcases hbad with ⟨rfl, h2⟩ | ⟨h1, h2⟩
        · have h2' : (1 : Int) < s[9].toNat := by omega
          go_wp2_with fail
          go_ret3
          exact ⟨by rw [H9.out]; rfl, rfl⟩
        · have h3 : ((s[k].toNat : Int) == 0) = true := by rw [h2]; rfl
          have h4 : ((k : Int) == 9) = true ∨ ((k : Int) == 9) = false := by cases ((k : Int) == 9) <;> simp
          have h5 : ¬ (1 : Int) < s[k].toNat := by omega
          clear h2
          rcases h4 with h4 | h4
          all_goals
            go_wp2_with fail
            go_ret3
            exact ⟨by rw [H9.out]; rfl, rfl⟩
      · have hbn : ¬ (k = 9 ∧ 1 < s[k].toNat) ∧ ¬ (0 < k ∧ s[k].toNat = 0) := ⟨fun h => hbad (.inl h), fun h => hbad (.inr h)⟩
        have Hb := Lib.hid hbad
        have hb9 : k = 9 → s[k].toNat ≤ 1 := by omega
        have Hb9 := Lib.hid hb9
        clear hbad hb9
        by_cases h128 : s[k].toNat < 128
        · have h9 := HN2.out
          rw [numGo_end Hb.out h128] at h9
          have H9 := Lib.hid h9
          clear h9 HN2
          go_wp2_with fail
          · obtain rfl : k = 9 := by omega
            go_ret3
            exact ⟨ret3 (by rw [H9.out]; exact vint (or_step v 9 s[9] hv hk9 Hb9.out _ (by decide))) (by rw [H9.out]; rfl) (by rw [H9.out]; rfl), rfl⟩
          all_goals
            go_ret3
            exact ⟨ret3 (by rw [H9.out]; exact vint (or_step v k s[k] hv hk9 Hb9.out _ rfl)) (by rw [H9.out]; exact vint (by simp)) (by rw [H9.out]; rfl), rfl⟩
        · have h9 := HN2.out
          rw [numGo_on Hb.out h128] at h9
          have H9 := Lib.hid h9
          clear h9 HN2
          have hk8 : k ≠ 9 := fun h => by have := Hb9.out h; omega
          go_wp2_with fail
          all_goals
            go_round
            case rel => exact ⟨k + 1, v + s[k].toNat % 128 * 128 ^ k, by omega, by omega, by go_num, vint (or_step v k s[k] hv hk9 Hb9.out _ rfl), step_lt hv (by omega), H9⟩
            case measure => simp [intOf]; omega
    · go_wp2_with fail
      go_ret3
      have h9 := HN.out
      rw [List.drop_eq_nil_of_le (by simp; omega)] at h9
      exact ⟨by rw [h9]; rfl, rfl⟩

theorem Rdr.set0 {w : World} {g : Nat} {s : ByteArray} {e : Nat} (h : Rdr w g s e) (s' : ByteArray) : Rdr (w.setCell ⟨g, 0, none⟩ (.string s')) g s' e := set_blk h _
theorem Rdr.set1 {w : World} {g : Nat} {s : ByteArray} {e : Nat} (h : Rdr w g s e) (e' : Nat) : Rdr (w.setCell ⟨g, 1, none⟩ (.int .i64 e')) g s e' := set_blk h _
theorem Rdr.alloc {w : World} {g : Nat} {s : ByteArray} {e : Nat} (h : Rdr w g s e) (o : Obj) : Rdr (w.alloc o) g s e := block_below ((Below.refl _ _).alloc (Nat.le_refl _) _) h
theorem mut0 (w : World) (g o : Nat) (v : Value) : Mut (fun b => b = g) w (w.setCell ⟨g, o, none⟩ v) := Mut.setCell (T := fun b => b = g) (Mut.refl _ w) (p := ⟨g, o, none⟩) (fun _ => rfl) v

set_option maxHeartbeats 1000000 in
theorem rd_byte1 (g : Nat) (s : ByteArray) (e0 : Nat) (w : World) (hr : Rdr w g s e0) (hs : s.size ≤ 9223372036854775807) :
    Calls Tryd.prog 74 #[.pointer (some ⟨g, 0, none⟩)] w fun e w' => e = .returned (.tuple #[.int .u8 (byteOne s).1, .int .i64 (byteOne s).2.1, .int .i64 (byteOne s).2.2]) ∧ w = w' := by
  obtain ⟨c0, c1, f0, f1, hg⟩ := hr.facts
  go_enter Tryd.func74, Tryd.ntmps74
  by_cases h : 0 < s.size
  · have he := emp_false h
    go_wp2
    go_ret3
    unfold byteOne
    rw [dif_pos h]
    exact ⟨rfl, rfl⟩
  · have he := emp_true (s := s) (by omega)
    go_wp2
    go_ret3
    unfold byteOne
    rw [dif_neg h]
    exact ⟨rfl, rfl⟩

set_option maxHeartbeats 1000000 in
theorem rd_Byte (g : Nat) (s : ByteArray) (e0 : Nat) (w : World) (hr : Rdr w g s e0) (hs : s.size ≤ 9223372036854775807) :
    Calls Tryd.prog 57 #[.pointer (some ⟨g, 0, none⟩)] w fun e w' => e = .returned (.int .u8 (rdByte s e0).1) ∧ Rdr w' g (rdByte s e0).2.1 (rdByte s e0).2.2 ∧ Mut (fun b => b = g) w w' := by
  have HC := Lib.hid (fun (w : World) (hr : Rdr w g s e0) => rd_byte1 g s e0 w hr hs)
  have hle : (byteOne s).2.2 = 0 → (byteOne s).2.1 ≤ s.size := byteOne_le
  unfold rdByte
  generalize byteOne s = one at *
  obtain ⟨c0, c1, f0, f1, hg⟩ := hr.facts
  have HR := Lib.hid hr
  clear hr
  by_cases h0 : e0 = 0
  · subst h0
    by_cases h1 : one.2.2 = 0
    · have hn := hle h1
      have hb := bne_f (a := (one.2.2 : Int)) (b := 0) (by omega)
      have H1 := Lib.hid h1
      clear h1 hle
      go_enter Tryd.func57, Tryd.ntmps57
      go_wp2_with (first | (go_at_call 73; go_in) | (go_at_call 74; refine (HC.out _ HR.out).mono ?_; rintro e w1 ⟨rfl, rfl⟩))
      go_ret
      rw [takeM_ok H1.out]
      exact ⟨rfl, HR.out.set0 _, mut0 _ _ _ _⟩
    · have hb := bne_t (a := (one.2.2 : Int)) (b := 0) (by omega)
      have H1 := Lib.hid h1
      clear h1 hle
      go_enter Tryd.func57, Tryd.ntmps57
      go_wp2_with (first | (go_at_call 73; go_in) | (go_at_call 74; refine (HC.out _ HR.out).mono ?_; rintro e w1 ⟨rfl, rfl⟩))
      go_ret
      rw [takeM_bad H1.out]
      exact ⟨rfl, HR.out.set1 _, mut0 _ _ _ _⟩
  · have hb := bne_t (a := (e0 : Int)) (b := 0) (by omega)
    have H0 := Lib.hid h0
    clear h0
    go_enter Tryd.func57, Tryd.ntmps57
    go_wp2_with (first | (go_at_call 73; go_in))
    go_ret
    rw [takeM_wrong H0.out]
    exact ⟨rfl, HR.out, Mut.refl _ _⟩

set_option maxHeartbeats 1000000 in
theorem rd_Uint (g : Nat) (s : ByteArray) (e0 : Nat) (w : World) (hr : Rdr w g s e0) (hs : s.size ≤ 9223372036854775807) :
    Calls Tryd.prog 64 #[.pointer (some ⟨g, 0, none⟩)] w fun e w' => e = .returned (.int .u64 (rdUint s e0).1) ∧ Rdr w' g (rdUint s e0).2.1 (rdUint s e0).2.2 ∧ Mut (fun b => b = g) w w' := by
  have HC := Lib.hid (fun (w : World) (hr : Rdr w g s e0) => rd_number g s e0 w hr hs)
  have hle : (numM (toL s)).2.2 = 0 → (numM (toL s)).2.1 ≤ s.size := fun _ => by have := numM_range (toL s); rw [toL_length] at this; omega
  unfold rdUint
  generalize numM (toL s) = one at *
  obtain ⟨c0, c1, f0, f1, hg⟩ := hr.facts
  have HR := Lib.hid hr
  clear hr
  by_cases h0 : e0 = 0
  · subst h0
    by_cases h1 : one.2.2 = 0
    · have hn := hle h1
      have hb := bne_f (a := (one.2.2 : Int)) (b := 0) (by omega)
      have H1 := Lib.hid h1
      clear h1 hle
      go_enter Tryd.func64, Tryd.ntmps64
      go_wp2_with (first | (go_at_call 80; go_in) | (go_at_call 77; refine (HC.out _ HR.out).mono ?_; rintro e w1 ⟨rfl, rfl⟩))
      go_ret
      rw [takeM_ok H1.out]
      exact ⟨rfl, HR.out.set0 _, mut0 _ _ _ _⟩
    · have hb := bne_t (a := (one.2.2 : Int)) (b := 0) (by omega)
      have H1 := Lib.hid h1
      clear h1 hle
      go_enter Tryd.func64, Tryd.ntmps64
      go_wp2_with (first | (go_at_call 80; go_in) | (go_at_call 77; refine (HC.out _ HR.out).mono ?_; rintro e w1 ⟨rfl, rfl⟩))
      go_ret
      rw [takeM_bad H1.out]
      exact ⟨rfl, HR.out.set1 _, mut0 _ _ _ _⟩
  · have hb := bne_t (a := (e0 : Int)) (b := 0) (by omega)
    have H0 := Lib.hid h0
    clear h0
    go_enter Tryd.func64, Tryd.ntmps64
    go_wp2_with (first | (go_at_call 80; go_in))
    go_ret
    rw [takeM_wrong H0.out]
    exact ⟨rfl, HR.out, Mut.refl _ _⟩
end Go.Proofs.YthhgfdejadbigaaDoor
