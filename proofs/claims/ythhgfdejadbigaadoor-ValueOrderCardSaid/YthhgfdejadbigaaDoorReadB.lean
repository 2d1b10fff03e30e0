/-
  The walks of wire's reader: numbers with a sign, texts, why it is wrong.
-/
import Derived.Test.YthhgfdejadbigaaDoorRead
set_option linter.unusedVariables false
set_option linter.unusedSimpArgs false
namespace Go.Proofs.YthhgfdejadbigaaDoor
open Go Go.RowKit Go.Proofs.Base

theorem xor_unzig (v : Nat) (hv : v < 18446744073709551616) (x : Int) (hx : x = wrap64 (-wrap64 (bits .and .u64 (v : Int) 1))) :
    bits .xor .i64 ((v : Int) / 2) x = unzig v := by
  subst hx
  have hw : ∀ x : Int, IntKind.i64.wrap x = (x + 9223372036854775808) % 18446744073709551616 - 9223372036854775808 := fun x => IntKind.wrap_i64 x
  have hb : ∀ a b : Int, bits .xor .i64 a b = IntKind.i64.wrap ((BitVec.ofInt 64 a ^^^ BitVec.ofInt 64 b).toNat : Int) := fun a b => rfl
  have e1 : bits .and .u64 (v : Int) 1 = ((v % 2 : Nat) : Int) := by
    have := u64_and_nat v 1 hv (by decide)
    rw [show ((1 : Nat) : Int) = 1 from rfl] at this
    rw [this, Nat.and_one_is_mod]
  rw [e1, hb, hw]
  unfold unzig
  have e2 : ((v : Int) / 2) = ((v / 2 : Nat) : Int) := by omega
  rw [e2]
  have hq : v / 2 < 9223372036854775808 := by omega
  by_cases h2 : v % 2 = 0
  · rw [h2, if_pos rfl]
    have e3 : wrap64 (-wrap64 ((0 : Nat) : Int)) = 0 := by unfold wrap64; omega
    have e4 : BitVec.ofInt 64 0 = 0#64 := by decide
    rw [e3, e4, BitVec.xor_zero, BitVec.toNat_ofInt]
    generalize v / 2 = q at hq
    omega
  · have h3 : v % 2 = 1 := by omega
    rw [h3, if_neg (by decide)]
    have e3 : wrap64 (-wrap64 ((1 : Nat) : Int)) = -1 := by unfold wrap64; omega
    have e4 : BitVec.ofInt 64 (-1) = BitVec.allOnes 64 := by decide
    rw [e3, e4, BitVec.xor_allOnes, BitVec.toNat_not, BitVec.toNat_ofInt]
    generalize v / 2 = q at hq
    omega

set_option maxHeartbeats 1000000 in
theorem rd_signed (g : Nat) (s : ByteArray) (e0 : Nat) (w : World) (hr : Rdr w g s e0) (hs : s.size ≤ 9223372036854775807) :
    Calls Tryd.prog 79 #[.pointer (some ⟨g, 0, none⟩)] w fun e w' => e = .returned (.tuple #[.int .i64 (intOne s).1, .int .i64 (intOne s).2.1, .int .i64 (intOne s).2.2]) ∧ w = w' := by
  have HC := Lib.hid (rd_number g s e0 w hr hs)
  have h1 := numM_range (toL s)
  unfold intOne
  generalize numM (toL s) = one at *
  clear hr
  go_enter Tryd.func79, Tryd.ntmps79
  go_wp2_with (go_at_call 77; refine HC.out.mono ?_; rintro e w1 ⟨rfl, rfl⟩)
  go_ret3
  exact ⟨ret3 (vint (xor_unzig _ h1.1 _ rfl)) rfl rfl, rfl⟩

set_option maxHeartbeats 1000000 in
theorem rd_Text1 (g B1 B2 : Nat) (s : ByteArray) (e0 : Nat) (most : Int) (w : World) (hr : Rdr w g s e0) (hs : s.size ≤ 9223372036854775807) (hc1 : w.cell? ⟨B1, 0, none⟩ = some (.pointer (some ⟨g, 0, none⟩))) (hc2 : w.cell? ⟨B2, 0, none⟩ = some (.int .i64 most)) (hm0 : -9223372036854775808 ≤ most) (hm : most ≤ 9223372036854775807) :
    Calls Tryd.prog 76 #[.pointer (some ⟨B1, 0, none⟩), .pointer (some ⟨B2, 0, none⟩)] w fun e w' => e = .returned (.tuple #[.string (textOne s most).1, .int .i64 (textOne s most).2.1, .int .i64 (textOne s most).2.2]) ∧ w = w' := by
  obtain ⟨c0, c1, f0, f1, hg⟩ := hr.facts
  have HC := Lib.hid (rd_number g s e0 w hr hs)
  have h1 := numM_range (toL s)
  rw [toL_length] at h1
  unfold textOne
  generalize numM (toL s) = one at *
  clear hr c1 f0 f1
  by_cases h2 : one.2.2 = 0
  · have hb := bne_f (a := (one.2.2 : Int)) (b := 0) (by omega)
    rw [if_neg (by omega : ¬ one.2.2 ≠ 0)]
    by_cases h3 : most < 0
    · rw [if_pos (.inl h3)]
      have H2 := Lib.hid h2
      clear h2
      go_enter Tryd.func76, Tryd.ntmps76
      go_wp2_with (go_at_call 77; refine HC.out.mono ?_; rintro e w1 ⟨rfl, rfl⟩)
      go_ret3
      exact ⟨rfl, rfl⟩
    · by_cases h4 : most < one.1
      · rw [if_pos (.inr h4)]
        have H2 := Lib.hid h2
        clear h2
        go_enter Tryd.func76, Tryd.ntmps76
        go_wp2_with (go_at_call 77; refine HC.out.mono ?_; rintro e w1 ⟨rfl, rfl⟩)
        go_ret3
        exact ⟨rfl, rfl⟩
      · rw [if_neg (by omega : ¬ (most < 0 ∨ most < one.1))]
        by_cases h5 : s.size - one.2.1 < one.1
        · rw [if_pos h5]
          have H2 := Lib.hid h2
          clear h2
          go_enter Tryd.func76, Tryd.ntmps76
          go_wp2_with (go_at_call 77; refine HC.out.mono ?_; rintro e w1 ⟨rfl, rfl⟩)
          go_ret3
          exact ⟨rfl, rfl⟩
        · rw [if_neg h5]
          have H2 := Lib.hid h2
          clear h2
          go_enter Tryd.func76, Tryd.ntmps76
          go_wp2_with (go_at_call 77; refine HC.out.mono ?_; rintro e w1 ⟨rfl, rfl⟩)
          go_ret3
          exact ⟨ret3 rfl (vint (by simp)) rfl, rfl⟩
  · have hb := bne_t (a := (one.2.2 : Int)) (b := 0) (by omega)
    rw [if_pos h2]
    have H2 := Lib.hid h2
    clear h2
    go_enter Tryd.func76, Tryd.ntmps76
    go_wp2_with (go_at_call 77; refine HC.out.mono ?_; rintro e w1 ⟨rfl, rfl⟩)
    go_ret3
    exact ⟨rfl, rfl⟩

set_option maxHeartbeats 1000000 in
theorem rd_Int (g : Nat) (s : ByteArray) (e0 : Nat) (w : World) (hr : Rdr w g s e0) (hs : s.size ≤ 9223372036854775807) :
    Calls Tryd.prog 59 #[.pointer (some ⟨g, 0, none⟩)] w fun e w' => e = .returned (.int .i64 (rdInt s e0).1) ∧ Rdr w' g (rdInt s e0).2.1 (rdInt s e0).2.2 ∧ Mut (fun b => b = g) w w' := by
  have HC := Lib.hid (fun (w : World) (hr : Rdr w g s e0) => rd_signed g s e0 w hr hs)
  have hle : (intOne s).2.2 = 0 → (intOne s).2.1 ≤ s.size := fun _ => by have := numM_range (toL s); rw [toL_length] at this; unfold intOne; show (numM (toL s)).2.1 ≤ _; omega
  unfold rdInt
  generalize intOne s = one at *
  obtain ⟨c0, c1, f0, f1, hg⟩ := hr.facts
  have HR := Lib.hid hr
  clear hr
  by_cases h0 : e0 = 0
  · subst h0
    by_cases h1 : one.2.2 = 0
    · have hn := hle h1
      have hb := bne_f (a := (one.2.2 : Int)) (b := 0) (by omega)
      have H1 := Lib.hid h1
      clear h1 hle
      go_enter Tryd.func59, Tryd.ntmps59
      go_wp2_with (first | (go_at_call 78; go_in) | (go_at_call 79; refine (HC.out _ HR.out).mono ?_; rintro e w1 ⟨rfl, rfl⟩))
      go_ret
      rw [takeM_ok H1.out]
      exact ⟨rfl, HR.out.set0 _, mut0 _ _ _ _⟩
    · have hb := bne_t (a := (one.2.2 : Int)) (b := 0) (by omega)
      have H1 := Lib.hid h1
      clear h1 hle
      go_enter Tryd.func59, Tryd.ntmps59
      go_wp2_with (first | (go_at_call 78; go_in) | (go_at_call 79; refine (HC.out _ HR.out).mono ?_; rintro e w1 ⟨rfl, rfl⟩))
      go_ret
      rw [takeM_bad H1.out]
      exact ⟨rfl, HR.out.set1 _, mut0 _ _ _ _⟩
  · have hb := bne_t (a := (e0 : Int)) (b := 0) (by omega)
    have H0 := Lib.hid h0
    clear h0
    go_enter Tryd.func59, Tryd.ntmps59
    go_wp2_with (first | (go_at_call 78; go_in))
    go_ret
    rw [takeM_wrong H0.out]
    exact ⟨rfl, HR.out, Mut.refl _ _⟩

set_option maxHeartbeats 1000000 in
theorem rd_Text (g : Nat) (s : ByteArray) (e0 : Nat) (most : Int) (w : World) (hr : Rdr w g s e0) (hs : s.size ≤ 9223372036854775807) (hm0 : -9223372036854775808 ≤ most) (hm : most ≤ 9223372036854775807) :
    Calls Tryd.prog 58 #[.pointer (some ⟨g, 0, none⟩), .int .i64 most] w fun e w' => e = .returned (.string (rdText most s e0).1) ∧ Rdr w' g (rdText most s e0).2.1 (rdText most s e0).2.2 ∧ Mut (fun b => b = g) w w' := by
  have hb2 : Below w.heap.size w ((w.alloc (.cells #[.pointer (some ⟨g, 0, none⟩)] 48)).alloc (.cells #[.int .i64 most] 3)) := ((Below.refl _ _).alloc (Nat.le_refl _) _).alloc (by simp) _
  have hr2 : Rdr ((w.alloc (.cells #[.pointer (some ⟨g, 0, none⟩)] 48)).alloc (.cells #[.int .i64 most] 3)) g s e0 := block_below hb2 hr
  have HC2 := Lib.hid (rd_Text1 g w.heap.size (w.heap.size + 1) s e0 most _ hr2 hs (by simp) (by simp) hm0 hm)
  have hle : (textOne s most).2.2 = 0 → (textOne s most).2.1 ≤ s.size := textOne_le
  unfold rdText
  generalize textOne s most = one at *
  obtain ⟨c0, c1, f0, f1, hg⟩ := hr.facts
  have HR := Lib.hid hr
  have HR2 := Lib.hid hr2
  have HB2 := Lib.hid hb2
  clear hr hr2 hb2
  by_cases h0 : e0 = 0
  · subst h0
    by_cases h1 : one.2.2 = 0
    · have hn := hle h1
      have hb := bne_f (a := (one.2.2 : Int)) (b := 0) (by omega)
      have H1 := Lib.hid h1
      clear h1 hle
      go_enter Tryd.func58, Tryd.ntmps58
      go_wp2_with (first | (go_at_call 75; go_in) | (go_at_call 76; refine HC2.out.mono ?_; rintro e w1 ⟨rfl, rfl⟩))
      go_ret
      rw [takeM_ok H1.out]
      exact ⟨rfl, ((HR.out.set0 _).alloc _).alloc _, ((mut0 _ _ _ _).alloc _).alloc _⟩
    · have hb := bne_t (a := (one.2.2 : Int)) (b := 0) (by omega)
      have H1 := Lib.hid h1
      clear h1 hle
      go_enter Tryd.func58, Tryd.ntmps58
      go_wp2_with (first | (go_at_call 75; go_in) | (go_at_call 76; refine HC2.out.mono ?_; rintro e w1 ⟨rfl, rfl⟩))
      go_ret
      rw [takeM_bad H1.out]
      exact ⟨rfl, ((HR.out.set1 _).alloc _).alloc _, ((mut0 _ _ _ _).alloc _).alloc _⟩
  · have hb := bne_t (a := (e0 : Int)) (b := 0) (by omega)
    have H0 := Lib.hid h0
    clear h0
    go_enter Tryd.func58, Tryd.ntmps58
    go_wp2_with (first | (go_at_call 75; go_in))
    go_ret
    rw [takeM_wrong H0.out]
    exact ⟨rfl, HR2.out, Mut.of_below HB2.out _⟩

set_option maxHeartbeats 1000000 in
theorem rd_Err (g : Nat) (s : ByteArray) (e0 : Nat) (w : World) (hr : Rdr w g s e0) :
    Calls Tryd.prog 60 #[.pointer (some ⟨g, 0, none⟩)] w fun e w' => e = .returned (.int .i64 e0) ∧ w = w' := by
  obtain ⟨c0, c1, f0, f1, hg⟩ := hr.facts
  go_enter Tryd.func60, Tryd.ntmps60
  go_wp2
  go_ret
  exact ⟨rfl, rfl⟩

/-- End: Err, or that bytes are left. -/
def rdEnd (s : ByteArray) (e : Nat) : Nat := if e = 0 ∧ 0 < s.size then 3 else e
set_option maxHeartbeats 1000000 in
theorem wire_Read (s : ByteArray) (w : World) :
    Calls Tryd.prog 31 #[.string s] w fun e w' => e = .returned (.pointer (some ⟨w.heap.size, 0, none⟩)) ∧ Rdr w' w.heap.size s 0 ∧ Below w.heap.size w w' := by
  go_enter Tryd.func31, Tryd.ntmps31
  go_wp2
  go_ret
  exact ⟨rfl, heap_alloc_new w _, (Below.refl _ _).alloc (Nat.le_refl _) _⟩
end Go.Proofs.YthhgfdejadbigaaDoor
