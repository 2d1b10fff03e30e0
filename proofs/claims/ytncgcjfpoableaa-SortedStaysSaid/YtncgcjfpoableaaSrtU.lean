/-
  The walks of the reference's order of texts, and of its map's place of a key.
-/
import Derived.Test.YtncgcjfpoableaaSrtK
import Derived.Test.YtncgcjfpoableaaSrtQ
set_option linter.unusedVariables false
set_option linter.unusedSimpArgs false
namespace Go.Proofs.Base
open Go Go.RowKit
def lessFrom (a b : ByteArray) (k : Nat) : Bool := Op.bytesLess (a.data.toList.drop k) (b.data.toList.drop k)
theorem lessFrom_zero (a b : ByteArray) : lessFrom a b 0 = lessS a b := rfl
theorem drop_at (a : ByteArray) {k : Nat} (h : k < a.size) : a.data.toList.drop k = a[k] :: a.data.toList.drop (k + 1) := by
  rw [List.drop_eq_getElem_cons (by simpa using h)]; rfl
theorem lessFrom_eq {a b : ByteArray} {k : Nat} (ha : k < a.size) (hb : k < b.size) (h : a[k] = b[k]) : lessFrom a b k = lessFrom a b (k + 1) := by
  unfold lessFrom
  rw [drop_at a ha, drop_at b hb, h]
  conv => lhs; unfold Op.bytesLess
  have : ¬ b[k] < b[k] := by rw [UInt8.lt_iff_toNat_lt]; omega
  simp [this]
theorem lessFrom_ne {a b : ByteArray} {k : Nat} (ha : k < a.size) (hb : k < b.size) (h : a[k] ≠ b[k]) : lessFrom a b k = decide ((a[k].toNat : Int) < (b[k].toNat : Int)) := by
  unfold lessFrom
  rw [drop_at a ha, drop_at b hb]
  unfold Op.bytesLess
  rw [Bool.eq_iff_iff]
  simp [h, UInt8.lt_iff_toNat_lt]
theorem lessFrom_end {a b : ByteArray} {k : Nat} (ha : k ≤ a.size) (hb : k ≤ b.size) (h : ¬ (k < a.size ∧ k < b.size)) : lessFrom a b k = decide ((a.size : Int) < (b.size : Int)) := by
  unfold lessFrom
  by_cases h1 : k < a.size
  · have e2 : k = b.size := by omega
    rw [drop_at a h1, List.drop_of_length_le (l := b.data.toList) (by rw [show b.data.toList.length = b.size from toL_length b]; omega)]
    unfold Op.bytesLess
    symm; rw [decide_eq_false_iff_not]; omega
  · rw [List.drop_of_length_le (l := a.data.toList) (by rw [show a.data.toList.length = a.size from toL_length a]; omega)]
    by_cases h2 : k < b.size
    · rw [drop_at b h2]
      unfold Op.bytesLess
      symm; rw [decide_eq_true_eq]; omega
    · rw [List.drop_of_length_le (l := b.data.toList) (by rw [show b.data.toList.length = b.size from toL_length b]; omega)]
      unfold Op.bytesLess
      symm; rw [decide_eq_false_iff_not]; omega
end Go.Proofs.Base
namespace Go.Proofs.Ytncgcjfpoableaa
open Go Go.RowKit Go.Proofs.Base
set_option maxHeartbeats 1000000 in
theorem ref_Less (a b : ByteArray) (w : World) (ha : a.size ≤ 9223372036854775807) (hb : b.size ≤ 9223372036854775807) :
    Calls Try.prog 14 #[.string a, .string b] w fun e w' => e = .returned (.bool (lessS a b)) ∧ Below w.heap.size w w' := by
  go_enter Try.func14, Try.ntmps14
  go_wp2
  go_loopw [5] (fun i wr => ∃ k : Nat, k ≤ a.size ∧ k ≤ b.size ∧ i = .int .i64 k ∧ Hid (lessS a b = lessFrom a b k) ∧ Below w.heap.size w wr) (fun i _ => a.size - (intOf i).toNat)
  case atStart => exact ⟨0, Nat.zero_le _, Nat.zero_le _, rfl, Lib.hid rfl, Below.refl _ _⟩
  case round =>
    obtain ⟨k, hka, hkb, rfl, HL, hbl⟩ := hrel
    have HBL := Lib.hid hbl
    clear hbl
    by_cases hlt : k < a.size ∧ k < b.size
    · obtain ⟨h1, h2⟩ := hlt
      by_cases he : a[k] = b[k]
      · have hq : ((a[k].toNat : Int) != (b[k].toNat : Int)) = false := bne_f (by rw [he])
        have HN := Lib.hid (lessFrom_eq h1 h2 he)
        clear he
        go_wp2
        go_quiet (fail)
        go_wp2
        go_roundw
        case rel => exact ⟨k + 1, by omega, by omega, by go_num, Lib.hid (HL.out.trans HN.out), below_drewN HBL.out _⟩
        case measure => simp [intOf]; omega
      · have hne : (a[k].toNat : Int) ≠ (b[k].toNat : Int) := fun h => he (UInt8.toNat_inj.1 (by exact_mod_cast h))
        have hq : ((a[k].toNat : Int) != (b[k].toNat : Int)) = true := bne_t hne
        have HN := Lib.hid (lessFrom_ne h1 h2 he)
        clear he hne
        go_wp2
        go_quiet (fail)
        go_wp2
        go_quiet (fail)
        go_wp2
        go_ret
        exact ⟨by rw [HL.out, HN.out]; exact ret1 (vbool (by first | rfl | simp)), below_drewN (below_drewN HBL.out _) _⟩
    · have HN := Lib.hid (lessFrom_end hka hkb hlt)
      by_cases h1 : k < a.size
      · have h2 : k = b.size := by omega
        subst h2
        go_wp2
        go_ret
        exact ⟨by rw [HL.out, HN.out]; exact ret1 (vbool (by first | rfl | simp)), HBL.out⟩
      · have h2 : k = a.size := by omega
        subst h2
        go_wp2
        go_ret
        exact ⟨by rw [HL.out, HN.out]; exact ret1 (vbool (by first | rfl | simp)), HBL.out⟩
end Go.Proofs.Ytncgcjfpoableaa
