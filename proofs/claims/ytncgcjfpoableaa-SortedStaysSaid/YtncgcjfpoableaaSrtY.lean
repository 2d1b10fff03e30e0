/-
  The law's alike, where the answers are alike; what ranged and the reference's Range tell.
-/
import Derived.Test.YtncgcjfpoableaaSrtX
import Derived.Test.YtncgcjfpoableaaSrtDI
set_option linter.unusedVariables false
set_option linter.unusedSimpArgs false
namespace Go.Proofs.Ytncgcjfpoableaa
open Go Go.RowKit Go.Proofs.Base
open Go.Proofs.Ytncgcjfpoableaa.srtI (RangedTo Holds PRow)
open Go.Proofs.Ytncgcjfpoableaa.refM (RMapP)
theorem ranged_any (S : Nat → Prop) (p A : Option Addr) (m c : Nat) (kind most : Int) (k : ByteArray) (l : List (KV Int)) (w : World) (h : Holds w p (.slice A m c)) (hr : PRow w S A m c l) (hs : Rises l) (hm : m ≤ 8796093022208) :
    Calls Try.prog 19 #[.pointer p, .int .i64 kind, .string k, .int .i64 most] w (RangedTo (mostK most (rangeK kind k l)) w) := by
  unfold rangeK
  by_cases h5 : kind = 5
  · subst h5; exact srtI.ranged_5 S p A m c most k l w h hr hs hm
  · rw [if_neg h5]
    by_cases h6 : kind = 6
    · subst h6; exact srtI.ranged_6 S p A m c most k l w h hr hs hm
    · rw [if_neg h6]
      by_cases h7 : kind = 7
      · subst h7; exact srtI.ranged_7 S p A m c most k l w h hr hs hm
      · rw [if_neg h7]; exact srtI.ranged_4 S p A m c kind h5 h6 h7 most k l w h hr hs hm
theorem range_any (B : Nat → Prop) (r : Nat) (kind : Int) (k : ByteArray) (l : List (KV Int)) (w : World) (h : RMapP w B r l) (hk : k.size ≤ 9223372036854775807) (ho : KeysOk l) (hn : l.length ≤ 8796093022208) (hs : Rises l) (kd : Int) (hkd : kd = kind - 3) :
    Calls Try.prog 21 #[.pointer (some ⟨r, 0, none⟩), .int .i64 kd, .string k] w (RangedTo (rangeK kind k l) w) := by
  unfold rangeK
  by_cases h5 : kind = 5
  · subst h5; subst hkd; rw [if_pos rfl, from_filter hs]; exact refM.range_2 B r k l w h hk ho hn
  · rw [if_neg h5]
    by_cases h6 : kind = 6
    · subst h6; subst hkd; rw [if_pos rfl]; exact refM.range_3 B r k l w h hk ho hn
    · rw [if_neg h6]
      by_cases h7 : kind = 7
      · subst h7; subst hkd; rw [if_pos rfl, under_filter hs]; exact refM.range_4 B r k l w h hk ho hn
      · rw [if_neg h7]; exact refM.range_1 B r kd (by omega) (by omega) (by omega) k l w h hk ho hn

set_option maxHeartbeats 2000000 in
theorem alike_loop (S : Nat → Prop) (A1 A2 A3 A4 : Option Addr) (c1 c2 c3 c4 : Nat) (most : Int) (L1 L2 : List (KV Int)) (w : World) (hL : L1 <+: L2) (hlen : L2.length ≤ 8796093022208)
    (h1 : Row w S 1 L1.length (.slice A1 L1.length c1) (keysV L1)) (h2 : Row w S 1 L1.length (.slice A2 L1.length c2) (intsV L1)) (h3 : Row w S 1 L2.length (.slice A3 L2.length c3) (keysV L2)) (h4 : Row w S 1 L2.length (.slice A4 L2.length c4) (intsV L2))
    (hm : (0 ≤ most ∧ most < (L2.length : Int) ∧ (L1.length : Int) = most) ∨ (most < 0 ∧ L1 = L2) ∨ (0 ≤ most ∧ (L2.length : Int) ≤ most ∧ L1 = L2)) :
    Calls Try.prog 20 #[.slice A1 L1.length c1, .slice A2 L1.length c2, .slice A3 L2.length c3, .slice A4 L2.length c4, .int .i64 most] w fun e w' => e = .returned (.bool true) ∧ Below w.heap.size w w' := by
  have H1 := Lib.hid h1
  have H2 := Lib.hid h2
  have H3 := Lib.hid h3
  have H4 := Lib.hid h4
  have hle := hL.length_le
  have HX : Hid (∀ i (h : i < L1.length) (h' : i < L2.length), L1[i] = L2[i]) := Lib.hid (fun i h h' => hL.getElem h)
  clear h1 h2 h3 h4 hL
  rcases hm with ⟨m0, m1, rfl⟩ | ⟨m0, rfl⟩ | ⟨m0, m1, rfl⟩
  all_goals
    go_enter Try.func20, Try.ntmps20
    go_wp2
    go_loopw [12] (fun i wr => ∃ j : Nat, j ≤ L1.length ∧ i = .int .i64 j ∧ Below w.heap.size w wr) (fun i _ => L1.length - (intOf i).toNat)
    case atStart => exact ⟨0, Nat.zero_le _, rfl, Below.refl _ _⟩
    case round =>
      obtain ⟨j, hj, rfl, hbl⟩ := hrel
      have HBL := Lib.hid hbl
      by_cases hlt : j < L1.length
      · obtain ⟨b1, o1, rfl, k1⟩ := (H1.out.below hbl).key_at hlt
        obtain ⟨b2, o2, rfl, k2⟩ := (H2.out.below hbl).int_at hlt
        obtain ⟨b3, o3, rfl, k3⟩ := (H3.out.below hbl).key_at (Nat.lt_of_lt_of_le hlt hle)
        obtain ⟨b4, o4, rfl, k4⟩ := (H4.out.below hbl).int_at (Nat.lt_of_lt_of_le hlt hle)
        try rw [← HX.out j hlt (Nat.lt_of_lt_of_le hlt hle)] at k3 k4
        generalize L1[j] = x at *
        have hq : (!(x.1.toList == x.1.toList)) = false := by simp
        have hq2 : (x.2 != x.2) = false := bne_f rfl
        clear hbl
        go_wp2
        go_quiet (fail)
        go_wp2
        go_roundw
        case rel => exact ⟨j + 1, by omega, by go_num, below_drewN HBL.out _⟩
        case measure => simp [intOf]; omega
      · obtain rfl : j = L1.length := by omega
        clear hbl
        go_wp2
        go_ret
        exact ⟨rfl, HBL.out⟩
theorem most_cases {α : Type} (most : Int) (L : List α) : mostK most L <+: L ∧ ((0 ≤ most ∧ most < (L.length : Int) ∧ ((mostK most L).length : Int) = most) ∨ (most < 0 ∧ mostK most L = L) ∨ (0 ≤ most ∧ (L.length : Int) ≤ most ∧ mostK most L = L)) := by
  unfold mostK
  by_cases h : most < 0
  · rw [if_pos h]; exact ⟨List.prefix_refl _, .inr (.inl ⟨h, rfl⟩)⟩
  · rw [if_neg h]
    refine ⟨List.take_prefix _ _, ?_⟩
    by_cases h2 : most < (L.length : Int)
    · exact .inl ⟨by omega, h2, by rw [List.length_take]; omega⟩
    · exact .inr (.inr ⟨by omega, by omega, List.take_of_length_le (by omega)⟩)
/-- rows of a call's own read as rows -/
theorem rows_of {w : World} {base e n : Nat} {v : Value} {xs : List Value} (h : w.ownsRow base e 1 v n xs) : ∃ A c, v = .slice A n c ∧ Row w (fun _ => True) 1 n (.slice A n c) xs := by
  have hr := (Row.of_own h).weaken (S' := fun _ => True) (fun _ _ _ => trivial)
  obtain ⟨A, c, hv, _⟩ := id hr.open_
  subst hv
  exact ⟨A, c, rfl, hr⟩
theorem alike_true (A1 A2 A3 A4 : Option Addr) (c1 c2 c3 c4 n1 n2 : Nat) (most : Int) (L1 L2 : List (KV Int)) (w : World) (e1 : L1 = mostK most L2) (hlen : L2.length ≤ 8796093022208) (hn1 : n1 = L1.length) (hn2 : n2 = L2.length)
    (h1 : Row w (fun _ => True) 1 n1 (.slice A1 n1 c1) (keysV L1)) (h2 : Row w (fun _ => True) 1 n1 (.slice A2 n1 c2) (intsV L1)) (h3 : Row w (fun _ => True) 1 n2 (.slice A3 n2 c3) (keysV L2)) (h4 : Row w (fun _ => True) 1 n2 (.slice A4 n2 c4) (intsV L2)) :
    Calls Try.prog 20 #[.slice A1 n1 c1, .slice A2 n1 c2, .slice A3 n2 c3, .slice A4 n2 c4, .int .i64 most] w fun e w' => e = .returned (.bool true) ∧ Below w.heap.size w w' := by
  subst hn1 hn2 e1
  obtain ⟨k1, k2⟩ := most_cases most L2
  exact alike_loop _ A1 A2 A3 A4 c1 c2 c3 c4 most _ L2 w k1 hlen h1 h2 h3 h4 k2
end Go.Proofs.Ytncgcjfpoableaa
