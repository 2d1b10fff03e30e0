/-
  The walks of sorted.Map[int]: its order, the search, the place of a key, what a key has.
-/
import Derived.Test.YtncgcjfpoableaaSrtP
import Derived.Test.YtncgcjfpoableaaProg
import Derived.Deep.LoopGhost
set_option linter.unusedVariables false
set_option linter.unusedSimpArgs false
namespace Go.Proofs.Ytncgcjfpoableaa.srtI
open Go Go.RowKit Go.Proofs.Base

theorem eP : ElemT Try.prog 68 74 2 24 := ElemT.of (z := .agg #[.string ⟨#[]⟩, .int .i64 0]) Try.underlying68 (by kernel_rfl) rfl
theorem oneE : ∀ v : Int, ((Value.int .i64) v).oneCell' = true := fun _ => rfl
/-- what a map's pointer holds: nothing, where it is nil -/
def Holds (w : World) (p : Option Addr) (sv : Value) : Prop := (p = none ∧ sv = .slice none 0 0) ∨ ∃ b, p = some ⟨b, 0, none⟩ ∧ w.cell? ⟨b, 0, none⟩ = some sv
theorem Holds.below {w w' : World} {p : Option Addr} {sv : Value} (h : Holds w p sv) (hb : Below w.heap.size w w') : Holds w' p sv := by
  rcases h with h | ⟨b, hp, hc⟩
  · exact .inl h
  · exact .inr ⟨b, hp, cell_below hb hc⟩
/-- the pairs of a slice value -/
def PRow (w : World) (S : Nat → Prop) (A : Option Addr) (n c : Nat) (l : List (KV Int)) : Prop := l.length = n ∧ Row w S 2 n (.slice A n c) (pcells (Value.int .i64) l)
theorem PRow.at_ {w : World} {S : Nat → Prop} {A : Option Addr} {n c : Nat} {l : List (KV Int)} (h : PRow w S A n c l) {k : Nat} (hk : k < l.length) :
    ∃ b o, A = some ⟨b, o, none⟩ ∧ S b ∧ b < w.heap.size ∧ w.cell? ⟨b, o + k * 2, none⟩ = some (.string l[k].1) ∧ w.cell? ⟨b, o + k * 2 + 1, none⟩ = some ((Value.int .i64) l[k].2) := by
  obtain ⟨b, o, hA, hS, hlt, hc⟩ := h.2.at_ (by have := h.1; omega)
  obtain ⟨h0, h1⟩ := pcells_at (Value.int .i64) hk
  exact ⟨b, o, hA, hS, hlt, by simpa using hc k 0 _ h0, hc k 1 _ h1⟩
theorem PRow.below {w w' : World} {S : Nat → Prop} {A : Option Addr} {n c : Nat} {l : List (KV Int)} (h : PRow w S A n c l) (hb : Below w.heap.size w w') : PRow w' S A n c l := ⟨h.1, h.2.below hb⟩
theorem PRow.le {w : World} {S : Nat → Prop} {A : Option Addr} {n c : Nat} {l : List (KV Int)} (h : PRow w S A n c l) : n ≤ c ∧ c ≤ 9223372036854775807 := by
  obtain ⟨A', c', e, h1, h2⟩ := h.2.open_
  injection e with _ _ e
  subst e
  exact ⟨h1, h2⟩

set_option maxRecDepth 100000 in
theorem bl_Compare (a b : ByteArray) (w : World) :
    Calls Try.prog 55 #[.string a, .string b] w fun e w' => e = .returned (.int .i64 (cmpS a b)) ∧ w = w' := by
  go_enter Try.func55, Try.ntmps55
  go_wp2
  rw [run_callFunc_extern Try.func56 (by kernel_rfl) (by kernel_rfl) (by kernel_rfl) (e := Extern.BytealgCompare.compare) (by kernel_rfl), Lib.run_compareString]
  simp only [Result.andThen]
  rw [Oper.upon_value]
  go_wp2
  go_ret
  exact ⟨rfl, rfl⟩
theorem str_Compare (a b : ByteArray) (w : World) :
    Calls Try.prog 47 #[.string a, .string b] w fun e w' => e = .returned (.int .i64 (cmpS a b)) ∧ w = w' := by
  go_enter Try.func47, Try.ntmps47
  go_wp2_with (go_at_call 55; refine (bl_Compare _ _ _).mono ?_; rintro e w' ⟨rfl, rfl⟩)
  go_ret
  exact ⟨rfl, rfl⟩

theorem cmp1 (x : KV Int) (k : ByteArray) (w : World) :
    Calls Try.prog 52 #[.agg #[.string x.1, (Value.int .i64) x.2], .string k] w fun e w' => e = .returned (.int .i64 (cmpS x.1 k)) ∧ Below w.heap.size w w' := by
  go_enter Try.func52, Try.ntmps52
  go_wp2_with (go_at_call 47; refine (str_Compare _ _ _).mono ?_; rintro e w' ⟨rfl, rfl⟩)
  go_ret
  exact ⟨rfl, (Below.refl _ _).alloc (Nat.le_refl _) _⟩

set_option maxRecDepth 100000 in
set_option maxHeartbeats 2000000 in
theorem search (S : Nat → Prop) (A : Option Addr) (n c : Nat) (k : ByteArray) (l : List (KV Int)) (w : World) (hn : n < 4611686018427387904) (hr : PRow w S A n c l) (hs : Rises l) :
    Calls Try.prog 51 #[.slice A n c, .string k, .func (.func 52) #[] #[]] w
      fun e w' => e = .returned (.tuple #[.int .i64 (idxK k l : Nat), .bool (hasK k l)]) ∧ Below w.heap.size w w' := by
  have HL := Lib.hid hr.1
  have HR := Lib.hid hr
  have HM : Hid (∀ a b (ha : a < l.length) (hb : b < l.length), a < b → lessS l[a].1 l[b].1 = true) := Lib.hid (fun a b ha hb hab => List.pairwise_iff_getElem.1 hs a b ha hb hab)
  have hcn := hr.le
  clear hr hs
  go_enter Try.func51, Try.ntmps51
  go_wp2_with fail
  go_loopw [9, 10] (fun s9 s10 wr => ∃ lo hi : Nat, s9 = .int .i64 lo ∧ s10 = .int .i64 hi ∧ lo ≤ hi ∧ hi ≤ n ∧ Hid ((∀ t (h : t < l.length), t < lo → lessS l[t].1 k = true) ∧ (∀ t (h : t < l.length), hi ≤ t → lessS l[t].1 k = false)) ∧ Below w.heap.size w wr) (fun s9 s10 _ => (intOf s10).toNat - (intOf s9).toNat)
  case atStart => exact ⟨0, n, rfl, rfl, Nat.zero_le _, Nat.le_refl _, Lib.hid ⟨fun t _ ht => absurd ht (Nat.not_lt_zero _), fun t h1 h2 => by rw [HL.out] at h1; omega⟩, Below.refl _ _⟩
  case round =>
    obtain ⟨lo, hi, rfl, rfl, hlh, hin, HI, hbl⟩ := hrel
    have HBL := Lib.hid hbl
    by_cases hlt : lo < hi
    · have hk1 : (lo + hi) / 2 < l.length := by rw [HL.out]; omega
      obtain ⟨b, o, rfl, _, _, c0, c1⟩ := (HR.out.below hbl).at_ hk1
      have HLE : Hid (∀ t (h : t < l.length), t < (lo + hi) / 2 → lessS l[t].1 l[(lo + hi) / 2].1 = true) := Lib.hid (fun t h ht => HM.out t _ h hk1 ht)
      have HGE : Hid (∀ t (h : t < l.length), (lo + hi) / 2 < t → lessS l[(lo + hi) / 2].1 l[t].1 = true) := Lib.hid (fun t h ht => HM.out _ t hk1 h ht)
      have HEQ : Hid (∀ (h : (lo + hi) / 2 < l.length), l[(lo + hi) / 2] = l[(lo + hi) / 2]) := Lib.hid (fun h => rfl)
      generalize hx0 : l[(lo + hi) / 2] = x at c0 c1 HLE HGE
      have HX0 := Lib.hid hx0
      clear hbl hx0 HEQ
      by_cases hx : lessS x.1 k = true
      · have hd : decide (cmpS x.1 k < 0) = true := decide_eq_true ((lessS_cmp _ _).2 hx)
        have HX := Lib.hid hx
        clear hx
        go_wp2_with (go_at_call 52; refine (cmp1 x k _).mono ?_; rintro e w1 ⟨rfl, hb1⟩)
        go_roundw
        case rel => exact ⟨(lo + hi) / 2 + 1, hi, by rw [show ((lo : Int) + (hi : Int)) / 2 + 1 = (((lo + hi) / 2 + 1 : Nat) : Int) by omega], rfl, by omega, hin, Lib.hid ⟨fun t h ht => by
            by_cases he : t = (lo + hi) / 2
            · subst he; rw [HX0.out]; exact HX.out
            · exact lessS_trans (HLE.out t h (by omega)) HX.out, HI.out.2⟩, below2 HBL.out hb1⟩
        case measure => simp [intOf]; omega
      · have hx2 : lessS x.1 k = false := by simpa using hx
        have hd : decide (cmpS x.1 k < 0) = false := decide_eq_false (fun h => hx ((lessS_cmp _ _).1 h))
        have HX := Lib.hid hx2
        clear hx hx2
        go_wp2_with (go_at_call 52; refine (cmp1 x k _).mono ?_; rintro e w1 ⟨rfl, hb1⟩)
        go_roundw
        case rel => exact ⟨lo, (lo + hi) / 2, rfl, by rw [show ((lo : Int) + (hi : Int)) / 2 = (((lo + hi) / 2 : Nat) : Int) by omega], by omega, by omega, Lib.hid ⟨HI.out.1, fun t h ht => by
            by_cases he : t = (lo + hi) / 2
            · subst he; rw [HX0.out]; exact HX.out
            · cases h9 : lessS l[t].1 k with
              | false => rfl
              | true => have := lessS_trans (HGE.out t h (by omega)) h9; rw [HX.out] at this; cases this⟩, below2 HBL.out hb1⟩
        case measure => simp [intOf]; omega
    · obtain rfl : hi = lo := by omega
      have HIX : Hid (idxK k l = hi) := Lib.hid (idx_of (by rw [HL.out]; exact hin) (fun t h ht => HI.out.1 t h ht) (fun t h ht => HI.out.2 t h ht))
      by_cases hlen : hi < n
      · have hk1 : hi < l.length := by rw [HL.out]; exact hlen
        obtain ⟨b, o, rfl, _, _, c0, c1⟩ := (HR.out.below hbl).at_ hk1
        generalize hx0 : l[hi] = x at c0 c1
        have HH : Hid (hasK k l = decide (cmpS x.1 k = 0)) := Lib.hid (by
          rw [Bool.eq_iff_iff, hasK_iff, decide_eq_true_eq, cmpS_eq]
          constructor
          · rintro ⟨h, e⟩; rw [← hx0, ← e]; exact (congrArg Prod.fst (getElem_of_eq' rfl HIX.out h hk1)).symm
          · intro e; exact ⟨by rw [HIX.out]; exact hk1, (congrArg Prod.fst (getElem_of_eq' rfl HIX.out _ hk1)).trans ((congrArg Prod.fst hx0).trans e)⟩)
        clear hbl hx0 hk1
        go_wp2_with (go_at_call 52; refine (cmp1 x k _).mono ?_; rintro e w1 ⟨rfl, hb1⟩)
        go_ret2
        exact ⟨by rw [HIX.out, HH.out]; exact ret2 rfl (vbool (by first | rfl | (rw [Bool.eq_iff_iff]; simp))), below2 HBL.out hb1⟩
      · have HH : Hid (hasK k l = false) := Lib.hid (by
          cases h : hasK k l with
          | false => rfl
          | true => obtain ⟨h2, _⟩ := hasK_iff.1 h; rw [HIX.out, HL.out] at h2; omega)
        go_wp2_with fail
        go_ret2
        exact ⟨by rw [HIX.out, HH.out]; exact ret2 rfl rfl, HBL.out⟩

theorem pairs_any (p : Option Addr) (A : Option Addr) (n c : Nat) (w : World) (h : Holds w p (.slice A n c)) :
    Calls Try.prog 37 #[.pointer p] w fun e w' => e = .returned (.slice A n c) ∧ w = w' := by
  rcases h with ⟨rfl, e⟩ | ⟨b, rfl, hc⟩
  · injection e with e1 e2 e3
    subst e1 e2 e3
    go_enter Try.func37, Try.ntmps37
    go_wp2
    go_ret
    exact ⟨rfl, rfl⟩
  · go_enter Try.func37, Try.ntmps37
    go_wp2
    go_ret
    exact ⟨rfl, rfl⟩

theorem find_any (S : Nat → Prop) (p : Option Addr) (A : Option Addr) (n c : Nat) (k : ByteArray) (l : List (KV Int)) (w : World) (h : Holds w p (.slice A n c)) (hn : n < 4611686018427387904) (hr : PRow w S A n c l) (hs : Rises l) :
    Calls Try.prog 40 #[.pointer p, .string k] w fun e w' => e = .returned (.tuple #[.int .i64 (idxK k l : Nat), .bool (hasK k l)]) ∧ Below w.heap.size w w' := by
  have h1 := pairs_any p A n c w h
  have h2 := search S A n c k l w hn hr hs
  go_enter Try.func40, Try.ntmps40
  go_wp2_with (first | (go_at_call 37; refine h1.mono ?_; rintro e w' ⟨rfl, rfl⟩) | (go_at_call 51; refine h2.mono ?_; rintro e w1 ⟨rfl, hb1⟩; have HB := Lib.hid hb1; clear hb1))
  go_ret2
  exact ⟨rfl, HB.out⟩

theorem len_any (p : Option Addr) (A : Option Addr) (n c : Nat) (w : World) (h : Holds w p (.slice A n c)) :
    Calls Try.prog 18 #[.pointer p] w fun e w' => e = .returned (.int .i64 (n : Nat)) ∧ w = w' := by
  have h1 := pairs_any p A n c w h
  go_enter Try.func18, Try.ntmps18
  go_wp2_with (go_at_call 37; refine h1.mono ?_; rintro e w' ⟨rfl, rfl⟩)
  go_ret
  exact ⟨rfl, rfl⟩

theorem new_any (w : World) :
    Calls Try.prog 16 #[] w fun e w' => e = .returned (.pointer (some ⟨w.heap.size, 0, none⟩)) ∧ w' = w.alloc (.cells #[.slice none 0 0] 70) := by
  go_enter Try.func16, Try.ntmps16
  go_wp2
  go_ret
  exact ⟨rfl, rfl⟩
end Go.Proofs.Ytncgcjfpoableaa.srtI
