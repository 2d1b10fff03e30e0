/-
  The walks of strings.Compare, of the order by which value.Put searches, and of slices.BinarySearchFunc over variables.
-/
import Derived.Test.YthhgfdejadbigaaDoorGen
import Derived.Lib.Bytealg
import Derived.Deep.LoopGhost
set_option linter.unusedVariables false
set_option linter.unusedSimpArgs false
namespace Go.Proofs.Base
open Go Go.RowKit
/-- a name against another one -/
def cmpS (a b : ByteArray) : Int := Lib.compareBytes a.data.toList b.data.toList
/-- the name at a place against a name -/
def cAt (name : ByteArray) (l : List GVar) (k : Nat) : Int := match l[k]? with | some x => cmpS x.name name | none => 1
theorem cAt_at {name : ByteArray} {l : List GVar} {k : Nat} (h : k < l.length) : cAt name l k = cmpS l[k].name name := by unfold cAt; rw [List.getElem?_eq_getElem h]
def FoundAt (name : ByteArray) (l : List GVar) (w : World) (e : Ending) (w' : World) : Prop :=
  ∃ i, i ≤ l.length ∧ (∀ t, t < i → cAt name l t < 0) ∧ (∀ t, i ≤ t → t < l.length → 0 ≤ cAt name l t) ∧ e = .returned (.tuple #[.int .i64 (i : Nat), .bool (decide (i < l.length) && decide (cAt name l i = 0))]) ∧ Below w.heap.size w w'
end Go.Proofs.Base
namespace Go.Proofs.YthhgfdejadbigaaDoor
open Go Go.RowKit Go.Proofs.Base

set_option maxRecDepth 100000 in
theorem bl_Compare (a b : ByteArray) (w : World) :
    Calls Tryd.prog 69 #[.string a, .string b] w fun e w' => e = .returned (.int .i64 (cmpS a b)) ∧ w = w' := by
  go_enter Tryd.func69, Tryd.ntmps69
  go_wp2
  rw [run_callFunc_extern Tryd.func87 (by kernel_rfl) (by kernel_rfl) (by kernel_rfl) (e := Extern.BytealgCompare.compare) (by kernel_rfl), Lib.run_compareString]
  simp only [Result.andThen]
  rw [Oper.upon_value]
  go_wp2
  go_ret
  exact ⟨rfl, rfl⟩
theorem str_Compare (a b : ByteArray) (w : World) :
    Calls Tryd.prog 44 #[.string a, .string b] w fun e w' => e = .returned (.int .i64 (cmpS a b)) ∧ w = w' := by
  go_enter Tryd.func44, Tryd.ntmps44
  go_wp2_with (go_at_call 69; refine (bl_Compare _ _ _).mono ?_; rintro e w' ⟨rfl, rfl⟩)
  go_ret
  exact ⟨rfl, rfl⟩
theorem put_cmp (x : GVar) (name : ByteArray) (w : World) :
    Calls Tryd.prog 43 #[.agg #[.string x.name, .int .i64 x.v.k, .int .i64 x.v.n, .string x.v.s], .string name] w fun e w' => e = .returned (.int .i64 (cmpS x.name name)) ∧ Below w.heap.size w w' := by
  go_enter Tryd.func43, Tryd.ntmps43
  go_wp2_with (go_at_call 44; refine (str_Compare _ _ _).mono ?_; rintro e w' ⟨rfl, rfl⟩)
  go_ret
  exact ⟨rfl, (Below.refl _ _).alloc (Nat.le_refl _) _⟩

set_option maxRecDepth 100000 in
set_option maxHeartbeats 2000000 in
theorem put_search (A : Option Addr) (n c : Nat) (name : ByteArray) (l : List GVar) (w : World) (hl : l.length = n) (hnc : n ≤ c) (hn : n < 4611686018427387904) (hr : ReadsV w A l)
    (hmono : ∀ a b, a ≤ b → b < l.length → cAt name l b < 0 → cAt name l a < 0) :
    Calls Tryd.prog 42 #[.slice A n c, .string name, .func (.func 43) #[] #[]] w (FoundAt name l w) := by
  have HR := Lib.hid hr
  have HL := Lib.hid hl
  have M := Lib.hid hmono
  clear hr hl hmono
  go_enter Tryd.func42, Tryd.ntmps42
  go_wp2_with fail
  go_loopw [9, 10] (fun s9 s10 wr => ∃ lo hi : Nat, s9 = .int .i64 lo ∧ s10 = .int .i64 hi ∧ lo ≤ hi ∧ hi ≤ n ∧ Hid ((∀ t, t < lo → cAt name l t < 0) ∧ (∀ t, hi ≤ t → t < l.length → 0 ≤ cAt name l t)) ∧ Below w.heap.size w wr) (fun s9 s10 _ => (intOf s10).toNat - (intOf s9).toNat)
  case atStart => exact ⟨0, n, rfl, rfl, Nat.zero_le _, Nat.le_refl _, Lib.hid ⟨fun t ht => absurd ht (Nat.not_lt_zero _), fun t h1 h2 => by rw [HL.out] at h2; omega⟩, Below.refl _ _⟩
  case round =>
    obtain ⟨lo, hi, rfl, rfl, hlh, hin, HI, hbl⟩ := hrel
    have HBL := Lib.hid hbl
    by_cases hlt : lo < hi
    · have hk1 : (lo + hi) / 2 < l.length := by rw [HL.out]; omega
      obtain ⟨ad, rfl, _, c0, c1, c2, c3⟩ := HR.out.below hbl _ hk1
      have hq := cAt_at (name := name) hk1
      generalize l[(lo + hi) / 2] = x at *
      have HQ := Lib.hid hq
      clear hq hbl hk1
      by_cases hx : cmpS x.name name < 0
      · have HX := Lib.hid hx
        have hd : decide (cmpS x.name name < 0) = true := decide_eq_true hx
        clear hx
        go_wp2_with (go_at_call 43; refine (put_cmp x name _).mono ?_; rintro e w1 ⟨rfl, hb1⟩)
        go_roundw
        case rel => exact ⟨(lo + hi) / 2 + 1, hi, by rw [show ((lo : Int) + (hi : Int)) / 2 + 1 = (((lo + hi) / 2 + 1 : Nat) : Int) by omega], rfl, by omega, hin, Lib.hid ⟨fun t ht => M.out t ((lo + hi) / 2) (by omega) (by rw [HL.out]; omega) (by rw [HQ.out]; exact HX.out), HI.out.2⟩, below2 HBL.out hb1⟩
        case measure => simp [intOf]; omega
      · have HX := Lib.hid hx
        have hd : decide (cmpS x.name name < 0) = false := decide_eq_false hx
        clear hx
        go_wp2_with (go_at_call 43; refine (put_cmp x name _).mono ?_; rintro e w1 ⟨rfl, hb1⟩)
        go_roundw
        case rel => exact ⟨lo, (lo + hi) / 2, rfl, by rw [show ((lo : Int) + (hi : Int)) / 2 = (((lo + hi) / 2 : Nat) : Int) by omega], by omega, by omega, Lib.hid ⟨HI.out.1, fun t ht htn => Int.not_lt.1 fun h => by have := M.out ((lo + hi) / 2) t ht htn h; rw [HQ.out] at this; have := HX.out; omega⟩, below2 HBL.out hb1⟩
        case measure => simp [intOf]; omega
    · obtain rfl : hi = lo := by omega
      by_cases hlen : hi < n
      · have hk1 : hi < l.length := by rw [HL.out]; exact hlen
        obtain ⟨ad, rfl, _, c0, c1, c2, c3⟩ := HR.out.below hbl _ hk1
        have hq := cAt_at (name := name) hk1
        generalize l[hi] = x at *
        have HQ := Lib.hid hq
        clear hq hbl hk1
        go_wp2_with (go_at_call 43; refine (put_cmp x name _).mono ?_; rintro e w1 ⟨rfl, hb1⟩)
        go_ret2
        exact ⟨hi, by rw [HL.out]; exact hin, HI.out.1, HI.out.2, by rw [HQ.out, HL.out]; simp [hlen]; first | done | rfl | (rw [Bool.eq_iff_iff]; simp), below2 HBL.out hb1⟩
      · go_wp2_with fail
        go_ret2
        exact ⟨hi, by rw [HL.out]; exact hin, HI.out.1, HI.out.2, by rw [HL.out]; simp [hlen], HBL.out⟩
end Go.Proofs.YthhgfdejadbigaaDoor
