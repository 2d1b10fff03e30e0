/-
  Variables that are read at whatever address (a slice that came in), and value.Get over them.
-/
import Derived.Test.YthhgfdejadbigaaDoorValP
import Derived.Test.YthhgfdejadbigaaDoorWire
set_option linter.unusedVariables false
set_option linter.unusedSimpArgs false
namespace Go.Proofs.Base
open Go Go.RowKit

theorem add_block (ad : Addr) (m : Nat) : (ad.add m).block = ad.block := by unfold Addr.add; split <;> rfl
/-- A slice of variables as it is read: its elements' cells, at whatever address. -/
def ReadsV (w : World) (A : Option Addr) (l : List GVar) : Prop :=
  ∀ k (h : k < l.length), ∃ ad, A = some ad ∧ ad.block < w.heap.size ∧ w.cell? (ad.add (k * 4)) = some (.string l[k].name) ∧ w.cell? ⟨(ad.add (k * 4)).block, (ad.add (k * 4)).off + 1, none⟩ = some (.int .i64 l[k].v.k) ∧
    w.cell? ⟨(ad.add (k * 4)).block, (ad.add (k * 4)).off + 2, none⟩ = some (.int .i64 l[k].v.n) ∧ w.cell? ⟨(ad.add (k * 4)).block, (ad.add (k * 4)).off + 3, none⟩ = some (.string l[k].v.s)
theorem ReadsV.below {w w' : World} {A : Option Addr} {l : List GVar} (h : ReadsV w A l) (hb : Below w.heap.size w w') : ReadsV w' A l := by
  intro k hk
  obtain ⟨ad, hA, hlt, c0, c1, c2, c3⟩ := h k hk
  have e := add_block ad (k * 4)
  exact ⟨ad, hA, Nat.lt_of_lt_of_le hlt hb.size, (hb.cell (p := ad.add (k * 4)) (by rw [e]; exact hlt)).trans c0, (hb.cell (p := ⟨(ad.add (k * 4)).block, (ad.add (k * 4)).off + 1, none⟩) (by show (ad.add (k * 4)).block < _; rw [e]; exact hlt)).trans c1,
    (hb.cell (p := ⟨(ad.add (k * 4)).block, (ad.add (k * 4)).off + 2, none⟩) (by show (ad.add (k * 4)).block < _; rw [e]; exact hlt)).trans c2, (hb.cell (p := ⟨(ad.add (k * 4)).block, (ad.add (k * 4)).off + 3, none⟩) (by show (ad.add (k * 4)).block < _; rw [e]; exact hlt)).trans c3⟩
/-- the first place of a name, or -1 -/
def idxGo (name : ByteArray) : List GVar → Nat → Int
  | [], _ => -1
  | x :: r, i => if (x.name.toList == name.toList) = true then (i : Int) else idxGo name r (i + 1)
def getV (name : ByteArray) (l : List GVar) : Option GVal := (l.find? fun x => x.name.toList == name.toList).map (·.v)
theorem idxGo_spec (name : ByteArray) : ∀ (l : List GVar) (i : Nat), (idxGo name l i = -1 ∧ getV name l = none) ∨ (∃ j, ∃ h : j < l.length, idxGo name l i = ((i + j : Nat) : Int) ∧ getV name l = some l[j].v)
  | [], i => .inl ⟨rfl, rfl⟩
  | x :: r, i => by
    unfold idxGo getV
    by_cases h : (x.name.toList == name.toList) = true
    · rw [if_pos h]
      exact .inr ⟨0, by simp, rfl, by simp [h]⟩
    · rw [if_neg h, List.find?_cons_of_neg (p := fun y : GVar => y.name.toList == name.toList) (a := x) h]
      rcases idxGo_spec name r (i + 1) with ⟨h1, h2⟩ | ⟨j, hj, h1, h2⟩
      · exact .inl ⟨h1, h2⟩
      · refine .inr ⟨j + 1, by simpa using hj, ?_, h2⟩
        rw [h1]; congr 1; omega
end Go.Proofs.Base
