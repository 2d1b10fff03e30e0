/-
  Chapter 9: the document's examples hold; the order of values: plain laws over what was printed.
-/
import Derived.Test.YthhgfdejadbigaaDoorGAx3
import Derived.Test.YthhgfdejadbigaaDoorGAx5
set_option linter.unusedVariables false
set_option linter.unusedSimpArgs false
namespace Go.Proofs.YthhgfdejadbigaaDoor.GA
open Go.RowKit Go.Proofs.YthhgfdejadbigaaDoorW.PrintWords Go.Proofs.YthhgfdejadbigaaDoorW.PrintLast Go.Proofs.YthhgfdejadbigaaDoorW.PrintMore

theorem shown_bytes : value_Bytes.f 1 3 (⟨#[]⟩ : ByteArray) = some ⟨#[1, 6]⟩ := by
  have h : Base.valB 1 3 (⟨#[]⟩ : ByteArray) = ⟨#[1, 6]⟩ := by
    unfold Base.valB
    rw [if_pos (by decide), if_neg (by decide)]
    have e : Base.intB 3 = ⟨#[6]⟩ := by
      unfold Base.intB Base.uintB
      have e2 : Base.zig 3 = 6 := by decide
      rw [e2, Base.uintN_lt (by omega)]; rfl
    rw [e]; rfl
  unfold value_Bytes.f
  rw [if_pos (by decide), h]
theorem shown_show : value_Show.f 3 0 (⟨#[97, 34, 98]⟩ : ByteArray) = some ⟨#[34, 97, 92, 34, 98, 34]⟩ := by
  unfold value_Show.f
  rw [if_pos (by decide)]
  rfl
theorem shown_put1 : value_Put.f ([] : List (S60)) (⟨#[120]⟩ : ByteArray) 1 1 (⟨#[]⟩ : ByteArray) = some ([⟨⟨#[120]⟩, ⟨1, 1, ⟨#[]⟩⟩⟩], 0) := by
  unfold value_Put.f
  rw [if_pos (by decide)]
  kernel_rfl
theorem shown_put2 : value_Put.f ([⟨⟨#[120]⟩, ⟨1, 1, ⟨#[]⟩⟩⟩] : List (S60)) (⟨#[97]⟩ : ByteArray) 1 2 (⟨#[]⟩ : ByteArray) = some ([⟨⟨#[97]⟩, ⟨1, 2, ⟨#[]⟩⟩⟩, ⟨⟨#[120]⟩, ⟨1, 1, ⟨#[]⟩⟩⟩], 0) := by
  unfold value_Put.f
  rw [if_pos (by decide)]
  kernel_rfl
theorem shown_named : value_Named.f (⟨#[97, 110, 100]⟩ : ByteArray) = some false := by
  unfold value_Named.f
  rw [if_pos (by decide)]
  kernel_rfl
theorem shown_true : wherrylaw09_shown.f = some true := by
  unfold wherrylaw09_shown.f
  rw [shown_bytes, shown_show, shown_put1]
  simp only [Option.bind_some]
  rw [shown_put2, shown_named]
  kernel_rfl

/-- less, as one Bool -/
def lessG (a0 a1 : Int) (a2 : List UInt8) (b0 b1 : Int) (b2 : List UInt8) : Bool := if a0 = b0 then (if a1 = b1 then Op.bytesLess a2 b2 else decide (a1 < b1)) else decide (a0 < b0)
theorem less_f (a0 a1 : Int) (a2 : ByteArray) (b0 b1 : Int) (b2 : ByteArray) : value_Less.f a0 a1 a2 b0 b1 b2 = some (lessG a0 a1 a2.toList b0 b1 b2.toList) := by
  unfold value_Less.f lessG
  split <;> (try split) <;> rfl
theorem bl_total {a b : List UInt8} (h1 : Op.bytesLess a b = false) (h2 : Op.bytesLess b a = false) : a = b := by
  have h := Base.lessS_total (a := Base.ofL a) (b := Base.ofL b) (by unfold Base.lessS; rw [Base.toList_toL, Base.toList_toL]; simpa using h1) (by unfold Base.lessS; rw [Base.toList_toL, Base.toList_toL]; simpa using h2)
  have h3 := congrArg Base.toL h
  simpa using h3
theorem lessG_irrefl (a0 a1 : Int) (a2 : List UInt8) : lessG a0 a1 a2 a0 a1 a2 = false := by
  unfold lessG; rw [if_pos rfl, if_pos rfl]; exact Base.bl_irrefl _
theorem lessG_trans {a0 a1 b0 b1 c0 c1 : Int} {a2 b2 c2 : List UInt8} (h1 : lessG a0 a1 a2 b0 b1 b2 = true) (h2 : lessG b0 b1 b2 c0 c1 c2 = true) : lessG a0 a1 a2 c0 c1 c2 = true := by
  unfold lessG at *
  by_cases e1 : a0 = b0
  · subst e1
    rw [if_pos rfl] at h1
    by_cases e2 : a0 = c0
    · subst e2
      rw [if_pos rfl] at h2 ⊢
      by_cases f1 : a1 = b1
      · subst f1
        rw [if_pos rfl] at h1
        by_cases f2 : a1 = c1
        · subst f2
          rw [if_pos rfl] at h2 ⊢
          exact Base.bl_trans _ _ _ h1 h2
        · rw [if_neg f2] at h2 ⊢; exact h2
      · rw [if_neg f1] at h1
        have h1 := of_decide_eq_true h1
        by_cases f2 : b1 = c1
        · subst f2; rw [if_neg f1]; exact decide_eq_true h1
        · rw [if_neg f2] at h2
          have h2 := of_decide_eq_true h2
          rw [if_neg (by omega)]; exact decide_eq_true (by omega)
    · rw [if_neg e2] at h2 ⊢; exact h2
  · rw [if_neg e1] at h1
    have h1 := of_decide_eq_true h1
    by_cases e2 : b0 = c0
    · subst e2; rw [if_neg e1]; exact decide_eq_true h1
    · rw [if_neg e2] at h2
      have h2 := of_decide_eq_true h2
      rw [if_neg (by omega)]; exact decide_eq_true (by omega)
theorem lessG_total {a0 a1 b0 b1 : Int} {a2 b2 : List UInt8} (h1 : lessG a0 a1 a2 b0 b1 b2 = false) (h2 : lessG b0 b1 b2 a0 a1 a2 = false) : a0 = b0 ∧ a1 = b1 ∧ a2 = b2 := by
  unfold lessG at *
  by_cases e1 : a0 = b0
  · subst e1
    rw [if_pos rfl] at h1 h2
    by_cases f1 : a1 = b1
    · subst f1
      rw [if_pos rfl] at h1 h2
      exact ⟨rfl, rfl, bl_total h1 h2⟩
    · rw [if_neg f1] at h1
      rw [if_neg (Ne.symm f1)] at h2
      have := of_decide_eq_false h1; have := of_decide_eq_false h2; omega
  · rw [if_neg e1] at h1
    rw [if_neg (Ne.symm e1)] at h2
    have := of_decide_eq_false h1; have := of_decide_eq_false h2; omega
theorem neG (a0 a1 : Int) (a2 : ByteArray) (b0 b1 : Int) (b2 : ByteArray) : (!(a0 == b0) || (!(a1 == b1) || (!(a2.toList == b2.toList)))) = !decide (a0 = b0 ∧ a1 = b1 ∧ a2.toList = b2.toList) := by
  rw [Bool.eq_iff_iff]
  simp

theorem order_pure (a0 a1 : Int) (a2 : ByteArray) (b0 b1 : Int) (b2 : ByteArray) (c0 c1 : Int) (c2 : ByteArray) : wherrylaw09_ValueOrder.f a0 a1 a2 b0 b1 b2 c0 c1 c2 = some true := by
  unfold wherrylaw09_ValueOrder.f
  rw [shown_true]
  simp only [Option.bind_some, less_f, neG]
  have ht := @lessG_trans a0 a1 b0 b1 c0 c1 a2.toList b2.toList c2.toList
  have haa := @lessG_trans a0 a1 b0 b1 a0 a1 a2.toList b2.toList a2.toList
  rw [lessG_irrefl] at haa
  have hto := @lessG_total a0 a1 b0 b1 a2.toList b2.toList
  by_cases he : a0 = b0 ∧ a1 = b1 ∧ a2.toList = b2.toList
  · obtain ⟨rfl, rfl, h2⟩ := he
    rw [h2, lessG_irrefl]
    simp
  · cases h1 : lessG a0 a1 a2.toList b0 b1 b2.toList <;> cases h2 : lessG b0 b1 b2.toList a0 a1 a2.toList
    · exact absurd (hto h1 h2) he
    · simp [he]
    · cases h3 : lessG b0 b1 b2.toList c0 c1 c2.toList
      · simp [he]
      · simp [he, ht h1 h3]
    · exact absurd (haa h1 h2) (by simp)
end Go.Proofs.YthhgfdejadbigaaDoor.GA
