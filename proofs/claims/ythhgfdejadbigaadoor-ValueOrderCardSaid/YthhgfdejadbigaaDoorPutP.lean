/-
  The order of names, and the list that value.Put answers, as plain functions; no program.
-/
import Derived.Test.YthhgfdejadbigaaDoorSearch
set_option linter.unusedVariables false
set_option linter.unusedSimpArgs false
namespace Go.Proofs.Base
open Go Go.RowKit

theorem cmpB_lt : ∀ (a b : List UInt8), Lib.compareBytes a b < 0 ↔ Op.bytesLess a b = true
  | [], [] => by simp [Lib.compareBytes, Op.bytesLess]
  | [], _ :: _ => by simp [Lib.compareBytes, Op.bytesLess]
  | _ :: _, [] => by simp [Lib.compareBytes, Op.bytesLess]
  | x :: a, y :: b => by
    unfold Lib.compareBytes Op.bytesLess
    by_cases h : x < y
    · rw [if_pos h]; simp [h]
    · rw [if_neg h]
      by_cases h2 : y < x
      · have hne : x ≠ y := fun e => by subst e; exact h h2
        rw [if_pos h2]; simp [h, hne]
      · have he : x = y := by
          rw [UInt8.lt_iff_toNat_lt] at h h2
          exact UInt8.toNat_inj.1 (by omega)
        rw [if_neg h2, cmpB_lt a b]; simp [he]
theorem cmpB_eq : ∀ (a b : List UInt8), Lib.compareBytes a b = 0 ↔ a = b
  | [], [] => by simp [Lib.compareBytes]
  | [], _ :: _ => by simp [Lib.compareBytes]
  | _ :: _, [] => by simp [Lib.compareBytes]
  | x :: a, y :: b => by
    unfold Lib.compareBytes
    by_cases h : x < y
    · have hne : x ≠ y := fun e => by subst e; rw [UInt8.lt_iff_toNat_lt] at h; omega
      rw [if_pos h]; simp [hne]
    · rw [if_neg h]
      by_cases h2 : y < x
      · have hne : x ≠ y := fun e => by subst e; exact h h2
        rw [if_pos h2]; simp [hne]
      · have he : x = y := by
          rw [UInt8.lt_iff_toNat_lt] at h h2
          exact UInt8.toNat_inj.1 (by omega)
        rw [if_neg h2, cmpB_eq a b, he]; simp
theorem bl_trans : ∀ (a b c : List UInt8), Op.bytesLess a b = true → Op.bytesLess b c = true → Op.bytesLess a c = true
  | _, _, [], _, h => by simp [Op.bytesLess] at h
  | _, [], _ :: _, h, _ => by simp [Op.bytesLess] at h
  | [], _ :: _, _ :: _, _, _ => by simp [Op.bytesLess]
  | x :: a, y :: b, z :: c, h1, h2 => by
    unfold Op.bytesLess at h1 h2 ⊢
    simp only [Bool.or_eq_true, Bool.and_eq_true, decide_eq_true_eq, beq_iff_eq] at *
    rw [UInt8.lt_iff_toNat_lt] at *
    rcases h1 with h1 | ⟨rfl, h1⟩ <;> rcases h2 with h2 | ⟨rfl, h2⟩
    · left; omega
    · left; exact h1
    · left; exact h2
    · right; exact ⟨rfl, bl_trans a b c h1 h2⟩
theorem bl_irrefl : ∀ (a : List UInt8), Op.bytesLess a a = false
  | [] => rfl
  | x :: a => by
    unfold Op.bytesLess
    have : ¬ x < x := by rw [UInt8.lt_iff_toNat_lt]; omega
    simp [this, bl_irrefl a]
theorem lessS_cmp (a b : ByteArray) : cmpS a b < 0 ↔ lessS a b = true := by
  unfold cmpS lessS
  rw [cmpB_lt, ByteArray.toList_eq, ByteArray.toList_eq]
theorem cmpS_eq (a b : ByteArray) : cmpS a b = 0 ↔ a = b := by
  unfold cmpS
  rw [cmpB_eq]
  exact ⟨fun h => toL_inj h, fun h => by rw [h]⟩
theorem lessS_trans {a b c : ByteArray} (h1 : lessS a b = true) (h2 : lessS b c = true) : lessS a c = true := bl_trans _ _ _ h1 h2
theorem lessS_irrefl (a : ByteArray) : lessS a a = false := bl_irrefl _
theorem lessS_total {a b : ByteArray} (h1 : lessS a b = false) (h2 : lessS b a = false) : a = b := by
  have e1 : ¬ cmpS a b < 0 := fun h => by rw [lessS_cmp, h1] at h; cases h
  have e2 : ¬ cmpS b a < 0 := fun h => by rw [lessS_cmp, h2] at h; cases h
  have key : ∀ (x y : List UInt8), Lib.compareBytes x y = - Lib.compareBytes y x := by
    intro x
    induction x with
    | nil => intro y; cases y <;> simp [Lib.compareBytes]
    | cons p x ih =>
      intro y
      cases y with
      | nil => simp [Lib.compareBytes]
      | cons q y =>
        unfold Lib.compareBytes
        by_cases h : p < q
        · have h' : ¬ q < p := by rw [UInt8.lt_iff_toNat_lt] at *; omega
          rw [if_pos h, if_neg h', if_pos h]
        · rw [if_neg h]
          by_cases h' : q < p
          · rw [if_pos h', if_pos h']; rfl
          · rw [if_neg h', if_neg h', if_neg h]; exact ih y
  have e3 := key a.data.toList b.data.toList
  have e4 : cmpS a b = - cmpS b a := e3
  exact (cmpS_eq a b).1 (by omega)
/-- the names of a right list rise -/
theorem rightFrom_rise : ∀ (p : Option ByteArray) (l : List GVar), rightFrom p l = true → (∀ q, p = some q → ∀ x ∈ l, lessS q x.name = true) ∧ l.Pairwise (fun x y => lessS x.name y.name = true)
  | _, [], _ => ⟨(fun _ _ x hx => by cases hx), List.Pairwise.nil⟩
  | p, x :: r, h => by
    simp only [rightFrom, Bool.and_eq_true] at h
    obtain ⟨⟨_, h2⟩, h3⟩ := h
    obtain ⟨i1, i2⟩ := rightFrom_rise _ r h3
    have hx : ∀ y ∈ r, lessS x.name y.name = true := i1 _ rfl
    refine ⟨?_, List.Pairwise.cons hx i2⟩
    intro q hq y hy
    subst hq
    rcases List.mem_cons.1 hy with rfl | hy
    · exact h2
    · exact lessS_trans h2 (hx y hy)
theorem rightV_rise {l : List GVar} (h : rightV l = true) : l.Pairwise (fun x y => lessS x.name y.name = true) := by
  unfold rightV at h
  simp only [Bool.and_eq_true] at h
  exact (rightFrom_rise _ _ h.2).2
theorem right_mono {l : List GVar} (h : rightV l = true) (name : ByteArray) : ∀ a b, a ≤ b → b < l.length → cAt name l b < 0 → cAt name l a < 0 := by
  intro a b hab hb hc
  by_cases he : a = b
  · subst he; exact hc
  · have ha : a < l.length := by omega
    rw [cAt_at hb, lessS_cmp] at hc
    rw [cAt_at ha, lessS_cmp]
    exact lessS_trans (List.pairwise_iff_getElem.1 (rightV_rise h) a b ha hb (by omega)) hc
/-- the place of a name -/
def posV (name : ByteArray) (l : List GVar) : Nat := (l.takeWhile fun x => decide (cmpS x.name name < 0)).length
def hasV (name : ByteArray) (l : List GVar) : Bool := decide (posV name l < l.length) && decide (cAt name l (posV name l) = 0)
theorem pos_of {name : ByteArray} : ∀ {l : List GVar} {i : Nat}, i ≤ l.length → (∀ t, t < i → cAt name l t < 0) → (∀ t, i ≤ t → t < l.length → 0 ≤ cAt name l t) → posV name l = i
  | [], i, hi, _, _ => by simp at hi; rw [hi]; rfl
  | x :: r, 0, _, _, h2 => by
    have h := h2 0 (Nat.le_refl _) (by simp)
    have : ¬ cmpS x.name name < 0 := by have e : cAt name (x :: r) 0 = cmpS x.name name := rfl; omega
    unfold posV; rw [List.takeWhile_cons_of_neg (by simpa using this)]; rfl
  | x :: r, i + 1, hi, h1, h2 => by
    have h := h1 0 (by omega)
    have hx : cmpS x.name name < 0 := h
    have ih := pos_of (name := name) (l := r) (i := i) (by simpa using hi) (fun t ht => h1 (t + 1) (by omega)) (fun t h3 h4 => h2 (t + 1) (by omega) (by simpa using h4))
    unfold posV at ih ⊢
    rw [List.takeWhile_cons_of_pos (by simpa using hx), List.length_cons, ih]
def putList (name : ByteArray) (v : GVal) (l : List GVar) : List GVar :=
  if hasV name l then l.set (posV name l) ⟨name, v⟩ else l.take (posV name l) ++ ⟨name, v⟩ :: l.drop (posV name l)
def putOut (name : ByteArray) (v : GVal) (l : List GVar) : List GVar × Int :=
  if (rightV l && named name && v.may) = true then (if hasV name l = false ∧ l.length = 16 then ([], 4) else (putList name v l, 0)) else ([], 1)
theorem varCells_set {l : List GVar} {i : Nat} {name : ByteArray} {v : GVal} (hi : i < l.length) (he : l[i].name = name) :
    varCells (l.set i ⟨name, v⟩) = (((varCells l).set (i * 4 + 1) (.int .i64 v.k)).set (i * 4 + 2) (.int .i64 v.n)).set (i * 4 + 3) (.string v.s) := by
  induction l generalizing i with
  | nil => simp at hi
  | cons x r ih =>
    have e1 : ∀ (y : GVar), varCells (y :: r) = .string y.name :: .int .i64 y.v.k :: .int .i64 y.v.n :: .string y.v.s :: varCells r := fun y => rfl
    cases i with
    | zero =>
      have hx : x.name = name := he
      rw [List.set_cons_zero, e1, e1, hx]; rfl
    | succ i =>
      have h' : i < r.length := by simpa using hi
      have e2 : varCells (x :: r.set i ⟨name, v⟩) = .string x.name :: .int .i64 x.v.k :: .int .i64 x.v.n :: .string x.v.s :: varCells (r.set i ⟨name, v⟩) := rfl
      rw [List.set_cons_succ, e2, e1, ih h' (by simpa using he)]
      rw [show (i + 1) * 4 + 1 = i * 4 + 1 + 1 + 1 + 1 + 1 by omega, show (i + 1) * 4 + 2 = i * 4 + 2 + 1 + 1 + 1 + 1 by omega, show (i + 1) * 4 + 3 = i * 4 + 3 + 1 + 1 + 1 + 1 by omega]
      simp only [List.set_cons_succ]
theorem varCells_take (l : List GVar) (i : Nat) : varCells (l.take i) = (varCells l).take (i * 4) := by
  induction l generalizing i with
  | nil => simp [varCells]
  | cons x r ih =>
    cases i with
    | zero => simp [varCells]
    | succ i =>
      have e1 : ∀ (r : List GVar), varCells (x :: r) = .string x.name :: .int .i64 x.v.k :: .int .i64 x.v.n :: .string x.v.s :: varCells r := fun r => rfl
      rw [List.take_succ_cons, e1, e1, ih, show (i + 1) * 4 = i * 4 + 1 + 1 + 1 + 1 by omega]
      simp only [List.take_succ_cons]
theorem varCells_drop (l : List GVar) (i : Nat) : varCells (l.drop i) = (varCells l).drop (i * 4) := by
  induction l generalizing i with
  | nil => simp [varCells]
  | cons x r ih =>
    cases i with
    | zero => simp
    | succ i =>
      have e1 : varCells (x :: r) = .string x.name :: .int .i64 x.v.k :: .int .i64 x.v.n :: .string x.v.s :: varCells r := rfl
      rw [List.drop_succ_cons, e1, ih, show (i + 1) * 4 = i * 4 + 1 + 1 + 1 + 1 by omega]
      simp only [List.drop_succ_cons]
end Go.Proofs.Base
