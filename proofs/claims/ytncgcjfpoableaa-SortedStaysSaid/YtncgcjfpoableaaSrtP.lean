/-
  Sorted maps as plain lists of pairs: put, taken away, asked, and what a range tells; no program.
-/
import Derived.Test.YtncgcjfpoableaaSrtB
import Derived.Lib.Bytealg
set_option linter.unusedVariables false
set_option linter.unusedSimpArgs false
namespace Go.Proofs.Base
open Go Go.RowKit

/-! ### texts -/
def cmpS (a b : ByteArray) : Int := Lib.compareBytes a.data.toList b.data.toList
def lessS (a b : ByteArray) : Bool := Op.bytesLess a.data.toList b.data.toList
theorem cmpB_lt : ∀ (a b : List UInt8), Lib.compareBytes a b < 0 ↔ Op.bytesLess a b = true
  | [], [] => by simp [Lib.compareBytes, Op.bytesLess]
  | [], _ :: _ => by simp [Lib.compareBytes, Op.bytesLess]
  | _ :: _, [] => by simp [Lib.compareBytes, Op.bytesLess]
  | x :: a, y :: b => by
    unfold Lib.compareBytes Op.bytesLess
    by_cases h : x < y
    · rw [if_pos h]; simp [h]
    · rw [if_neg h]
      by_cases h2 : y < x
      · have hne : x ≠ y := fun e => by subst e; exact h h2
        rw [if_pos h2]; simp [h, hne]
      · have he : x = y := by
          rw [UInt8.lt_iff_toNat_lt] at h h2
          exact UInt8.toNat_inj.1 (by omega)
        rw [if_neg h2, cmpB_lt a b]; simp [he]
theorem cmpB_eq : ∀ (a b : List UInt8), Lib.compareBytes a b = 0 ↔ a = b
  | [], [] => by simp [Lib.compareBytes]
  | [], _ :: _ => by simp [Lib.compareBytes]
  | _ :: _, [] => by simp [Lib.compareBytes]
  | x :: a, y :: b => by
    unfold Lib.compareBytes
    by_cases h : x < y
    · have hne : x ≠ y := fun e => by subst e; rw [UInt8.lt_iff_toNat_lt] at h; omega
      rw [if_pos h]; simp [hne]
    · rw [if_neg h]
      by_cases h2 : y < x
      · have hne : x ≠ y := fun e => by subst e; exact h h2
        rw [if_pos h2]; simp [hne]
      · have he : x = y := by
          rw [UInt8.lt_iff_toNat_lt] at h h2
          exact UInt8.toNat_inj.1 (by omega)
        rw [if_neg h2, cmpB_eq a b, he]; simp
theorem cmpB_neg : ∀ (x y : List UInt8), Lib.compareBytes x y = - Lib.compareBytes y x := by
  intro x
  induction x with
  | nil => intro y; cases y <;> simp [Lib.compareBytes]
  | cons p x ih =>
    intro y
    cases y with
    | nil => simp [Lib.compareBytes]
    | cons q y =>
      unfold Lib.compareBytes
      by_cases h : p < q
      · have h' : ¬ q < p := by rw [UInt8.lt_iff_toNat_lt] at *; omega
        rw [if_pos h, if_neg h', if_pos h]
      · rw [if_neg h]
        by_cases h' : q < p
        · rw [if_pos h', if_pos h']; rfl
        · rw [if_neg h', if_neg h', if_neg h]; exact ih y
theorem bl_trans : ∀ (a b c : List UInt8), Op.bytesLess a b = true → Op.bytesLess b c = true → Op.bytesLess a c = true
  | _, _, [], _, h => by simp [Op.bytesLess] at h
  | _, [], _ :: _, h, _ => by simp [Op.bytesLess] at h
  | [], _ :: _, _ :: _, _, _ => by simp [Op.bytesLess]
  | x :: a, y :: b, z :: c, h1, h2 => by
    unfold Op.bytesLess at h1 h2 ⊢
    simp only [Bool.or_eq_true, Bool.and_eq_true, decide_eq_true_eq, beq_iff_eq] at *
    rw [UInt8.lt_iff_toNat_lt] at *
    rcases h1 with h1 | ⟨rfl, h1⟩ <;> rcases h2 with h2 | ⟨rfl, h2⟩
    · left; omega
    · left; exact h1
    · left; exact h2
    · right; exact ⟨rfl, bl_trans a b c h1 h2⟩
theorem bl_irrefl : ∀ (a : List UInt8), Op.bytesLess a a = false
  | [] => rfl
  | x :: a => by
    unfold Op.bytesLess
    have : ¬ x < x := by rw [UInt8.lt_iff_toNat_lt]; omega
    simp [this, bl_irrefl a]
theorem lessS_cmp (a b : ByteArray) : cmpS a b < 0 ↔ lessS a b = true := cmpB_lt _ _
theorem cmpS_eq (a b : ByteArray) : cmpS a b = 0 ↔ a = b := by
  unfold cmpS
  rw [cmpB_eq]
  exact ⟨fun h => toL_inj h, fun h => by rw [h]⟩
theorem lessS_trans {a b c : ByteArray} (h1 : lessS a b = true) (h2 : lessS b c = true) : lessS a c = true := bl_trans _ _ _ h1 h2
theorem lessS_irrefl (a : ByteArray) : lessS a a = false := bl_irrefl _
theorem lessS_total {a b : ByteArray} (h1 : lessS a b = false) (h2 : lessS b a = false) : a = b := by
  have e1 : ¬ cmpS a b < 0 := fun h => by rw [lessS_cmp, h1] at h; cases h
  have e2 : ¬ cmpS b a < 0 := fun h => by rw [lessS_cmp, h2] at h; cases h
  have e4 : cmpS a b = - cmpS b a := cmpB_neg _ _
  exact (cmpS_eq a b).1 (by omega)
theorem lessS_asymm {a b : ByteArray} (h : lessS a b = true) : lessS b a = false := by
  cases h2 : lessS b a with
  | false => rfl
  | true => have := lessS_trans h h2; rw [lessS_irrefl] at this; cases this
/-- does a text begin with another one? -/
def beginsS (s h : ByteArray) : Bool := h.data.toList.isPrefixOf s.data.toList
theorem bl_prefix : ∀ (p s : List UInt8), p <+: s → Op.bytesLess s p = false
  | [], s, _ => by cases s <;> rfl
  | x :: p, [], h => by simp at h
  | x :: p, y :: s, h => by
    obtain ⟨rfl, h2⟩ := List.cons_prefix_cons.1 h
    unfold Op.bytesLess
    have : ¬ x < x := by rw [UInt8.lt_iff_toNat_lt]; omega
    simp [this, bl_prefix p s h2]
/-- what lies between a text and one that begins with it begins with it -/
theorem bl_between : ∀ (p a b : List UInt8), p <+: b → Op.bytesLess a p = false → Op.bytesLess a b = true → p <+: a
  | [], a, _, _, _, _ => List.nil_prefix
  | x :: p, _, [], h, _, _ => by simp at h
  | x :: p, [], _ :: _, _, h, _ => by simp [Op.bytesLess] at h
  | x :: p, z :: a, y :: b, h, h1, h2 => by
    obtain ⟨rfl, h3⟩ := List.cons_prefix_cons.1 h
    unfold Op.bytesLess at h1 h2
    simp only [Bool.or_eq_true, Bool.and_eq_true, decide_eq_true_eq, beq_iff_eq, Bool.or_eq_false_iff, Bool.and_eq_false_iff, decide_eq_false_iff_not, beq_eq_false_iff_ne] at h1 h2
    obtain ⟨h1a, h1b⟩ := h1
    rcases h2 with h2 | ⟨rfl, h2⟩
    · exact absurd h2 h1a
    · rcases h1b with h1b | h1b
      · exact absurd rfl h1b
      · exact List.cons_prefix_cons.2 ⟨rfl, bl_between p a b h3 h1b h2⟩
theorem begins_not_less {s h : ByteArray} (hb : beginsS s h = true) : lessS s h = false := bl_prefix _ _ (List.isPrefixOf_iff_prefix.1 hb)
theorem begins_between {p a b : ByteArray} (hb : beginsS b p = true) (h1 : lessS a p = false) (h2 : lessS a b = true) : beginsS a p = true :=
  List.isPrefixOf_iff_prefix.2 (bl_between _ _ _ (List.isPrefixOf_iff_prefix.1 hb) h1 h2)

/-! ### pairs -/
abbrev KV (V : Type) := ByteArray × V
section
variable {V : Type}
def pcells (enc : V → Value) (l : List (KV V)) : List Value := l.flatMap fun p => [.string p.1, enc p.2]
theorem pcells_cons (enc : V → Value) (p : KV V) (l : List (KV V)) : pcells enc (p :: l) = .string p.1 :: enc p.2 :: pcells enc l := rfl
theorem pcells_append (enc : V → Value) (l m : List (KV V)) : pcells enc (l ++ m) = pcells enc l ++ pcells enc m := by simp [pcells]
theorem pcells_len (enc : V → Value) (l : List (KV V)) : (pcells enc l).length = l.length * 2 := by
  induction l with
  | nil => rfl
  | cons p l ih => rw [pcells_cons, List.length_cons, List.length_cons, ih, List.length_cons]; omega
theorem pcells_take (enc : V → Value) : ∀ (l : List (KV V)) (i : Nat), (pcells enc l).take (i * 2) = pcells enc (l.take i)
  | [], i => by simp [pcells]
  | p :: l, 0 => by simp [pcells]
  | p :: l, i + 1 => by rw [pcells_cons, show (i + 1) * 2 = i * 2 + 1 + 1 by omega, List.take_succ_cons, List.take_succ_cons, pcells_take enc l i]; rfl
theorem pcells_drop (enc : V → Value) : ∀ (l : List (KV V)) (i : Nat), (pcells enc l).drop (i * 2) = pcells enc (l.drop i)
  | [], i => by simp [pcells]
  | p :: l, 0 => by simp [pcells]
  | p :: l, i + 1 => by rw [pcells_cons, show (i + 1) * 2 = i * 2 + 1 + 1 by omega, List.drop_succ_cons, List.drop_succ_cons, pcells_drop enc l i]; rfl
theorem pcells_at (enc : V → Value) : ∀ {l : List (KV V)} {k : Nat} (h : k < l.length), (pcells enc l)[k * 2 + 0]? = some (.string l[k].1) ∧ (pcells enc l)[k * 2 + 1]? = some (enc l[k].2)
  | p :: l, 0, _ => ⟨rfl, rfl⟩
  | p :: l, k + 1, h => by
    have ih := pcells_at enc (l := l) (k := k) (by simpa using h)
    rw [pcells_cons, show (k + 1) * 2 + 0 = k * 2 + 0 + 1 + 1 by omega, show (k + 1) * 2 + 1 = k * 2 + 1 + 1 + 1 by omega]
    exact ih
theorem pcells_one {enc : V → Value} (h : ∀ v, (enc v).oneCell' = true) (l : List (KV V)) : ∀ u ∈ pcells enc l, u.oneCell' = true := by
  intro u hu
  obtain ⟨x, _, hx⟩ := List.mem_flatMap.1 hu
  simp only [List.mem_cons, List.not_mem_nil, or_false] at hx
  rcases hx with rfl | rfl
  · rfl
  · exact h _

theorem mem_while {α : Type} {p : α → Bool} : ∀ {l : List α} {x : α}, x ∈ l.takeWhile p → p x = true
  | y :: l, x, h => by
    cases hy : p y with
    | true =>
      rw [List.takeWhile_cons_of_pos hy] at h
      rcases List.mem_cons.1 h with rfl | h
      · exact hy
      · exact mem_while h
    | false => rw [List.takeWhile_cons_of_neg (by simp [hy])] at h; cases h
theorem getElem_of_eq' {α : Type} {l m : List α} (h : l = m) {i j : Nat} (hij : i = j) (hi : i < l.length) (hj : j < m.length) : l[i] = m[j] := by subst h; subst hij; rfl

/-! ### a list of pairs as a map -/
def idxK (k : ByteArray) (l : List (KV V)) : Nat := (l.takeWhile fun p => lessS p.1 k).length
def atK (k : ByteArray) (l : List (KV V)) : Option V := match l[idxK k l]? with | some p => if p.1 = k then some p.2 else none | none => none
def hasK (k : ByteArray) (l : List (KV V)) : Bool := (atK k l).isSome
def getK (d : V) (k : ByteArray) (l : List (KV V)) : V := (atK k l).getD d
def delK (k : ByteArray) (l : List (KV V)) : List (KV V) := if hasK k l = true then l.take (idxK k l) ++ l.drop (idxK k l + 1) else l
def putK (k : ByteArray) (v : V) (l : List (KV V)) : List (KV V) := l.take (idxK k l) ++ (k, v) :: l.drop (if hasK k l = true then idxK k l + 1 else idxK k l)
def Rises (l : List (KV V)) : Prop := l.Pairwise fun p q => lessS p.1 q.1 = true
theorem idxK_le (k : ByteArray) (l : List (KV V)) : idxK k l ≤ l.length := (List.takeWhile_prefix _).length_le
theorem idxK_cons_lt {k : ByteArray} {p : KV V} (l : List (KV V)) (h : lessS p.1 k = true) : idxK k (p :: l) = idxK k l + 1 := by
  unfold idxK; rw [List.takeWhile_cons_of_pos (by simpa using h)]; rfl
theorem idxK_cons_ge {k : ByteArray} {p : KV V} (l : List (KV V)) (h : lessS p.1 k = false) : idxK k (p :: l) = 0 := by
  unfold idxK; rw [List.takeWhile_cons_of_neg (by simp [h])]; rfl
theorem take_idx (k : ByteArray) (l : List (KV V)) : l.take (idxK k l) = l.takeWhile fun p => lessS p.1 k := by
  induction l with
  | nil => rfl
  | cons p l ih =>
    cases h : lessS p.1 k with
    | true => rw [idxK_cons_lt l h, List.take_succ_cons, ih, List.takeWhile_cons_of_pos (by simpa using h)]
    | false => rw [idxK_cons_ge l h, List.takeWhile_cons_of_neg (by simp [h])]; rfl
theorem before_idx {k : ByteArray} {l : List (KV V)} {t : Nat} (ht : t < idxK k l) (hl : t < l.length) : lessS l[t].1 k = true := by
  have h1 : (l.take (idxK k l))[t]? = some l[t] := by rw [List.getElem?_take, if_pos ht, List.getElem?_eq_getElem hl]
  rw [take_idx] at h1
  have h2 := List.mem_of_getElem? h1
  exact mem_while (p := fun q : KV V => lessS q.1 k) h2
theorem at_idx {k : ByteArray} : ∀ {l : List (KV V)} (h : idxK k l < l.length), lessS l[idxK k l].1 k = false
  | p :: l, h => by
    cases hp : lessS p.1 k with
    | true =>
      have e := idxK_cons_lt l hp
      have := at_idx (k := k) (l := l) (by rw [e] at h; simpa using h)
      simp only [e, List.getElem_cons_succ]
      exact this
    | false =>
      have e := idxK_cons_ge l hp
      simp only [e, List.getElem_cons_zero]
      exact hp
theorem from_idx {k : ByteArray} {l : List (KV V)} (hr : Rises l) {t : Nat} (ht : idxK k l ≤ t) (hl : t < l.length) : lessS l[t].1 k = false := by
  have h1 := at_idx (k := k) (l := l) (by omega)
  by_cases he : t = idxK k l
  · subst he; exact h1
  · have h2 := List.pairwise_iff_getElem.1 hr (idxK k l) t (by omega) hl (by omega)
    cases h3 : lessS l[t].1 k with
    | false => rfl
    | true => rw [lessS_trans h2 h3] at h1; cases h1
/-- the place is the only one that parts what is less from what is not -/
theorem idx_of {k : ByteArray} : ∀ {l : List (KV V)} {i : Nat}, i ≤ l.length → (∀ t (h : t < l.length), t < i → lessS l[t].1 k = true) → (∀ t (h : t < l.length), i ≤ t → lessS l[t].1 k = false) → idxK k l = i
  | [], i, hi, _, _ => by simp at hi; rw [hi]; rfl
  | p :: r, 0, _, _, h2 => idxK_cons_ge r (h2 0 (by simp) (Nat.le_refl _))
  | p :: r, i + 1, hi, h1, h2 => by
    rw [idxK_cons_lt (p := p) r (h1 0 (by simp) (by omega)), idx_of (l := r) (i := i) (by simpa using hi) (fun t h ht => h1 (t + 1) (by simpa using h) (by omega)) (fun t h ht => h2 (t + 1) (by simpa using h) (by omega))]
theorem atK_some {k : ByteArray} {l : List (KV V)} {v : V} (h : atK k l = some v) : ∃ hi : idxK k l < l.length, l[idxK k l] = (k, v) := by
  unfold atK at h
  split at h
  · rename_i p hp
    obtain ⟨hi, e⟩ := List.getElem?_eq_some_iff.1 hp
    split at h
    · rename_i hk
      refine ⟨hi, ?_⟩
      rw [e]
      injection h with h
      rw [← h, ← hk]
    · cases h
  · cases h
theorem atK_of {k : ByteArray} {l : List (KV V)} {v : V} (hi : idxK k l < l.length) (h : l[idxK k l] = (k, v)) : atK k l = some v := by
  unfold atK
  rw [List.getElem?_eq_getElem hi, h]
  simp
theorem atK_none {k : ByteArray} {l : List (KV V)} (h : ∀ hi : idxK k l < l.length, l[idxK k l].1 ≠ k) : atK k l = none := by
  unfold atK
  by_cases hi : idxK k l < l.length
  · rw [List.getElem?_eq_getElem hi]
    simp [h hi]
  · rw [List.getElem?_eq_none (by omega)]
theorem hasK_iff {k : ByteArray} {l : List (KV V)} : hasK k l = true ↔ ∃ hi : idxK k l < l.length, l[idxK k l].1 = k := by
  unfold hasK
  constructor
  · intro h
    obtain ⟨v, hv⟩ := Option.isSome_iff_exists.1 h
    obtain ⟨hi, e⟩ := atK_some hv
    exact ⟨hi, by rw [e]⟩
  · rintro ⟨hi, e⟩
    have : atK k l = some l[idxK k l].2 := atK_of hi (Prod.ext e rfl)
    rw [this]; rfl
theorem hasK_false {k : ByteArray} {l : List (KV V)} (h : hasK k l = false) : atK k l = none := by
  unfold hasK at h
  cases e : atK k l with
  | none => rfl
  | some v => rw [e] at h; cases h
theorem getK_of {d : V} {k : ByteArray} {l : List (KV V)} (h : hasK k l = true) : ∃ hi : idxK k l < l.length, l[idxK k l] = (k, getK d k l) := by
  obtain ⟨v, hv⟩ := Option.isSome_iff_exists.1 (show (atK k l).isSome = true from h)
  obtain ⟨hi, e⟩ := atK_some hv
  exact ⟨hi, by rw [e]; unfold getK; rw [hv]; rfl⟩
theorem getK_no {d : V} {k : ByteArray} {l : List (KV V)} (h : hasK k l = false) : getK d k l = d := by unfold getK; rw [hasK_false h]; rfl
theorem delK_yes {k : ByteArray} {l : List (KV V)} (h : hasK k l = true) : delK k l = l.take (idxK k l) ++ l.drop (idxK k l + 1) := by unfold delK; rw [if_pos h]
theorem delK_no {k : ByteArray} {l : List (KV V)} (h : hasK k l = false) : delK k l = l := by unfold delK; rw [if_neg (by simp [h])]
theorem putK_yes {k : ByteArray} {l : List (KV V)} (v : V) (h : hasK k l = true) : putK k v l = l.take (idxK k l) ++ [(k, v)] ++ l.drop (idxK k l + 1) := by unfold putK; rw [if_pos h]; simp
theorem putK_no {k : ByteArray} {l : List (KV V)} (v : V) (h : hasK k l = false) : putK k v l = l.take (idxK k l) ++ [(k, v)] ++ l.drop (idxK k l) := by unfold putK; rw [if_neg (by simp [h])]; simp
theorem delK_len {k : ByteArray} {l : List (KV V)} : (delK k l).length ≤ l.length := by
  unfold delK
  split
  · rw [List.length_append, List.length_take, List.length_drop]; omega
  · exact Nat.le_refl _
theorem putK_len {k : ByteArray} {l : List (KV V)} (v : V) : (putK k v l).length ≤ l.length + 1 := by
  unfold putK
  have := idxK_le k l
  split <;> (rw [List.length_append, List.length_cons, List.length_take, List.length_drop]; omega)
theorem Rises.nil : Rises ([] : List (KV V)) := List.Pairwise.nil
theorem take_less {k : ByteArray} {l : List (KV V)} : ∀ p ∈ l.take (idxK k l), lessS p.1 k = true := by
  rw [take_idx]
  intro p hp
  exact mem_while (p := fun q : KV V => lessS q.1 k) hp
theorem drop_more {k : ByteArray} {l : List (KV V)} (hr : Rises l) {i : Nat} (hi : idxK k l ≤ i) (hk : i = idxK k l → hasK k l = false) : ∀ p ∈ l.drop i, lessS k p.1 = true := by
  intro p hp
  obtain ⟨t, ht, e⟩ := List.mem_iff_getElem.1 hp
  rw [List.getElem_drop] at e
  rw [List.length_drop] at ht
  have h1 := from_idx hr (k := k) (t := i + t) (by omega) (by omega)
  rw [e] at h1
  cases h2 : lessS k p.1 with
  | true => rfl
  | false =>
    have he := lessS_total h1 h2
    by_cases hit : i + t = idxK k l
    · have hz : hasK k l = true := hasK_iff.2 ⟨by omega, by simp only [← hit]; rw [e]; exact he⟩
      rw [hk (by omega)] at hz
      cases hz
    · have h3 := List.pairwise_iff_getElem.1 hr (idxK k l) (i + t) (by omega) (by omega) (by omega)
      rw [e, he] at h3
      have h4 := at_idx (k := k) (l := l) (by omega)
      rw [h3] at h4
      cases h4
theorem putK_rises {k : ByteArray} {l : List (KV V)} (v : V) (hr : Rises l) : Rises (putK k v l) := by
  have hm : ∀ p ∈ l.drop (if hasK k l = true then idxK k l + 1 else idxK k l), lessS k p.1 = true := by
    refine drop_more hr ?_ ?_
    · split <;> omega
    · intro h
      split at h
      · omega
      · rename_i hh; simpa using hh
  unfold putK Rises
  rw [List.pairwise_append]
  refine ⟨hr.sublist (List.take_sublist _ _), List.pairwise_cons.2 ⟨hm, hr.sublist (List.drop_sublist _ _)⟩, ?_⟩
  intro p hp q hq
  rcases List.mem_cons.1 hq with rfl | hq
  · exact take_less p hp
  · exact lessS_trans (take_less p hp) (hm q hq)
theorem delK_rises {k : ByteArray} {l : List (KV V)} (hr : Rises l) : Rises (delK k l) := by
  unfold delK
  split
  · refine hr.sublist ?_
    have := List.Sublist.append (List.Sublist.refl (l.take (idxK k l))) (List.drop_sublist_drop_left l (show idxK k l ≤ idxK k l + 1 by omega))
    rwa [List.take_append_drop] at this
  · exact hr
/-- a list that is less in its first part, and not in its second one -/
theorem idx_parts {k : ByteArray} {a b : List (KV V)} (h1 : ∀ p ∈ a, lessS p.1 k = true) (h2 : ∀ p ∈ b, lessS p.1 k = false) : idxK k (a ++ b) = a.length := by
  refine idx_of (by simp) (fun t h ht => ?_) (fun t h ht => ?_)
  · rw [List.getElem_append_left ht]; exact h1 _ (List.getElem_mem _)
  · rw [List.getElem_append_right ht]; exact h2 _ (List.getElem_mem _)
theorem take_idx_len (k : ByteArray) (l : List (KV V)) : (l.take (idxK k l)).length = idxK k l := by rw [List.length_take]; have := idxK_le k l; omega
theorem less_flip {k : ByteArray} {b : List (KV V)} (h : ∀ p ∈ b, lessS k p.1 = true) : ∀ p ∈ b, lessS p.1 k = false := fun p hp => lessS_asymm (h p hp)
theorem idx_del {k : ByteArray} {l : List (KV V)} (hr : Rises l) : idxK k (delK k l) = idxK k l := by
  cases h : hasK k l with
  | false => rw [delK_no h]
  | true =>
    rw [delK_yes h, idx_parts take_less (less_flip (drop_more hr (by omega) (by omega))), take_idx_len]
theorem has_del {k : ByteArray} {l : List (KV V)} (hr : Rises l) : hasK k (delK k l) = false := by
  cases h : hasK k l with
  | false => rw [delK_no h, h]
  | true =>
    cases h2 : hasK k (delK k l) with
    | false => rfl
    | true =>
      obtain ⟨hi, e⟩ := hasK_iff.1 h2
      have hm : (delK k l)[idxK k (delK k l)] ∈ l.drop (idxK k l + 1) := by
        have e1 := idx_del (k := k) hr
        have e2 := delK_yes h
        have hlt : idxK k l < (l.take (idxK k l) ++ l.drop (idxK k l + 1)).length := by rw [← e2, ← e1]; exact hi
        have : (delK k l)[idxK k (delK k l)] = (l.take (idxK k l) ++ l.drop (idxK k l + 1))[idxK k l] := getElem_of_eq' e2 e1 _ _
        rw [this, List.getElem_append_right (by rw [take_idx_len]; omega)]
        exact List.getElem_mem _
      have h3 := drop_more hr (k := k) (i := idxK k l + 1) (by omega) (by omega) _ hm
      rw [e, lessS_irrefl] at h3
      cases h3
/-- put is: taken away, then put in -/
theorem put_del {k : ByteArray} {l : List (KV V)} (v : V) (hr : Rises l) : (delK k l).take (idxK k (delK k l)) ++ [(k, v)] ++ (delK k l).drop (idxK k (delK k l)) = putK k v l := by
  rw [idx_del hr]
  cases h : hasK k l with
  | false => rw [delK_no h, putK_no v h]
  | true =>
    rw [delK_yes h, putK_yes v h]
    have hl := take_idx_len k l
    rw [List.take_append_of_le_length (by omega), List.take_of_length_le (by omega)]
    rw [List.drop_append_of_le_length (by omega), List.drop_of_length_le (by omega), List.nil_append]
theorem idx_put {k : ByteArray} {l : List (KV V)} (v : V) (hr : Rises l) : idxK k (putK k v l) = idxK k l := by
  have hm : ∀ p ∈ l.drop (if hasK k l = true then idxK k l + 1 else idxK k l), lessS k p.1 = true := by
    refine drop_more hr ?_ ?_
    · split <;> omega
    · intro h
      split at h
      · omega
      · rename_i hh; simpa using hh
  unfold putK
  rw [idx_parts take_less, take_idx_len]
  intro p hp
  rcases List.mem_cons.1 hp with rfl | hp
  · exact lessS_irrefl _
  · exact lessS_asymm (hm p hp)
theorem at_put {k : ByteArray} {l : List (KV V)} (v : V) (hr : Rises l) : atK k (putK k v l) = some v := by
  have e := idx_put v hr (k := k)
  have hl := take_idx_len k l
  have hlt : idxK k l < (putK k v l).length := by unfold putK; rw [List.length_append, List.length_cons, hl]; omega
  refine atK_of (by rw [e]; exact hlt) ?_
  simp only [e]
  unfold putK
  rw [List.getElem_append_right (by omega)]
  simp [hl]
theorem del_put {k : ByteArray} {l : List (KV V)} (v : V) (hr : Rises l) : delK k (putK k v l) = delK k l := by
  have h1 : hasK k (putK k v l) = true := by unfold hasK; rw [at_put v hr]; rfl
  rw [delK_yes h1, idx_put v hr]
  have hl := take_idx_len k l
  have e1 : (putK k v l).take (idxK k l) = l.take (idxK k l) := by
    unfold putK; rw [List.take_append_of_le_length (by omega), List.take_of_length_le (by omega)]
  have e2 : (putK k v l).drop (idxK k l + 1) = l.drop (if hasK k l = true then idxK k l + 1 else idxK k l) := by
    unfold putK; rw [List.drop_append, List.drop_of_length_le (by omega), hl]; simp
  rw [e1, e2]
  cases h : hasK k l with
  | false => rw [delK_no h]; simp
  | true => rw [delK_yes h]; simp
/-- what was put and taken away again, and was there, is there again once it is put -/
theorem put_back {k : ByteArray} {l : List (KV V)} (d v : V) (hr : Rises l) (h : hasK k l = true) : putK k (getK d k l) (delK k (putK k v l)) = l := by
  rw [del_put v hr, ← put_del _ (delK_rises hr)]
  have hn := has_del (k := k) hr
  rw [delK_no hn, idx_del hr, delK_yes h]
  have hl := take_idx_len k l
  obtain ⟨hi, e⟩ := getK_of (d := d) h
  rw [List.take_append_of_le_length (by omega), List.take_of_length_le (by omega)]
  rw [List.drop_append_of_le_length (by omega), List.drop_of_length_le (by omega), List.nil_append, ← e, List.append_assoc, List.singleton_append, ← List.drop_eq_getElem_cons hi, List.take_append_drop]

/-! ### ranges -/
def fromK (k : ByteArray) (l : List (KV V)) : List (KV V) := l.drop (idxK k l)
def underK (k : ByteArray) (l : List (KV V)) : List (KV V) := (fromK k l).takeWhile fun p => beginsS p.1 k
/-- what a range of a kind tells: 5 from a key on, 6 falling, 7 what begins so, else all -/
def rangeK (kind : Int) (k : ByteArray) (l : List (KV V)) : List (KV V) :=
  if kind = 5 then fromK k l else if kind = 6 then l.reverse else if kind = 7 then underK k l else l
theorem from_filter {k : ByteArray} {l : List (KV V)} (hr : Rises l) : fromK k l = l.filter fun p => !lessS p.1 k := by
  have h1 : l.filter (fun p => !lessS p.1 k) = (l.take (idxK k l) ++ l.drop (idxK k l)).filter fun p => !lessS p.1 k := by rw [List.take_append_drop]
  rw [h1, List.filter_append]
  have h2 : (l.take (idxK k l)).filter (fun p => !lessS p.1 k) = [] := by
    rw [List.filter_eq_nil_iff]
    intro p hp
    simp [take_less p hp]
  have h3 : (l.drop (idxK k l)).filter (fun p => !lessS p.1 k) = l.drop (idxK k l) := by
    rw [List.filter_eq_self]
    intro p hp
    obtain ⟨t, ht, e⟩ := List.mem_iff_getElem.1 hp
    rw [List.getElem_drop] at e
    rw [List.length_drop] at ht
    have := from_idx hr (k := k) (t := idxK k l + t) (by omega) (by omega)
    rw [e] at this
    simp [this]
  rw [h2, h3, List.nil_append]; rfl
theorem while_filter {α : Type} (p : α → Bool) : ∀ (l : List α), (∀ i j (hi : i < l.length) (hj : j < l.length), i < j → p l[j] = true → p l[i] = true) → l.takeWhile p = l.filter p
  | [], _ => rfl
  | x :: l, h => by
    have ih := while_filter p l (fun i j hi hj hij hp => by
      have := h (i + 1) (j + 1) (by simpa using hi) (by simpa using hj) (by omega) (by simpa using hp)
      simpa using this)
    cases hx : p x with
    | true => rw [List.takeWhile_cons_of_pos hx, List.filter_cons_of_pos hx, ih]
    | false =>
      rw [List.takeWhile_cons_of_neg (by simp [hx]), List.filter_cons_of_neg (by simp [hx])]
      symm
      rw [List.filter_eq_nil_iff]
      intro y hy hpy
      obtain ⟨t, ht, e⟩ := List.mem_iff_getElem.1 hy
      have := h 0 (t + 1) (by simp) (by simpa using ht) (by omega) (by simpa [e] using hpy)
      simp [hx] at this
theorem under_filter {k : ByteArray} {l : List (KV V)} (hr : Rises l) : underK k l = l.filter fun p => beginsS p.1 k := by
  have hf : Rises (fromK k l) := hr.sublist (List.drop_sublist _ _)
  have h1 : underK k l = (fromK k l).filter fun p => beginsS p.1 k := by
    refine while_filter _ _ (fun i j hi hj hij hp => ?_)
    have h2 := List.pairwise_iff_getElem.1 hf i j hi hj hij
    refine begins_between hp ?_ h2
    have h3 : (fromK k l)[i] ∈ l.filter fun p => !lessS p.1 k := by rw [← from_filter hr]; exact List.getElem_mem _
    have := (List.mem_filter.1 h3).2
    simpa using this
  rw [h1, from_filter hr, List.filter_filter]
  congr 1
  funext p
  cases hb : beginsS p.1 k with
  | false => rfl
  | true => simp [begins_not_less hb]
/-- at most so many (below 0: all) -/
def mostK {α : Type} (most : Int) (l : List α) : List α := if most < 0 then l else l.take most.toNat
theorem rangeK_len (kind : Int) (k : ByteArray) (l : List (KV V)) : (rangeK kind k l).length ≤ l.length := by
  unfold rangeK
  split
  · unfold fromK; rw [List.length_drop]; omega
  · split
    · simp
    · split
      · unfold underK
        refine Nat.le_trans (List.takeWhile_prefix _).length_le ?_
        unfold fromK; rw [List.length_drop]; omega
      · exact Nat.le_refl _
end
end Go.Proofs.Base
