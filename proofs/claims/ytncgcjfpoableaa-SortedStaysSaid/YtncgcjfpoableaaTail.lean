/-
  A region that draws its order: quiet operations, then one last one that waits for all of them: walked in the order of the text.
-/
import Derived.Test.YtncgcjfpoableaaBase
import Derived.StillTail
set_option linter.unusedVariables false
set_option linter.unusedSimpArgs false
namespace Go.Proofs.Base
open Go Go.RowKit
open Go.Sort (grow grow_empty)

/-- Every operation waits for earlier ones alone. -/
def backB (l : List Oper) : Bool := (List.range l.length).all fun i => match l[i]? with
  | some o => o.after.all fun e => !Region.binds .any e || decide (e.on < i)
  | none => true
theorem backB_spec {l : List Oper} (h : backB l = true) {i : Nat} {o : Oper} (hi : l[i]? = some o) : ∀ e ∈ o.after, Region.binds .any e = true → e.on < i := by
  intro e he hb
  have hlt : i < l.length := (List.getElem?_eq_some_iff.1 hi).1
  have h1 := List.all_eq_true.1 h i (List.mem_range.2 hlt)
  simp only [hi] at h1
  have h2 := Array.all_eq_true_iff_forall_mem.1 h1 e he
  simp only [hb, Bool.not_true, Bool.false_or, decide_eq_true_eq] at h2
  exact h2

section
variable {P : Program} {l : List Oper} {t : Oper} {Q : Exit → Act → World → Prop} {C : World → Prop} {Q1 : Act → Prop}

/-- The two books agree below n. -/
def Agree (n : Nat) (lst lsa : Array Bool) : Prop := lsa.size = n ∧ lst.size = n + 1 ∧ ∀ j, j < n → ∀ d, lst.getD j d = lsa.getD j d

theorem ready_agree (hb : backB (l ++ [t]) = true) {lst lsa : Array Bool} (ha : Agree l.length lst lsa) {i : Nat} (hi : i < l.length) :
    i ∈ Region.ready .any (l ++ [t]).toArray lst ↔ i ∈ Region.ready .any l.toArray lsa := by
  rw [mem_ready, mem_ready, ha.2.2 i hi]
  have e1 : (l ++ [t]).toArray[i]? = l.toArray[i]? := by simp [List.getElem?_append_left hi]
  rw [e1]
  constructor
  · rintro ⟨h0, o, ho, h⟩
    refine ⟨h0, o, ho, fun e he hbd => ?_⟩
    have hlt := backB_spec hb (i := i) (o := o) (by simpa [List.getElem?_append_left hi] using ho) e he hbd
    rw [← ha.2.2 e.on (by omega)]
    exact h e he hbd
  · rintro ⟨h0, o, ho, h⟩
    refine ⟨h0, o, ho, fun e he hbd => ?_⟩
    have hlt := backB_spec hb (i := i) (o := o) (by simpa [List.getElem?_append_left hi] using ho) e he hbd
    rw [ha.2.2 e.on (by omega)]
    exact h e he hbd

theorem some_ready (hb : backB (l ++ [t]) = true) {lsa : Array Bool} (hs : lsa.size = l.length) : ∀ (i : Nat), i < l.length → lsa.getD i true = false → ∃ j, j < l.length ∧ j ∈ Region.ready .any l.toArray lsa := by
  intro i
  induction i using Nat.strongRecOn with
  | _ i ih =>
    intro hi hun
    by_cases hall : ∀ j, j < i → lsa.getD j false = true
    · refine ⟨i, hi, ?_⟩
      rw [mem_ready]
      refine ⟨hun, l[i], by simp [hi], fun e he hbd => ?_⟩
      have hlt := backB_spec hb (i := i) (o := l[i]) (by simp [List.getElem?_append_left hi]) e he hbd
      exact hall e.on hlt
    · obtain ⟨j, hj⟩ := Classical.not_forall.1 hall
      obtain ⟨hji, hj2⟩ := Classical.not_imp.1 hj
      have hf : lsa.getD j false = false := by simpa using hj2
      exact ih j hji (by omega) (getD_in (by omega) hf)

theorem set_agree {n : Nat} {lst lsa : Array Bool} (ha : Agree n lst lsa) (i : Nat) : Agree n (lst.setIfInBounds i true) (lsa.setIfInBounds i true) := by
  refine ⟨by simp [ha.1], by simp [ha.2.1], fun j hj d => ?_⟩
  by_cases hij : i = j
  · subst hij
    have h1 : i < lst.size := by rw [ha.2.1]; omega
    have h2 : i < lsa.size := by rw [ha.1]; exact hj
    simp [h1, h2]
  · rw [getD_set_ne d hij, getD_set_ne d hij]
    exact ha.2.2 j hj d

theorem all_done (hb : backB (l ++ [t]) = true) {lst : Array Bool} (hsz : lst.size = l.length + 1) (hall : ∀ j, j < l.length → lst.getD j false = true) (hn : lst.getD l.length true = false) {a : Act} {W : World}
    (h : wpList P (l ++ [t]).toArray Q [t] a W) (m : Nat) : wpAny P .any (l ++ [t]).toArray Q (m + 1) lst a W := by
  have hr : ∀ i, i ∈ Region.ready .any (l ++ [t]).toArray lst ↔ i = l.length := by
    intro i
    constructor
    · intro hi
      obtain ⟨h0, o, ho, _⟩ := mem_ready.1 hi
      have hlt : i < l.length + 1 := by have := (Array.getElem?_eq_some_iff.1 ho).1; simpa using this
      rcases Nat.lt_or_ge i l.length with h1 | h1
      · have := hall i h1
        rw [getD_both h0] at this
        cases this
      · omega
    · rintro rfl
      rw [mem_ready]
      refine ⟨hn, t, by simp, fun e he hbd => hall e.on ?_⟩
      exact backB_spec hb (i := l.length) (o := t) (by simp) e he hbd
  have hfin : ∀ i, i ∉ Region.ready .any (l ++ [t]).toArray (lst.setIfInBounds l.length true) := by
    intro i hi
    obtain ⟨h0, o, ho, _⟩ := mem_ready.1 hi
    have hlt : i < l.length + 1 := by have := (Array.getElem?_eq_some_iff.1 ho).1; simpa using this
    by_cases h1 : i = l.length
    · subst h1
      have h2 : l.length < lst.size := by omega
      simp [h2] at h0
    · rw [getD_set_ne true (Ne.symm h1)] at h0
      have := hall i (by omega)
      rw [getD_both h0] at this
      cases this
  have hnil : Region.ready .any (l ++ [t]).toArray (lst.setIfInBounds l.length true) = [] := List.eq_nil_iff_forall_not_mem.2 hfin
  have hK : ∀ a W, Q .normal a W → wpAny P .any (l ++ [t]).toArray Q m (lst.setIfInBounds l.length true) a W := by
    intro a W hq
    cases m with
    | zero => exact ⟨hnil, hq⟩
    | succ m => exact ⟨fun _ => hq, fun i hi => absurd hi (hfin i)⟩
  refine ⟨fun h0 => ?_, fun i hi => ?_⟩
  · have := (hr l.length).2 rfl
    rw [h0] at this
    cases this
  · rw [(hr i).1 hi]
    have e1 : (l ++ [t]).toArray[l.length]? = some t := by simp
    unfold wpOp
    simp only [e1]
    unfold wpList at h
    by_cases hw : Region.wanted t (yielded (l ++ [t]).toArray a.tmps) = true
    · rw [if_pos hw] at h ⊢
      rcases h with h | h
      · exact .inl (Oper.wp_mono (fun a W hq => hK a W hq) h)
      · exact .inr h
    · rw [if_neg hw] at h ⊢
      exact hK _ _ h

theorem yielded_app {a : Array Value} {o : Oper} (hg : ∀ g b, o.guard = some (g, b) → g < l.length) : Region.wanted o (yielded (l ++ [t]).toArray a) = Region.wanted o (yielded l.toArray a) := by
  unfold Region.wanted
  cases h : o.guard with
  | none => rfl
  | some p =>
    obtain ⟨g, b⟩ := p
    have := hg g b h
    simp only [yielded]
    have e : (l ++ [t]).toArray[g]? = l.toArray[g]? := by simp [List.getElem?_append_left this]
    rw [e]
def guardB (l : List Oper) : Bool := l.all fun o => match o.guard with
  | some (g, _) => decide (g < l.length)
  | none => true

theorem tail_any (hb : backB (l ++ [t]) = true) (hg : guardB l = true) (hs : Region.sinkB .any (l ++ [t]).toArray l.length = true) (hc : Region.chainB .any (l ++ [t]).toArray l.length = true)
    (hQ : ∀ a W, C W → Q1 a → wpList P (l ++ [t]).toArray Q [t] a W) : ∀ (f : Nat) (lst lsa : Array Bool) (a : Act) (W : World), HeadInv .any (l ++ [t]).toArray l.length lst → Agree l.length lst lsa → C W →
    wpAnyQ P .any l.toArray C Q1 f lsa a → wpAny P .any (l ++ [t]).toArray Q (f + 1) lst a W := by
  have hn : l.length < (l ++ [t]).toArray.size := by simp
  have htl : ∀ lst, HeadInv .any (l ++ [t]).toArray l.length lst → lst.getD l.length true = false := fun lst inv => inv.tail l.length (Nat.le_refl _) hn
  have hdone : ∀ (lst lsa : Array Bool), Agree l.length lst lsa → Region.ready .any l.toArray lsa = [] → ∀ j, j < l.length → lst.getD j false = true := by
    intro lst lsa ha hr j hj
    cases h : lst.getD j false with
    | true => rfl
    | false =>
      rw [ha.2.2 j hj] at h
      obtain ⟨k, _, hk⟩ := some_ready hb ha.1 j hj (getD_in (by rw [ha.1]; exact hj) h)
      rw [hr] at hk
      cases hk
  intro f
  induction f with
  | zero =>
    intro lst lsa a W inv ha hC h
    exact all_done hb (by rw [ha.2.1]) (hdone lst lsa ha h.1) (htl lst inv) (hQ a W hC h.2) 0
  | succ f ih =>
    intro lst lsa a W inv ha hC h
    by_cases hr : Region.ready .any l.toArray lsa = []
    · exact all_done hb (by rw [ha.2.1]) (hdone lst lsa ha hr) (htl lst inv) (hQ a W hC (h.1 hr)) (f + 1)
    · obtain ⟨k, hk⟩ := List.exists_mem_of_ne_nil _ hr
      have hkl : k < l.length := by
        obtain ⟨_, o, ho, _⟩ := mem_ready.1 hk
        have := (Array.getElem?_eq_some_iff.1 ho).1
        simpa using this
      have hk' := (ready_agree hb ha hkl).2 hk
      refine ⟨fun h0 => (by rw [h0] at hk'; cases hk'), fun i hi => ?_⟩
      have hil : i < l.length := by
        rcases Nat.lt_or_ge i l.length with h1 | h1
        · exact h1
        · exact absurd hi (tail_waits hs hc hn inv _ k rfl hkl (mem_ready.1 hk').1 i h1)
      have hq := h.2 i ((ready_agree hb ha hil).1 hi)
      have e1 : (l ++ [t]).toArray[i]? = some l[i] := by simp [List.getElem?_append_left hil]
      have e2 : l.toArray[i]? = some l[i] := by simp [hil]
      have hgi : ∀ g b, l[i].guard = some (g, b) → g < l.length := by
        intro g b hgb
        have h1 := List.all_eq_true.1 hg l[i] (List.getElem_mem hil)
        rw [hgb] at h1
        simpa using h1
      have hq' : qOp P (l ++ [t]).toArray C i (wpAnyQ P .any l.toArray C Q1 f (lsa.setIfInBounds i true)) a := by
        unfold qOp at hq ⊢
        simp only [e1, e2] at hq ⊢
        rw [yielded_app hgi]
        exact hq
      exact wpOp_of_qOp hC (fun a' W' hC' hK => ih _ _ a' W' (inv.set hi hil) (set_agree ha i) hC' hK) hq'

/-- ONE WALK IN THE ORDER OF THE TEXT: quiet operations, then the last one, in whatever world of the class. -/
theorem wp_region_quiet_tail {id : Nat} {a : Act} {w : World} (l : List Oper) (t : Oper) (hm : P.follows .mixedOrders = true) (hB : Region.lexB .any l.toArray = true) (hb : backB (l ++ [t]) = true) (hg : guardB l = true)
    (hs : Region.sinkB .any (l ++ [t]).toArray l.length = true) (hc : Region.chainB .any (l ++ [t]).toArray l.length = true)
    (h : wpQuiet P l.toArray (fun w' => ∃ p : Regrown, w' = grow (redrawn w p.d) p.os) (fun a' => ∀ w', (∃ p : Regrown, w' = grow (redrawn w p.d) p.os) → wpList P (l ++ [t]).toArray Q [t] a' w') l a) :
    (Code.region id (l ++ [t]).toArray true).wp P Q a w := by
  have hC : (fun w' : World => ∃ p : Regrown, w' = grow (redrawn w p.d) p.os) { w with drawn := w.drawn + 1 } := ⟨⟨w.drawn + 1, #[]⟩, by rw [grow_empty]; rfl⟩
  simp only [Region.lexB, Bool.and_eq_true] at hB
  refine wp_region_any hm ?_
  have h1 := wpAnyQ_lex (C := fun w' : World => ∃ p : Regrown, w' = grow (redrawn w p.d) p.os) (md := .any) hB.1 l 0 (Array.replicate l.length false) a (by simp) (by simpa using hB.2) h
  have h2 := tail_any (P := P) (Q := Q) (C := fun w' : World => ∃ p : Regrown, w' = grow (redrawn w p.d) p.os) (Q1 := fun a' => ∀ w', (∃ p : Regrown, w' = grow (redrawn w p.d) p.os) → wpList P (l ++ [t]).toArray Q [t] a' w') hb hg hs hc (fun a W hC hq => hq W hC) l.length (Array.replicate (l.length + 1) false) (Array.replicate l.length false) a _
    ⟨by simp, (fun j oj hj hl => by rw [getD_replicate_false] at hl; cases hl), (fun t h1 h2 => by
      have h3 : t < l.length + 1 := by simpa using h2
      simp [h3])⟩
    ⟨by simp, by simp, (fun j hj d => by
      have h3 : j < l.length + 1 := by omega
      simp [hj, h3])⟩ hC h1
  simpa using h2
end
end Go.Proofs.Base
