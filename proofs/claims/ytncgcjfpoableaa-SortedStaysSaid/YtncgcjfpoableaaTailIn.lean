/-
  A region that draws its order, within a round of a range over a function: what the plain walk shows holds there too, for a region that defers nothing.
-/
import Derived.Test.YtncgcjfpoableaaTail
import Derived.OrdersIn
import Derived.OwnWalkIn
set_option linter.unusedVariables false
set_option linter.unusedSimpArgs false
namespace Go.Proofs.Base
open Go Go.RowKit
open Go.Sort (grow grow_empty)
section
variable {P : Program} {Q : Exit → Act → World → Prop} {lr : Nat}
def noDefer (o : Oper) : Bool := match o.op with | .defer _ => false | _ => true
theorem noDefer_ne {o : Oper} (h : noDefer o = true) : ∀ c, o.op ≠ .defer c := by
  intro c e
  unfold noDefer at h
  rw [e] at h
  cases h
theorem opIn_of_op {o : Oper} {a : Act} {w : World} {next : Act → World → Prop} (hd : noDefer o = true) (h : o.wp P a w next Q) : o.wpIn (Fence.wide.inRound lr) 0 P a w next Q := by
  unfold Oper.wp at h
  unfold Oper.wpIn
  refine ⟨fun _ _ => trivial, ?_⟩
  rw [Oper.semAt_eq _ _ _ (noDefer_ne hd)]
  generalize (execOp a.eval o).run P w = r at *
  cases r with
  | ok x w' =>
    cases x with
    | enter f args => exact ⟨(fun h => by cases h), CallsIn.mono (F := Fence.wide.inRound lr) (callsIn_wide.2 h) (fun e w'' he => by cases e <;> exact he)⟩
    | row row args => exact ⟨(fun h => by cases h), fun c cs _ => let ⟨v, w2, r, s⟩ := h c cs; ⟨v, w2, r, stepsIn_wide.2 s⟩⟩
    | round l f tmps assign body => exact h.elim
    | _ => exact h
  | halt x w' => cases x <;> exact h
theorem opsIn_of_ops {ops : Array Oper} (hL : ¬ LetsOut Q) (hd : ops.all noDefer = true) {i : Nat} {K : Act → World → Prop} {a : Act} {w : World} (h : wpOp P ops Q i K a w) : wpOpIn (Fence.wide.inRound lr) 0 P ops Q i K a w := by
  unfold wpOp at h
  unfold wpOpIn
  cases ho : ops[i]? with
  | none => rw [ho] at h; exact h
  | some o =>
    rw [ho] at h
    simp only at h ⊢
    have hdo : noDefer o = true := by
      obtain ⟨hi, rfl⟩ := Array.getElem?_eq_some_iff.1 ho
      exact Array.all_eq_true.1 hd i hi
    split
    · rename_i hw
      rw [if_pos hw] at h
      exact opIn_of_op hdo (h.resolve_right (fun h => hL h.2))
    · rename_i hw
      rw [if_neg hw] at h
      exact ⟨fun _ _ => trivial, h⟩
theorem anyIn_of_any {md : Region.Mode} {ops : Array Oper} (hL : ¬ LetsOut Q) (hd : ops.all noDefer = true) : ∀ (m : Nat) (ls : Array Bool) (a : Act) (w : World), wpAny P md ops Q m ls a w → wpAnyIn (Fence.wide.inRound lr) 0 P md ops Q m ls a w := by
  intro m
  induction m with
  | zero => intro ls a w h; exact h
  | succ m ih => intro ls a w h; exact ⟨h.1, fun i hi => wpOpIn_mono (fun a w h => ih _ a w h) (opsIn_of_ops hL hd (h.2 i hi))⟩
/-- quiet operations, then the last one, in the order of the text, in a round -/
theorem wpIn_region_quiet_tail {id : Nat} {a : Act} {w : World} (l : List Oper) (t : Oper) (hL : ¬ LetsOut Q) (hm : P.follows .mixedOrders = true) (hB : Region.lexB .any l.toArray = true) (hb : backB (l ++ [t]) = true) (hg : guardB l = true)
    (hs : Region.sinkB .any (l ++ [t]).toArray l.length = true) (hc : Region.chainB .any (l ++ [t]).toArray l.length = true) (hd : (l ++ [t]).toArray.all noDefer = true)
    (h : wpQuiet P l.toArray (fun w' => ∃ p : Regrown, w' = grow (redrawn w p.d) p.os) (fun a' => ∀ w', (∃ p : Regrown, w' = grow (redrawn w p.d) p.os) → wpList P (l ++ [t]).toArray Q [t] a' w') l a) :
    (Code.region id (l ++ [t]).toArray true).wpIn (Fence.wide.inRound lr) 0 P Q a w := by
  have hC : (fun w' : World => ∃ p : Regrown, w' = grow (redrawn w p.d) p.os) { w with drawn := w.drawn + 1 } := ⟨⟨w.drawn + 1, #[]⟩, by rw [grow_empty]; rfl⟩
  simp only [Region.lexB, Bool.and_eq_true] at hB
  refine wpIn_region_any hm (anyIn_of_any hL hd _ _ _ _ ?_)
  have h1 := wpAnyQ_lex (C := fun w' : World => ∃ p : Regrown, w' = grow (redrawn w p.d) p.os) (md := .any) hB.1 l 0 (Array.replicate l.length false) a (by simp) (by simpa using hB.2) h
  have h2 := tail_any (P := P) (Q := Q) (C := fun w' : World => ∃ p : Regrown, w' = grow (redrawn w p.d) p.os) (Q1 := fun a' => ∀ w', (∃ p : Regrown, w' = grow (redrawn w p.d) p.os) → wpList P (l ++ [t]).toArray Q [t] a' w') hb hg hs hc (fun a W hC hq => hq W hC) l.length (Array.replicate (l.length + 1) false) (Array.replicate l.length false) a _
    ⟨by simp, (fun j oj hj hl => by rw [getD_replicate_false] at hl; cases hl), (fun t h1 h2 => by
      have h3 : t < l.length + 1 := by simpa using h2
      simp [h3])⟩
    ⟨by simp, by simp, (fun j hj d => by
      have h3 : j < l.length + 1 := by omega
      simp [hj, h3])⟩ hC h1
  simpa using h2
end
end Go.Proofs.Base
