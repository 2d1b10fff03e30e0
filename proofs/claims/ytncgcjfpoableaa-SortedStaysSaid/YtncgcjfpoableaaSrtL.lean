/-
  A range over a function whose iterator may itself range over a function: the iterator's contract asks of the caller's word that it stands the turn of any later block that holds no cells. Nothing of a program; everything at the wide fence.
-/
import Derived.Test.YtncgcjfpoableaaBase
import Derived.RangeFuncNested
import Derived.RangeFuncBound
import Derived.RangeFuncCalls
import Derived.RangeFuncLeaves
import Derived.RangeFuncBox
set_option linter.unusedVariables false
set_option linter.unusedSimpArgs false
namespace Go.Proofs.Base
open Go Go.RowKit

/-- what an iterator that is called in a world later than w, with at least n₂ blocks, does -/
def SeqN {α : Type} (P : Program) (g : Nat) (lb : Array Value) (encs : α → Array Value) (Kp : World → World → Prop) (S Sp Ok : List α → Prop) (n₂ : Nat) (w : World) : Prop :=
  ∀ (l : Nat) (J Jx : List α → World → Prop) (W : World), Below w.heap.size w W → n₂ ≤ W.heap.size → OwnFrom W.heap.size J → OwnFrom W.heap.size Jx →
    (∀ pre x V, J pre V → Ok (pre ++ [x]) → YieldAt Fence.wide 0 P l (encs x) V fun e V' =>
      (e = .returned (.bool true) ∧ J (pre ++ [x]) V' ∧ Kp V V') ∨ (e = .returned (.bool false) ∧ Jx (pre ++ [x]) V' ∧ KeepsFrom n₂ V V')) →
    J [] W →
    CallsIn Fence.wide 0 P g (#[.func (.yield l) #[] #[]] ++ lb) W fun e V => (∃ v, e = .returned v) ∧ ((∃ xs, S xs ∧ J xs V) ∨ (∃ pre, Sp pre ∧ Jx pre V))

theorem SeqN.later {α : Type} {P : Program} {g : Nat} {lb : Array Value} {encs : α → Array Value} {Kp : World → World → Prop} {S Sp Ok : List α → Prop} {n₂ : Nat} {w w' : World} (h : SeqN P g lb encs Kp S Sp Ok n₂ w) (hb : Below w.heap.size w w') : SeqN P g lb encs Kp S Sp Ok n₂ w' :=
  fun l J Jx W hW hn hJ hJx hY h0 => h l J Jx W (below2 hb hW) hn hJ hJx hY h0

theorem KeepsFrom.mono' {B B' : Nat} {W W' : World} (h : KeepsFrom B W W') (hB : B ≤ B') : KeepsFrom B' W W' := ⟨h.size, fun k o hk ho hc => h.same k o (Nat.le_trans hB hk) ho hc⟩
theorem KeepsFrom.turn {B l : Nat} (W : World) (o : Obj) (h : l < B) : KeepsFrom B W (W.putObj l o) := ⟨(grownBy_putObj' W l o).size, fun k o' hk ho _ => ((grownBy_putObj' W l o).block k (lt_of_blk ho) (fun e => by injection e with e; omega)).trans ho⟩
variable {P : Program}
theorem range_law {α : Type} {g : Operand} {ps : Array Tmp} {assign body : Code} {Q : Exit → Act → World → Prop} {a : Act} {w : World} {gf : Nat} {lb : Array Value}
    (hg : a.eval g = .func (.func gf) #[] lb) (eg : ∀ args w, (callFunc gf args).run P w = .ok (.enter gf args) w)
    {encs : α → Array Value} {Kp : World → World → Prop} {S Sp Ok : List α → Prop} (hseq : SeqN P gf lb encs Kp S Sp Ok (w.heap.size + 2) w)
    (hKt : ∀ {A B C : World}, Kp A B → Kp B C → Kp A C) (hKb : ∀ (W : World) (r : Loop) (o : Obj), W.heap[w.heap.size + 1]? = some (.loop r) → Kp W (W.putObj (w.heap.size + 1) o)) (hps : ∀ x, (encs x).size = ps.size)
    (I : List α → World → Prop) (Ix : Code → List α → World → Prop) (hI : OwnFrom w.heap.size I) (hIx : ∀ c, OwnFrom w.heap.size (Ix c)) (h0 : I [] w)
    (Ax : List α → α → Act → World → Prop) (hAx : ∀ pre x a', OwnFrom w.heap.size (fun (_ : Unit) W => Ax pre x a' W))
    (hassign : ∀ (l : Nat) (pre : List α) (x : α) (W : World) (K : Act → World → Prop), I pre W → (∀ a' W', KeepsFrom w.heap.size W W' → Kp W W' → I pre W' → Ax pre x a' W' → K a' W') →
      assign.wpIn (Fence.wide.inRound l) 0 P (Exit.then K (fun _ _ _ => False)) { tmps := (ps.zip (encs x)).foldl (fun t (p, v) => t.setIfInBounds p v) a.tmps, defers := [] } W)
    (hbody : ∀ (l : Nat) (pre : List α) (x : α) (a' : Act) (W : World), w.heap.size + 2 ≤ W.heap.size → I pre W → Ax pre x a' W → Ok (pre ++ [x]) → body.wpIn (Fence.wide.inRound l) 0 P (ownPostG w.heap.size Kp I Ix (pre ++ [x]) W) a' W)
    (hdone : ∀ (D : Nat) (xs : List α) (W : World), w.heap.size ≤ D → S xs → I xs W → W.heap[D]? = some (.deferred (some [])) → Q .normal { a with defers := { target := .collected D, args := #[] } :: a.defers } W)
    (hstop : ∀ (D : Nat) (c : Code) (pre : List α) (W : World), w.heap.size ≤ D → Sp pre → Ix c pre W → W.heap[D]? = some (.deferred (some [])) → c.wpIn Fence.wide 0 P Q { a with defers := { target := .collected D, args := #[] } :: a.defers } W) :
    (Code.rangeFunc g ps assign body).wpIn Fence.wide 0 P Q a w := by
  refine wpIn_rangeFunc (fun fn hfn => ?_)
  -- the two blocks of book-keeping: D the rounds' deferred calls, L the loop's record
  generalize hD : w.heap.size = D at *
  obtain ⟨R, hR⟩ : ∃ R : LoopState → Option Code → Loop, ∀ s p, R s p = { state := s, pending := p, fn := fn, tmps := a.tmps, params := ps, assign := assign, body := body, defers := D } := ⟨_, fun _ _ => rfl⟩
  obtain ⟨V, hV⟩ : ∃ V, V = (w.alloc (.deferred (some []))).alloc (.loop (R .ready none)) := ⟨_, rfl⟩
  have vsize : V.heap.size = D + 2 := by rw [hV]; simp [hD]
  have vL : V.heap[D + 1]? = some (.loop (R .ready none)) := by
    have h := World.alloc_heap_new (w.alloc (.deferred (some []))) (.loop (R .ready none))
    rw [World.size_alloc, hD] at h
    rw [hV]; exact h
  have vD : V.heap[D]? = some (.deferred (some [])) := by
    have h := World.alloc_heap_new w (.deferred (some []))
    rw [hD] at h
    rw [hV]
    exact (Below.heap_alloc _ _ _ (by rw [World.size_alloc, hD]; omega)).trans h
  have vI : I [] V := by rw [hV]; exact hI.alloc _ (hI.alloc _ h0)
  have vB : Below w.heap.size w V := by rw [hV]; exact below_alloc (below_alloc (Below.refl _ _) _) _
  have henter : (Instr.enterLoop fn a.tmps ps assign body Fence.wide.round).run P w = .ok (D + 1, [{ target := .collected D, args := #[] }]) V := by
    have h := run_enterLoop_outer (P := P) (w := w) fn a.tmps ps assign body
    rw [hD] at h
    rw [hV, hR]; exact h
  refine ⟨D + 1, _, V, { target := .fn (.func gf) lb, args := #[.func (.yield (D + 1)) #[] #[]] }, V, gf, #[.func (.yield (D + 1)) #[] #[]] ++ lb, V, henter, ?_, fun _ _ => trivial, ?_, (fun h => by cases h), ?_⟩
  · simp only [resolve, hg]
    simp [go_sem]
  · simp [invoke, go_sem, eg]
  -- the caller's word, with the book-keeping beside it
  have far : ∀ {A : World} {row : Option Nat}, (∀ r, row = some r → V.heap.size ≤ r ∧ ∃ o : Obj, A.heap[r]? = some o ∧ o.isCells = false) → ∀ r, row = some r → D ≤ r ∧ ∃ o : Obj, A.heap[r]? = some o ∧ o.isCells = false :=
    fun h r e => by have := h r e; rw [vsize] at this; exact ⟨by omega, this.2⟩
  have stays : ∀ {A B : World} {row : Option Nat} {k : Nat} {o : Obj}, A.grownBy B row → (∀ r, row = some r → V.heap.size ≤ r ∧ ∃ o : Obj, A.heap[r]? = some o ∧ o.isCells = false) → k < D + 2 → A.heap[k]? = some o → B.heap[k]? = some o :=
    fun hgr hr hk ho => (hgr.block _ (lt_of_blk ho) (fun e => by have := (hr _ e.symm).1; rw [vsize] at this; omega)).trans ho
  have hcall := hseq (D + 1) (fun pre W => I pre W ∧ W.heap[D + 1]? = some (.loop (R .ready none)) ∧ W.heap[D]? = some (.deferred (some [])))
    (fun pre W => ∃ c, Ix c pre W ∧ W.heap[D + 1]? = some (.loop (R .done (some c))) ∧ W.heap[D]? = some (.deferred (some []))) V vB (by rw [vsize]; exact Nat.le_refl _)
    (fun s A B row hs hgr hr => ⟨hI s A B row hs.1 hgr (far hr), stays hgr hr (by omega) hs.2.1, stays hgr hr (by omega) hs.2.2⟩)
    (fun s A B row hs hgr hr => by
      obtain ⟨c, h1, h2, h3⟩ := hs
      exact ⟨c, hIx c s A B row h1 hgr (far hr), stays hgr hr (by omega) h2, stays hgr hr (by omega) h3⟩)
  refine (hcall ?round ⟨vI, vL, vD⟩).mono ?after
  case round =>
    rintro pre x W ⟨hi, hl, hd⟩ hlen
    have hy := run_yield (P := P) (args := encs x) hl (by rw [hR]; exact hps x)
    have e1 : (R .ready none).fn = fn ∧ (R .ready none).tmps = a.tmps ∧ (R .ready none).params = ps ∧ (R .ready none).assign = assign ∧ (R .ready none).body = body := by rw [hR]; exact ⟨rfl, rfl, rfl, rfl, rfl⟩
    rw [e1.1, e1.2.1, e1.2.2.1, e1.2.2.2.1, e1.2.2.2.2] at hy
    refine ⟨fn, _, assign, body, hy, roundIn_of_wpIn hfn (hassign _ pre x W _ hi ?_)⟩
    intro a' U hkeep hkp hiU hax
    have hlU := hkeep.same _ _ (by omega) hl rfl
    have hdU := hkeep.same _ _ (Nat.le_refl _) hd rfl
    have ltL : D + 1 < U.heap.size := lt_of_blk hlU
    refine ⟨_, run_beginRound hlU (by rw [hR]), ?_⟩
    have eb : ({ R .ready none with state := .busy } : Loop) = R .busy none := by rw [hR, hR]
    rw [eb]
    have hlB : (U.putObj (D + 1) (.loop (R .busy none))).heap[D + 1]? = some (.loop (R .busy none)) := World.putObj_heap_same ltL
    have hdB : (U.putObj (D + 1) (.loop (R .busy none))).heap[D]? = some (.deferred (some [])) := (World.putObj_heap_other (by omega)).trans hdU
    have hkB : Kp U (U.putObj (D + 1) (.loop (R .busy none))) := hKb U _ _ hlU
    have hsz : D + 2 ≤ (U.putObj (D + 1) (.loop (R .busy none))).heap.size := by have := lt_of_blk hlB; omega
    refine wpIn_mono (hbody _ pre x a' _ hsz (hI.putObj _ hiU (by omega) hlU rfl) ((hAx pre x a').putObj (s := ()) _ hax (by omega) hlU rfl) hlen) ?_
    -- how a round ends, whatever its jump
    have ends : ∀ (jump : Option Code) (Z : World), KeepsFrom D (U.putObj (D + 1) (.loop (R .busy none))) Z →
        (Instr.endRound (D + 1) jump).run P Z = .ok (.bool jump.isNone) (Z.putObj (D + 1) (.loop (R (if jump.isNone then .ready else .done) jump))) ∧ Z.heap[D + 1]? = some (.loop (R .busy none)) ∧
          (Z.putObj (D + 1) (.loop (R (if jump.isNone then .ready else .done) jump))).heap[D + 1]? = some (.loop (R (if jump.isNone then .ready else .done) jump)) ∧
          (Z.putObj (D + 1) (.loop (R (if jump.isNone then .ready else .done) jump))).heap[D]? = some (.deferred (some [])) := by
      intro jump Z hz
      have zl := hz.same _ _ (by omega) hlB rfl
      have zd := hz.same _ _ (Nat.le_refl _) hdB rfl
      have hrun := run_endRound (P := P) jump zl
      have ej : ({ R .busy none with state := if jump.isNone then .ready else .done, pending := jump } : Loop) = R (if jump.isNone then .ready else .done) jump := by rw [hR, hR]
      rw [ej] at hrun
      exact ⟨hrun, zl, World.putObj_heap_same (lt_of_blk zl), (World.putObj_heap_other (by omega)).trans zd⟩
    have left : ∀ (c : Code) (Z : World), KeepsFrom D (U.putObj (D + 1) (.loop (R .busy none))) Z → Ix c (pre ++ [x]) Z → ∃ b Z', (Instr.endRound (D + 1) (some c)).run P Z = .ok (.bool b) Z' ∧ b = false ∧
        KeepsFrom (D + 2) W Z' ∧ (∃ c, Ix c (pre ++ [x]) Z' ∧ Z'.heap[D + 1]? = some (.loop (R .done (some c))) ∧ Z'.heap[D]? = some (.deferred (some []))) := by
      intro c Z hz hc
      obtain ⟨h1, h2, h3, h4⟩ := ends (some c) Z hz
      exact ⟨_, _, h1, rfl, (((KeepsFrom.mono' hkeep (by omega)).trans (KeepsFrom.turn U _ (by omega))).trans (KeepsFrom.mono' hz (by omega))).trans (KeepsFrom.turn Z _ (by omega)), c, (hIx c).putObj _ hc (by omega) h2 rfl, h3, h4⟩
    rintro e a3 Z hp
    cases e with
    | normal =>
      obtain ⟨hz, hkz, hiz⟩ := hp
      obtain ⟨h1, h2, h3, h4⟩ := ends none Z hz
      exact ⟨_, _, h1, .inl ⟨rfl, ⟨hI.putObj _ hiz (by omega) h2 rfl, h3, h4⟩, hKt hkp (hKt (hKt hkB hkz) (hKb Z _ _ h2))⟩⟩
    | ret =>
      obtain ⟨b, Z', h1, rfl, hkf, h2⟩ := left .ret Z hp.1 hp.2
      exact ⟨_, _, h1, .inr ⟨rfl, h2, hkf⟩⟩
    | exit id =>
      obtain ⟨b, Z', h1, rfl, hkf, h2⟩ := left (.exit id) Z hp.1 hp.2
      exact ⟨_, _, h1, .inr ⟨rfl, h2, hkf⟩⟩
    | goto t =>
      obtain ⟨b, Z', h1, rfl, hkf, h2⟩ := left (.goto t) Z hp.1 hp.2
      exact ⟨_, _, h1, .inr ⟨rfl, h2, hkf⟩⟩
    | panic ch => exact hp.elim
    | outgrown => exact hp.elim
  case after =>
    rintro e Z ⟨⟨v, rfl⟩, ⟨xs, hS, hi, hl, hd⟩ | ⟨pre, hSp, c, hi, hl, hd⟩⟩
    · have h := run_endLoop (P := P) hl (by rw [hR]; simp)
      exact ⟨none, _, by rw [h, hR], hdone D xs _ (Nat.le_refl _) hS (hI.putObj _ hi (by omega) hl rfl) ((World.putObj_heap_other (by omega)).trans hd)⟩
    · have h := run_endLoop (P := P) hl (by rw [hR]; simp)
      exact ⟨some c, _, by rw [h, hR], hstop D c pre _ (Nat.le_refl _) hSp ((hIx c).putObj _ hi (by omega) hl rfl) ((World.putObj_heap_other (by omega)).trans hd)⟩
end Go.Proofs.Base
