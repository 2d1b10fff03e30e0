/-
  Merged from Fe_send, Fu_late, FoV, FoP, FoR, FfTok, FfJob, FoTk, BoxL, FoBx, FoAk.
-/
import Derived.Test.YtgpkmellpllmgaaGreatQ224e00985568
import Derived.Test.YtgpkmellpllmgaaGreatQ0f593912aaae
import Derived.Test.YtgpkmellpllmgaaGreatQb62ecbabc510
import Derived.Test.YtgpkmellpllmgaaGreatQa004b1d5b8b9
import Derived.Test.YtgpkmellpllmgaaGreatQ98b0788c8bfe
import Derived.Laws.Rows
import Derived.Laws.Tables
import Derived.Laws.StructEq
/-
  fold.sending. Printed by gfold2.py.
-/
set_option linter.unusedVariables false
set_option linter.unusedSimpArgs false
namespace Go.Proofs.YtgpkmellpllmgaaGreat
open Go Go.RowKit Go.Proofs.Base
open Go.Sort (grow)
end Go.Proofs.YtgpkmellpllmgaaGreat
/-
  sending, missed, from a state to a state. Printed by gfold2.py.
-/
set_option linter.unusedVariables false
set_option linter.unusedSimpArgs false
namespace Go.Proofs.YtgpkmellpllmgaaGreat
open Go Go.RowKit Go.Proofs.Base
open Go.Sort (grow)
end Go.Proofs.YtgpkmellpllmgaaGreat
/-
  fold.Apply, whole. Printed by gfold2.py.
-/
set_option linter.unusedVariables false
set_option linter.unusedSimpArgs false
namespace Go.Proofs.YtgpkmellpllmgaaGreat
open Go Go.RowKit Go.Proofs.Base
open Go.Sort (grow)
end Go.Proofs.YtgpkmellpllmgaaGreat
/-
  Plain laws of what fold.Apply does: lengths, keys, rising lists, how many keys were given. Printed by gfold11.py.
-/
set_option linter.unusedVariables false
set_option linter.unusedSimpArgs false
namespace Go.Proofs.Base
open Go Go.RowKit
theorem ite_both {α : Type} {P : α → Prop} {c : Prop} [Decidable c] {a b : α} (h1 : c → P a) (h2 : ¬c → P b) : P (if c then a else b) := by
  by_cases h : c
  · rw [if_pos h]; exact h1 h
  · rw [if_neg h]; exact h2 h
theorem memP {α : Type} {c : α → α → Int} {x y : α} {l : List α} (h : y ∈ putL c x l) : y = x ∨ y ∈ l := by
  unfold putL at h
  split at h
  · exact (List.mem_or_eq_of_mem_set h).symm
  · rcases List.mem_append.1 h with h | h
    · exact .inr (List.mem_of_mem_take h)
    · rcases List.mem_cons.1 h with h | h
      · exact .inl h
      · exact .inr (List.mem_of_mem_drop h)
theorem changeP_cases {α : Type} (p : α → Bool) (f : α → α) (l : List α) : changeL p f l = l ∨ ∃ i, ∃ h : i < l.length, changeL p f l = l.set i (f l[i]) := by
  rcases idxP_spec p l with ⟨h1, -⟩ | ⟨j, hj, h1, -, -⟩
  · left; unfold changeL; rw [h1, if_pos (by decide)]
  · right; exact ⟨j, hj, (changeL_of (.inr ⟨j, hj, _, h1, rfl, rfl⟩)).symm⟩
theorem memC {α : Type} {p : α → Bool} {f : α → α} {y : α} {l : List α} (h : y ∈ changeL p f l) : y ∈ l ∨ ∃ x ∈ l, y = f x := by
  rcases changeP_cases p f l with e | ⟨i, hi, e⟩
  · rw [e] at h; exact .inl h
  · rw [e] at h
    exact (List.mem_or_eq_of_mem_set h).elim .inl (fun e => .inr ⟨_, List.getElem_mem hi, e⟩)
structure Small (N : Nat) (g : GSt) : Prop where
  procs : g.procs.length ≤ N
  insts : g.insts.length ≤ N
  tokens : g.tokens.length ≤ N
  jobs : g.jobs.length ≤ N
  timers : g.timers.length ≤ N
  subs : g.subs.length ≤ N
  kept : g.kept.length ≤ N
  listed : g.listed.length ≤ N
  msgs : g.msgs.length ≤ N
  ints : ∀ x ∈ g.msgs, x.insts.length ≤ N
theorem Small.up {N : Nat} {g : GSt} (h : Small N g) : Small (N + 1) g := ⟨Nat.le_succ_of_le h.procs, Nat.le_succ_of_le h.insts, Nat.le_succ_of_le h.tokens, Nat.le_succ_of_le h.jobs, Nat.le_succ_of_le h.timers, Nat.le_succ_of_le h.subs, Nat.le_succ_of_le h.kept, Nat.le_succ_of_le h.listed, Nat.le_succ_of_le h.msgs, fun x hx => Nat.le_succ_of_le (h.ints x hx)⟩
theorem small_goneP {N : Nat} {g : GSt} {p : ETok → Bool} {al : Int → Bool} (h : Small N g) : Small N (goneP p al g) :=
  { h with tokens := Nat.le_trans (List.length_filter_le _ _) h.tokens, jobs := Nat.le_trans (List.length_filter_le _ _) h.jobs, timers := Nat.le_trans (List.length_filter_le _ _) h.timers, subs := Nat.le_trans (List.length_filter_le _ _) h.subs }
theorem small_sendP {N : Nat} {g : GSt} {r : GRec} (h : Small N g) : Small (N + 1) (sendP r g) := by
  unfold sendP
  split
  · split
    · exact h.up
    · refine { h.up with listed := ?_, msgs := ?_, ints := ?_ }
      · simpa only [changeL_len] using h.up.listed
      · simpa only [changeL_len] using h.up.msgs
      · intro x hx
        rcases memC hx with hx | ⟨y, hy, rfl⟩
        · exact h.up.ints x hx
        · have := h.ints y hy
          simp only [List.length_append, List.length_cons, List.length_nil]
          omega
  · exact h.up
theorem small_missP {N : Nat} {g : GSt} {r : GRec} (h : Small N g) : Small N (missP r g) := by
  unfold missP
  split
  · split
    · exact h
    · refine { h with listed := Nat.le_trans (List.length_filter_le _ _) h.listed, msgs := ?_, ints := ?_ }
      · simpa only [changeL_len] using h.msgs
      · intro x hx
        rcases memC hx with hx | ⟨y, hy, rfl⟩
        · exact h.ints x hx
        · exact Nat.le_trans (List.length_filter_le _ _) (h.ints y hy)
  · exact h
theorem small_evP {N : Nat} {g : GSt} {r : GRec} (h : Small N g) : Small (N + 1) (evP r g) := by
  unfold evP
  refine ite_both (P := fun g1 : GSt => Small (N + 1) g1) (fun h1 => ?_) (fun h1 => ?_)
  · exact { h.up with procs := Nat.le_trans (putL_len _ _ _) (Nat.succ_le_succ h.procs) }
  refine ite_both (P := fun g1 : GSt => Small (N + 1) g1) (fun h2 => ?_) (fun h2 => ?_)
  · exact { h.up with insts := Nat.le_trans (putL_len _ _ _) (Nat.succ_le_succ h.insts) }
  refine ite_both (P := fun g1 : GSt => Small (N + 1) g1) (fun h3 => ?_) (fun h3 => ?_)
  · exact { h.up with tokens := Nat.le_trans (putL_len _ _ _) (Nat.succ_le_succ h.tokens) }
  refine ite_both (P := fun g1 : GSt => Small (N + 1) g1) (fun h4 => ?_) (fun h4 => ?_)
  · exact small_goneP h.up
  refine ite_both (P := fun g1 : GSt => Small (N + 1) g1) (fun h6 => ?_) (fun h6 => ?_)
  · exact { h.up with jobs := Nat.le_trans (putL_len _ _ _) (Nat.succ_le_succ h.jobs) }
  refine ite_both (P := fun g1 : GSt => Small (N + 1) g1) (fun h7 => ?_) (fun h7 => ?_)
  · exact { h.up with jobs := by simpa only [changeL_len] using h.up.jobs }
  refine ite_both (P := fun g1 : GSt => Small (N + 1) g1) (fun h8 => ?_) (fun h8 => ?_)
  · exact { h.up with jobs := by simpa only [changeL_len] using h.up.jobs }
  refine ite_both (P := fun g1 : GSt => Small (N + 1) g1) (fun h9 => ?_) (fun h9 => ?_)
  · exact { h.up with insts := by simpa only [changeL_len] using h.up.insts }
  refine ite_both (P := fun g1 : GSt => Small (N + 1) g1) (fun h10 => ?_) (fun h10 => ?_)
  · exact { h.up with timers := Nat.le_trans (putL_len _ _ _) (Nat.succ_le_succ h.timers) }
  refine ite_both (P := fun g1 : GSt => Small (N + 1) g1) (fun h11 => ?_) (fun h11 => ?_)
  · exact { h.up with subs := Nat.le_trans (putL_len _ _ _) (Nat.succ_le_succ h.subs) }
  refine ite_both (P := fun g1 : GSt => Small (N + 1) g1) (fun h12 => ?_) (fun h12 => ?_)
  · exact { h.up with subs := by simpa only [changeL_len] using h.up.subs }
  refine ite_both (P := fun g1 : GSt => Small (N + 1) g1) (fun h13 => ?_) (fun h13 => ?_)
  · exact { h.up with tokens := by simpa only [changeL_len] using h.up.tokens }
  refine ite_both (P := fun g1 : GSt => Small (N + 1) g1) (fun h14 => ?_) (fun h14 => ?_)
  · exact { h.up with tokens := by simpa only [changeL_len] using h.up.tokens }
  refine ite_both (P := fun g1 : GSt => Small (N + 1) g1) (fun h15 => ?_) (fun h15 => ?_)
  · exact small_goneP { h.up with insts := Nat.le_trans (List.length_filter_le _ _) h.up.insts }
  refine ite_both (P := fun g1 : GSt => Small (N + 1) g1) (fun h17 => ?_) (fun h17 => ?_)
  · exact { h.up with kept := Nat.le_trans (putL_len _ _ _) (Nat.succ_le_succ h.kept) }
  refine ite_both (P := fun g1 : GSt => Small (N + 1) g1) (fun h18 => ?_) (fun h18 => ?_)
  · exact { h.up with listed := Nat.le_trans (putL_len _ _ _) (Nat.succ_le_succ h.listed) }
  refine ite_both (P := fun g1 : GSt => Small (N + 1) g1) (fun h19 => ?_) (fun h19 => ?_)
  · exact { h.up with msgs := Nat.le_trans (putL_len _ _ _) (Nat.succ_le_succ h.msgs), ints := fun x hx => (memP hx).elim (fun e => by rw [e]; exact Nat.zero_le _) (fun hx => h.up.ints x hx) }
  refine ite_both (P := fun g1 : GSt => Small (N + 1) g1) (fun h20 => ?_) (fun h20 => ?_)
  · exact { h.up with msgs := Nat.le_trans (List.length_filter_le _ _) h.up.msgs, ints := fun x hx => h.up.ints x (List.mem_filter.1 hx).1 }
  refine ite_both (P := fun g1 : GSt => Small (N + 1) g1) (fun h21 => ?_) (fun h21 => ?_)
  · exact small_sendP h
  refine ite_both (P := fun g1 : GSt => Small (N + 1) g1) (fun h22 => ?_) (fun h22 => ?_)
  · exact { h.up with listed := Nat.le_trans (List.length_filter_le _ _) h.up.listed }
  refine ite_both (P := fun g1 : GSt => Small (N + 1) g1) (fun h23 => ?_) (fun h23 => ?_)
  · exact (small_missP h).up
  exact h.up
theorem small_placed {N : Nat} {g : GSt} (h : Small N g) (p d : Int) : Small N { g with pos := p, done := d } := { h with }
theorem small_applyP {N : Nat} {g : GSt} {r : GRec} (pos : Int) (h : Small N g) : Small (N + 1) (applyP pos r g) := by
  unfold applyP
  split
  · exact (small_placed h pos g.done).up
  · split
    · exact small_evP (small_placed h _ _)
    · exact (small_placed h _ _).up
theorem wf_goneP {g : GSt} {p : ETok → Bool} {al : Int → Bool} (h : g.wf) : (goneP p al g).wf :=
  ⟨fun x hx => h.1 x (List.mem_filter.1 hx).1, fun x hx => h.2.1 x (List.mem_filter.1 hx).1, fun x hx => h.2.2.1 x (List.mem_filter.1 hx).1, fun x hx => h.2.2.2 x (List.mem_filter.1 hx).1⟩
theorem wf_sendP {g : GSt} {r : GRec} (h : g.wf) : (sendP r g).wf := by
  unfold sendP
  split
  · split <;> exact h
  · exact h
theorem wf_missP {g : GSt} {r : GRec} (h : g.wf) : (missP r g).wf := by
  unfold missP
  split
  · split <;> exact h
  · exact h
theorem wf_evP {g : GSt} {r : GRec} (hr : u64 r.key ∧ u64 r.key2) (h : g.wf) : (evP r g).wf := by
  unfold evP
  refine ite_both (P := fun g1 : GSt => g1.wf) (fun h1 => ?_) (fun h1 => ?_)
  · exact h
  refine ite_both (P := fun g1 : GSt => g1.wf) (fun h2 => ?_) (fun h2 => ?_)
  · exact h
  refine ite_both (P := fun g1 : GSt => g1.wf) (fun h3 => ?_) (fun h3 => ?_)
  · exact ⟨fun x hx => (memP hx).elim (fun e => by rw [e]; exact hr.1) (h.1 x), h.2.1, h.2.2.1, h.2.2.2⟩
  refine ite_both (P := fun g1 : GSt => g1.wf) (fun h4 => ?_) (fun h4 => ?_)
  · exact wf_goneP h
  refine ite_both (P := fun g1 : GSt => g1.wf) (fun h6 => ?_) (fun h6 => ?_)
  · exact ⟨h.1, fun x hx => (memP hx).elim (fun e => by rw [e]; exact hr.2) (h.2.1 x), h.2.2.1, h.2.2.2⟩
  refine ite_both (P := fun g1 : GSt => g1.wf) (fun h7 => ?_) (fun h7 => ?_)
  · exact ⟨h.1, fun x hx => (memC hx).elim (h.2.1 x) (fun ⟨y, hy, e⟩ => by rw [e]; exact h.2.1 y hy), h.2.2.1, h.2.2.2⟩
  refine ite_both (P := fun g1 : GSt => g1.wf) (fun h8 => ?_) (fun h8 => ?_)
  · exact ⟨h.1, fun x hx => (memC hx).elim (h.2.1 x) (fun ⟨y, hy, e⟩ => by rw [e]; exact h.2.1 y hy), h.2.2.1, h.2.2.2⟩
  refine ite_both (P := fun g1 : GSt => g1.wf) (fun h9 => ?_) (fun h9 => ?_)
  · exact h
  refine ite_both (P := fun g1 : GSt => g1.wf) (fun h10 => ?_) (fun h10 => ?_)
  · exact ⟨h.1, h.2.1, fun x hx => (memP hx).elim (fun e => by rw [e]; exact hr.1) (h.2.2.1 x), h.2.2.2⟩
  refine ite_both (P := fun g1 : GSt => g1.wf) (fun h11 => ?_) (fun h11 => ?_)
  · exact ⟨h.1, h.2.1, h.2.2.1, fun x hx => (memP hx).elim (fun e => by rw [e]; exact hr.1) (h.2.2.2 x)⟩
  refine ite_both (P := fun g1 : GSt => g1.wf) (fun h12 => ?_) (fun h12 => ?_)
  · exact ⟨h.1, h.2.1, h.2.2.1, fun x hx => (memC hx).elim (h.2.2.2 x) (fun ⟨y, hy, e⟩ => by rw [e]; exact h.2.2.2 y hy)⟩
  refine ite_both (P := fun g1 : GSt => g1.wf) (fun h13 => ?_) (fun h13 => ?_)
  · exact ⟨fun x hx => (memC hx).elim (h.1 x) (fun ⟨y, hy, e⟩ => by rw [e]; exact h.1 y hy), h.2.1, h.2.2.1, h.2.2.2⟩
  refine ite_both (P := fun g1 : GSt => g1.wf) (fun h14 => ?_) (fun h14 => ?_)
  · exact ⟨fun x hx => (memC hx).elim (h.1 x) (fun ⟨y, hy, e⟩ => by rw [e]; exact h.1 y hy), h.2.1, h.2.2.1, h.2.2.2⟩
  refine ite_both (P := fun g1 : GSt => g1.wf) (fun h15 => ?_) (fun h15 => ?_)
  · exact wf_goneP (g := { g with insts := _ }) h
  refine ite_both (P := fun g1 : GSt => g1.wf) (fun h17 => ?_) (fun h17 => ?_)
  · exact h
  refine ite_both (P := fun g1 : GSt => g1.wf) (fun h18 => ?_) (fun h18 => ?_)
  · exact h
  refine ite_both (P := fun g1 : GSt => g1.wf) (fun h19 => ?_) (fun h19 => ?_)
  · exact h
  refine ite_both (P := fun g1 : GSt => g1.wf) (fun h20 => ?_) (fun h20 => ?_)
  · exact h
  refine ite_both (P := fun g1 : GSt => g1.wf) (fun h21 => ?_) (fun h21 => ?_)
  · exact wf_sendP h
  refine ite_both (P := fun g1 : GSt => g1.wf) (fun h22 => ?_) (fun h22 => ?_)
  · exact h
  refine ite_both (P := fun g1 : GSt => g1.wf) (fun h23 => ?_) (fun h23 => ?_)
  · exact wf_missP h
  exact h
theorem wf_applyP {g : GSt} {r : GRec} (pos : Int) (hr : u64 r.key ∧ u64 r.key2) (h : g.wf) : (applyP pos r g).wf := by
  unfold applyP
  split
  · exact h
  · split
    · exact wf_evP hr h
    · exact h
def makes (r : GRec) : Prop := r.cls = 2 ∧ (r.kind = 2 ∨ r.kind = 3 ∨ r.kind = 6 ∨ r.kind = 19)
instance (r : GRec) : Decidable (makes r) := by unfold makes; exact inferInstance
theorem wf_pure {g : GSt} : g.pure.wf ↔ g.wf := Iff.rfl
theorem small_pure {N : Nat} {g : GSt} : Small N g.pure ↔ Small N g := by
  constructor
  · intro h
    exact ⟨h.procs, by simpa [GSt.pure] using h.insts, h.tokens, h.jobs, h.timers, h.subs, h.kept, by simpa [GSt.pure] using h.listed, by simpa [GSt.pure] using h.msgs, fun x hx => h.ints (pureMsg x) (List.mem_map_of_mem hx)⟩
  · intro h
    refine ⟨h.procs, by simpa [GSt.pure] using h.insts, h.tokens, h.jobs, h.timers, h.subs, h.kept, by simpa [GSt.pure] using h.listed, by simpa [GSt.pure] using h.msgs, fun x hx => ?_⟩
    obtain ⟨y, hy, rfl⟩ := List.mem_map.1 hx
    exact h.ints y hy
theorem Small.fits {N : Nat} {g : GSt} (h : Small N g) (hN : N * 144 ≤ 140737488355328) : g.fits := by
  obtain ⟨h0, h1, h2, h3, h4, h5, h6, h7, h8, _⟩ := h
  unfold GSt.fits
  omega
theorem Small.room {N : Nat} {g : GSt} (h : Small N g) (hN : (N + 1) * 144 ≤ 140737488355328) : g.room := by
  obtain ⟨h0, h1, h2, h3, h4, h5, h6, h7, h8, hi⟩ := h
  unfold GSt.room
  refine ⟨by omega, by omega, by omega, by omega, by omega, by omega, by omega, by omega, by omega, fun x hx => ?_⟩
  have := hi x hx
  omega
def emptyP : GSt := ⟨0, 0, 0, [], [], [], [], [], [], [], [], []⟩
theorem small_empty : Small 0 emptyP := ⟨Nat.le_refl 0, Nat.le_refl 0, Nat.le_refl 0, Nat.le_refl 0, Nat.le_refl 0, Nat.le_refl 0, Nat.le_refl 0, Nat.le_refl 0, Nat.le_refl 0, fun _ h => by cases h⟩
theorem wf_empty : emptyP.wf := by unfold emptyP GSt.wf; simp
end Go.Proofs.Base
/-
  The lists of a state keep rising; what an instance had is gone when it has ended. Printed by gfold12.py.
-/
set_option linter.unusedVariables false
set_option linter.unusedSimpArgs false
namespace Go.Proofs.Base
open Go Go.RowKit
def ltP (a i b k : Int) : Prop := a < b ∨ (a = b ∧ i < k)
structure Rises (g : GSt) : Prop where
  insts : g.insts.Pairwise fun a b => a.key < b.key
  tokens : g.tokens.Pairwise fun a b => a.key < b.key
  jobs : g.jobs.Pairwise fun a b => a.key < b.key
  msgs : g.msgs.Pairwise fun a b => a.key < b.key
  timers : g.timers.Pairwise fun a b => ltP a.token a.node b.token b.node
  listed : g.listed.Pairwise fun a b => ltP a.token a.node b.token b.node
end Go.Proofs.Base
/-
  fold.find of Token. Printed by gfold.py.
-/
set_option linter.unusedVariables false
set_option linter.unusedSimpArgs false
namespace Go.Proofs.YtgpkmellpllmgaaGreat
open Go Go.RowKit Go.Proofs.Base
open Go.Sort (grow)
def zeroTok : ETok := ⟨0, 0, 0, 0, 0, ⟨#[]⟩⟩
set_option maxRecDepth 100000 in
set_option maxHeartbeats 4000000 in
theorem find_Tok (A : Option Addr) (n c g : Nat) (lb : Array Value) (l : List ETok) (p : ETok → Bool) (w : World) (S : Nat → Prop) (eg : ∀ args w, (callFunc g args).run Tryz.prog w = .ok (.enter g args) w)
    (hl : l.length = n) (hr : Row w S 6 n (.slice A n c) (l.flatMap encTok))
    (hp : ∀ W, Below w.heap.size w W → ∀ x ∈ l, Calls Tryz.prog g (#[.agg #[.int .u64 x.key, .int .u64 x.inst, .int .u64 x.scope, .int .i64 x.node, .int .i64 x.flow, .string x.stuck]] ++ lb) W fun e w' => e = .returned (.bool (p x)) ∧ Below W.heap.size W w') :
    Calls Tryz.prog 48 #[.slice A n c, .func (.func g) #[] lb] w fun e w' => ∃ x : ETok, ∃ ok, findP zeroTok p l = (x, ok) ∧ e = .returned (.tuple #[.agg #[.int .u64 x.key, .int .u64 x.inst, .int .u64 x.scope, .int .i64 x.node, .int .i64 x.flow, .string x.stuck], .bool ok]) ∧ Below w.heap.size w w' := by
  have hB : Below w.heap.size w ((w.alloc (.cells #[.int .u64 0, .int .u64 0, .int .u64 0, .int .i64 0, .int .i64 0, .string ⟨#[]⟩] 42)).alloc (.cells #[.int .u64 0, .int .u64 0, .int .u64 0, .int .i64 0, .int .i64 0, .string ⟨#[]⟩] 42)) := below_alloc (below_alloc (Below.refl _ _) _) _
  obtain ⟨N, hN⟩ : ∃ N, N = (w.alloc (.cells #[.int .u64 0, .int .u64 0, .int .u64 0, .int .i64 0, .int .i64 0, .string ⟨#[]⟩] 42)).alloc (.cells #[.int .u64 0, .int .u64 0, .int .u64 0, .int .i64 0, .int .i64 0, .string ⟨#[]⟩] 42) := ⟨_, rfl⟩
  rw [← hN] at hB
  have b0 : N.heap[w.heap.size]? = some (.cells #[.int .u64 0, .int .u64 0, .int .u64 0, .int .i64 0, .int .i64 0, .string ⟨#[]⟩] 42 (0, 0)) := by rw [hN]; exact blk_alloc (blk_new _) _
  have b1 : N.heap[w.heap.size + 1]? = some (.cells #[.int .u64 0, .int .u64 0, .int .u64 0, .int .i64 0, .int .i64 0, .string ⟨#[]⟩] 42 (0, 0)) := by rw [hN]; exact blk_new_of _ (by simp)
  have HIX := Lib.hid (idx_Tok A n c g lb l p w N S eg hl (hr.below hB) hB hp)
  have HR := Lib.hid (hr.below hB)
  have HL := Lib.hid hl
  have HN := Lib.hid hN
  have HB := Lib.hid hB
  have HK0 := Lib.hid b0
  have HK1 := Lib.hid b1
  obtain ⟨A0, c0, he0, hnc0, hcm0⟩ := hr.open_
  injection he0 with q1 _ q3
  subst q1 q3
  clear hr hl hp eg b0 b1 hB hN
  rcases idxP_spec p l with ⟨h1, -⟩ | ⟨j, hj, h1, -, -⟩
  · go_enter Tryz.func48, Tryz.ntmps48
    go_wp2_with fail
    rw [show (w.alloc (.cells #[.int .u64 0, .int .u64 0, .int .u64 0, .int .i64 0, .int .i64 0, .string ⟨#[]⟩] 42)).alloc (.cells #[.int .u64 0, .int .u64 0, .int .u64 0, .int .i64 0, .int .i64 0, .string ⟨#[]⟩] 42) = N from HN.out.symm]
    refine HIX.out.mono ?_
    rintro e w1 ⟨rfl, hb⟩
    rw [h1]
    have k0 := block_below hb HK0.out
    have k1 := block_below hb HK1.out
    have z0 := cell_of_blk k1 0
    have y0 := cell_of_blk k0 0
    have f0 := frozen_of_blk k0 0
    have z1 := cell_of_blk k1 1
    have y1 := cell_of_blk k0 1
    have f1 := frozen_of_blk k0 1
    have z2 := cell_of_blk k1 2
    have y2 := cell_of_blk k0 2
    have f2 := frozen_of_blk k0 2
    have z3 := cell_of_blk k1 3
    have y3 := cell_of_blk k0 3
    have f3 := frozen_of_blk k0 3
    have z4 := cell_of_blk k1 4
    have y4 := cell_of_blk k0 4
    have f4 := frozen_of_blk k0 4
    have z5 := cell_of_blk k1 5
    have y5 := cell_of_blk k0 5
    have f5 := frozen_of_blk k0 5
    have HB1 := Lib.hid (below2 HB.out hb)
    have HK := Lib.hid k0
    clear hb k0 k1
    go_wp2_with fail
    generalize hWE : World.setCell (World.setCell (World.setCell (World.setCell (World.setCell (World.setCell (_) _ _) _ _) _ _) _ _) _ _) _ _ = WE
    have ho : WE.heap[w.heap.size]? = some (.cells #[.int .u64 0, .int .u64 0, .int .u64 0, .int .i64 0, .int .i64 0, .string ⟨#[]⟩] 42 (0, 0)) := by rw [← hWE]; exact set_blk (o := 5) (set_blk (o := 4) (set_blk (o := 3) (set_blk (o := 2) (set_blk (o := 1) (set_blk (o := 0) (HK.out) (.int .u64 0)) (.int .u64 0)) (.int .u64 0)) (.int .i64 0)) (.int .i64 0)) (.string ⟨#[]⟩)
    have hbe : Below w.heap.size w WE := by rw [← hWE]; exact ((((((HB1.out).setCell (p := ⟨w.heap.size, 0, none⟩) (Nat.le_refl _) _).setCell (p := ⟨w.heap.size, 1, none⟩) (Nat.le_refl _) _).setCell (p := ⟨w.heap.size, 2, none⟩) (Nat.le_refl _) _).setCell (p := ⟨w.heap.size, 3, none⟩) (Nat.le_refl _) _).setCell (p := ⟨w.heap.size, 4, none⟩) (Nat.le_refl _) _).setCell (p := ⟨w.heap.size, 5, none⟩) (Nat.le_refl _) _
    have r0 := cell_of_blk ho 0
    have r1 := cell_of_blk ho 1
    have r2 := cell_of_blk ho 2
    have r3 := cell_of_blk ho 3
    have r4 := cell_of_blk ho 4
    have r5 := cell_of_blk ho 5
    refine bodyPost_ret (v := .tuple #[.agg #[.int .u64 0, .int .u64 0, .int .u64 0, .int .i64 0, .int .i64 0, .string ⟨#[]⟩], .bool false]) (by simp [results, Tryz.results48, go_sem, r0, r1, r2, r3, r4, r5]) rfl ⟨zeroTok, false, ?_, rfl, hbe⟩
    unfold findP; rw [h1]; rfl
  · have hjn : j < n := by have := HL.out; omega
    have hj0 : ¬ ((j : Int) < 0) := by omega
    have HF : Hid (findP zeroTok p l = (l[j], true)) := Lib.hid (by unfold findP; rw [h1, if_neg hj0]; simp [List.getD_eq_getElem?_getD, hj])
    have hc0 : ∃ b o, A = some ⟨b, o, none⟩ ∧ b < N.heap.size ∧ ∀ t u, (encTok l[j])[t]? = some u → t < 6 → N.cell? ⟨b, o + j * 6 + t, none⟩ = some u := by
      obtain ⟨b, o, hA, _, hlt, hc⟩ := HR.out.at_ (by omega)
      exact ⟨b, o, hA, hlt, fun t u hu ht => hc j t u ((flat_at (enc := encTok) lenTok hj t ht).trans hu)⟩
    obtain ⟨b, o, rfl, hlt, hc⟩ := hc0
    generalize l[j] = x at *
    have HC := Lib.hid hc
    clear hc hj
    go_enter Tryz.func48, Tryz.ntmps48
    go_wp2_with fail
    rw [show (w.alloc (.cells #[.int .u64 0, .int .u64 0, .int .u64 0, .int .i64 0, .int .i64 0, .string ⟨#[]⟩] 42)).alloc (.cells #[.int .u64 0, .int .u64 0, .int .u64 0, .int .i64 0, .int .i64 0, .string ⟨#[]⟩] 42) = N from HN.out.symm]
    refine HIX.out.mono ?_
    rintro e w1 ⟨rfl, hb⟩
    rw [h1]
    have k0 := block_below hb HK0.out
    have k1 := block_below hb HK1.out
    have z0 := cell_of_blk k1 0
    have y0 := cell_of_blk k0 0
    have f0 := frozen_of_blk k0 0
    have z1 := cell_of_blk k1 1
    have y1 := cell_of_blk k0 1
    have f1 := frozen_of_blk k0 1
    have z2 := cell_of_blk k1 2
    have y2 := cell_of_blk k0 2
    have f2 := frozen_of_blk k0 2
    have z3 := cell_of_blk k1 3
    have y3 := cell_of_blk k0 3
    have f3 := frozen_of_blk k0 3
    have z4 := cell_of_blk k1 4
    have y4 := cell_of_blk k0 4
    have f4 := frozen_of_blk k0 4
    have z5 := cell_of_blk k1 5
    have y5 := cell_of_blk k0 5
    have f5 := frozen_of_blk k0 5
    have x0 : w1.cell? ⟨b, o + j * 6, none⟩ = some (.int .u64 x.key) := (hb.cell (p := ⟨b, o + j * 6, none⟩) hlt).trans (by simpa using HC.out 0 _ rfl (by decide))
    have x1 : w1.cell? ⟨b, o + j * 6 + 1, none⟩ = some (.int .u64 x.inst) := (hb.cell (p := ⟨b, o + j * 6 + 1, none⟩) hlt).trans (by simpa using HC.out 1 _ rfl (by decide))
    have x2 : w1.cell? ⟨b, o + j * 6 + 2, none⟩ = some (.int .u64 x.scope) := (hb.cell (p := ⟨b, o + j * 6 + 2, none⟩) hlt).trans (by simpa using HC.out 2 _ rfl (by decide))
    have x3 : w1.cell? ⟨b, o + j * 6 + 3, none⟩ = some (.int .i64 x.node) := (hb.cell (p := ⟨b, o + j * 6 + 3, none⟩) hlt).trans (by simpa using HC.out 3 _ rfl (by decide))
    have x4 : w1.cell? ⟨b, o + j * 6 + 4, none⟩ = some (.int .i64 x.flow) := (hb.cell (p := ⟨b, o + j * 6 + 4, none⟩) hlt).trans (by simpa using HC.out 4 _ rfl (by decide))
    have x5 : w1.cell? ⟨b, o + j * 6 + 5, none⟩ = some (.string x.stuck) := (hb.cell (p := ⟨b, o + j * 6 + 5, none⟩) hlt).trans (by simpa using HC.out 5 _ rfl (by decide))
    have HB1 := Lib.hid (below2 HB.out hb)
    have HK := Lib.hid k0
    clear hb k0 k1
    go_wp2_with fail
    generalize hWE : World.setCell (World.setCell (World.setCell (World.setCell (World.setCell (World.setCell (_) _ _) _ _) _ _) _ _) _ _) _ _ = WE
    have ho : WE.heap[w.heap.size]? = some (.cells #[.int .u64 x.key, .int .u64 x.inst, .int .u64 x.scope, .int .i64 x.node, .int .i64 x.flow, .string x.stuck] 42 (0, 0)) := by rw [← hWE]; exact set_blk (o := 5) (set_blk (o := 4) (set_blk (o := 3) (set_blk (o := 2) (set_blk (o := 1) (set_blk (o := 0) (HK.out) (.int .u64 x.key)) (.int .u64 x.inst)) (.int .u64 x.scope)) (.int .i64 x.node)) (.int .i64 x.flow)) (.string x.stuck)
    have hbe : Below w.heap.size w WE := by rw [← hWE]; exact ((((((HB1.out).setCell (p := ⟨w.heap.size, 0, none⟩) (Nat.le_refl _) _).setCell (p := ⟨w.heap.size, 1, none⟩) (Nat.le_refl _) _).setCell (p := ⟨w.heap.size, 2, none⟩) (Nat.le_refl _) _).setCell (p := ⟨w.heap.size, 3, none⟩) (Nat.le_refl _) _).setCell (p := ⟨w.heap.size, 4, none⟩) (Nat.le_refl _) _).setCell (p := ⟨w.heap.size, 5, none⟩) (Nat.le_refl _) _
    have r0 := cell_of_blk ho 0
    have r1 := cell_of_blk ho 1
    have r2 := cell_of_blk ho 2
    have r3 := cell_of_blk ho 3
    have r4 := cell_of_blk ho 4
    have r5 := cell_of_blk ho 5
    refine bodyPost_ret (v := .tuple #[.agg #[.int .u64 x.key, .int .u64 x.inst, .int .u64 x.scope, .int .i64 x.node, .int .i64 x.flow, .string x.stuck], .bool true]) (by simp [results, Tryz.results48, go_sem, r0, r1, r2, r3, r4, r5]) rfl ⟨x, true, HF.out, rfl, hbe⟩
end Go.Proofs.YtgpkmellpllmgaaGreat
/-
  fold.find of Job. Printed by gfold.py.
-/
set_option linter.unusedVariables false
set_option linter.unusedSimpArgs false
namespace Go.Proofs.YtgpkmellpllmgaaGreat
open Go Go.RowKit Go.Proofs.Base
open Go.Sort (grow)
end Go.Proofs.YtgpkmellpllmgaaGreat
/-
  fold.Token, fold.Job. Printed by gfold2.py.
-/
set_option linter.unusedVariables false
set_option linter.unusedSimpArgs false
namespace Go.Proofs.YtgpkmellpllmgaaGreat
open Go Go.RowKit Go.Proofs.Base
open Go.Sort (grow)
set_option maxRecDepth 100000 in
set_option maxHeartbeats 4000000 in
theorem ask_Tok (Pp Dd Mm : Int) (A3 : Option Addr) (n3 c3 : Nat) (A4 : Option Addr) (n4 c4 : Nat) (A5 : Option Addr) (n5 c5 : Nat) (A6 : Option Addr) (n6 c6 : Nat) (A7 : Option Addr) (n7 c7 : Nat) (A8 : Option Addr) (n8 c8 : Nat) (A9 : Option Addr) (n9 c9 : Nat) (A10 : Option Addr) (n10 c10 : Nat) (A11 : Option Addr) (n11 c11 : Nat) (q : Int) (l : List ETok) (w : World) (S : Nat → Prop) (hl : l.length = n5) (hr : Row w S 6 n5 (.slice A5 n5 c5) (l.flatMap encTok)) :
    Calls Tryz.prog 16 #[.agg #[.int .u64 Pp, .int .u64 Dd, .int .u64 Mm, .slice A3 n3 c3, .slice A4 n4 c4, .slice A5 n5 c5, .slice A6 n6 c6, .slice A7 n7 c7, .slice A8 n8 c8, .slice A9 n9 c9, .slice A10 n10 c10, .slice A11 n11 c11], .int .u64 q] w fun e w' => ∃ x : ETok, ∃ ok, findP zeroTok (fun x : ETok => x.key == q) l = (x, ok) ∧ e = .returned (.tuple #[.agg #[.int .u64 x.key, .int .u64 x.inst, .int .u64 x.scope, .int .i64 x.node, .int .i64 x.flow, .string x.stuck], .bool ok]) ∧ Below w.heap.size w w' := by
  obtain ⟨N, hN⟩ : ∃ N, N = ((w.alloc (.cells #[.int .u64 Pp, .int .u64 Dd, .int .u64 Mm, .slice A3 n3 c3, .slice A4 n4 c4, .slice A5 n5 c5, .slice A6 n6 c6, .slice A7 n7 c7, .slice A8 n8 c8, .slice A9 n9 c9, .slice A10 n10 c10, .slice A11 n11 c11] 35)).alloc (.cells #[.int .u64 q] 24)).alloc (.cells #[.int .u64 0, .int .u64 0, .int .u64 0, .int .i64 0, .int .i64 0, .string ⟨#[]⟩] 42) := ⟨_, rfl⟩
  have b0 : N.heap[w.heap.size]? = some (.cells #[.int .u64 Pp, .int .u64 Dd, .int .u64 Mm, .slice A3 n3 c3, .slice A4 n4 c4, .slice A5 n5 c5, .slice A6 n6 c6, .slice A7 n7 c7, .slice A8 n8 c8, .slice A9 n9 c9, .slice A10 n10 c10, .slice A11 n11 c11] 35 (0, 0)) := by rw [hN]; exact blk_alloc (blk_alloc (blk_new _) _) _
  have b1 : N.heap[w.heap.size + 1]? = some (.cells #[.int .u64 q] 24 (0, 0)) := by rw [hN]; exact blk_alloc (blk_new_of _ (by simp)) _
  have b2 : N.heap[w.heap.size + 1 + 1]? = some (.cells #[.int .u64 0, .int .u64 0, .int .u64 0, .int .i64 0, .int .i64 0, .string ⟨#[]⟩] 42 (0, 0)) := by rw [hN]; exact blk_new_of _ (by simp)
  have hB : Below w.heap.size w N := by rw [hN]; exact below_alloc (below_alloc (below_alloc (Below.refl _ _) _) _) _
  have HN := Lib.hid hN
  have HB := Lib.hid hB
  have K0 := Lib.hid b0
  have K2 := Lib.hid b2
  have eg : ∀ args w, (callFunc 49 args).run Tryz.prog w = .ok (.enter 49 args) w := enters_of Tryz.func49 (by kernel_rfl) rfl
  have HF := Lib.hid (find_Tok A5 n5 c5 49 #[.pointer (some ⟨w.heap.size + 1, 0, none⟩)] l (fun x : ETok => x.key == q) N S eg hl (hr.below hB) (fun V hV x _ => p_Token_1 _ x q V (cell_of_blk (block_below hV b1) 0)))
  obtain ⟨X0, y0, hx0, hnc0, hcm0⟩ := hr.open_
  injection hx0 with hxa _ hxb
  subst hxa hxb
  clear hN hB b0 b1 b2 hr hl eg
  have k0 := K0.out
  go_enter Tryz.func16, Tryz.ntmps16
  go_wp2_with fail
  rw [show ((w.alloc (.cells #[.int .u64 Pp, .int .u64 Dd, .int .u64 Mm, .slice A3 n3 c3, .slice A4 n4 c4, .slice A5 n5 c5, .slice A6 n6 c6, .slice A7 n7 c7, .slice A8 n8 c8, .slice A9 n9 c9, .slice A10 n10 c10, .slice A11 n11 c11] 35)).alloc (.cells #[.int .u64 q] 24)).alloc (.cells #[.int .u64 0, .int .u64 0, .int .u64 0, .int .i64 0, .int .i64 0, .string ⟨#[]⟩] 42) = N from HN.out.symm]
  have s5 := cell_of_blk k0 5
  clear k0
  go_wp2_with fail
  refine HF.out.mono ?_
  rintro e w1 ⟨x, ok, hf, rfl, hb⟩
  have HFD := Lib.hid hf
  have k2 := block_below hb K2.out
  have HB1 := Lib.hid (below2 HB.out hb)
  clear hf hb s5
  have z0 := cell_of_blk k2 0
  have z1 := cell_of_blk k2 1
  have z2 := cell_of_blk k2 2
  have z3 := cell_of_blk k2 3
  have z4 := cell_of_blk k2 4
  have z5 := cell_of_blk k2 5
  have g0 := frozen_of_blk k2 0
  have g1 := frozen_of_blk k2 1
  have g2 := frozen_of_blk k2 2
  have g3 := frozen_of_blk k2 3
  have g4 := frozen_of_blk k2 4
  have g5 := frozen_of_blk k2 5
  have KZ := Lib.hid k2
  clear k2
  go_wp2_with fail
  generalize hWE : World.setCell (World.setCell (World.setCell (World.setCell (World.setCell (World.setCell (_) _ _) _ _) _ _) _ _) _ _) _ _ = WE
  have ho : WE.heap[w.heap.size + 1 + 1]? = some (.cells #[.int .u64 x.key, .int .u64 x.inst, .int .u64 x.scope, .int .i64 x.node, .int .i64 x.flow, .string x.stuck] 42 (0, 0)) := by rw [← hWE]; exact set_blk (o := 5) (set_blk (o := 4) (set_blk (o := 3) (set_blk (o := 2) (set_blk (o := 1) (set_blk (o := 0) (KZ.out) (.int .u64 x.key)) (.int .u64 x.inst)) (.int .u64 x.scope)) (.int .i64 x.node)) (.int .i64 x.flow)) (.string x.stuck)
  have hbe : Below w.heap.size w WE := by rw [← hWE]; exact ((((((HB1.out).setCell (p := ⟨w.heap.size + 1 + 1, 0, none⟩) (by show _ ≤ _ + 1 + 1; omega) _).setCell (p := ⟨w.heap.size + 1 + 1, 1, none⟩) (by show _ ≤ _ + 1 + 1; omega) _).setCell (p := ⟨w.heap.size + 1 + 1, 2, none⟩) (by show _ ≤ _ + 1 + 1; omega) _).setCell (p := ⟨w.heap.size + 1 + 1, 3, none⟩) (by show _ ≤ _ + 1 + 1; omega) _).setCell (p := ⟨w.heap.size + 1 + 1, 4, none⟩) (by show _ ≤ _ + 1 + 1; omega) _).setCell (p := ⟨w.heap.size + 1 + 1, 5, none⟩) (by show _ ≤ _ + 1 + 1; omega) _
  have r0 := cell_of_blk ho 0
  have r1 := cell_of_blk ho 1
  have r2 := cell_of_blk ho 2
  have r3 := cell_of_blk ho 3
  have r4 := cell_of_blk ho 4
  have r5 := cell_of_blk ho 5
  refine bodyPost_ret (v := .tuple #[.agg #[.int .u64 x.key, .int .u64 x.inst, .int .u64 x.scope, .int .i64 x.node, .int .i64 x.flow, .string x.stuck], .bool ok]) (by simp [results, Tryz.results16, go_sem, r0, r1, r2, r3, r4, r5]) rfl ⟨x, ok, HFD.out, rfl, hbe⟩
end Go.Proofs.YtgpkmellpllmgaaGreat
/-
  Whole structs in a box of their own: laws that load and store them in one step, in a plain walk and in a region that draws its order. Nothing of a program.
-/
set_option linter.unusedVariables false
set_option linter.unusedSimpArgs false
namespace Go.Proofs.Base
open Go Go.RowKit
open Go.Sort (grow grow_empty)
def aggB (d : TypeDesc) : Bool := match d with | .struct _ | .array _ _ => true | _ => false
structure BoxT (P : Program) (ty : TypeId) (n : Nat) : Prop where
  agg : (P.underlying ty).any aggB = true
  size : (P.info? ty).map (·.size) = some n
theorem mut_row {w : World} {g : Nat} {cs : Array Value} : Mut (fun b => b = g) w (w.setRow g cs) :=
  ⟨rfl, rfl, rfl, by simp, fun k _ hk => by
    unfold World.setRow
    simp only [Array.getElem?_modify]
    rw [if_neg (fun h => hk h.symm)]⟩
theorem row_blk {w : World} {g : Nat} {cur cs : Array Value} {t : TypeId} {f : Nat × Nat} (h : w.heap[g]? = some (.cells cur t f)) : (w.setRow g cs).heap[g]? = some (.cells cs t f) := by
  unfold World.setRow
  simp [Array.getElem?_modify, h]
theorem below_of_mut {B : Nat} {w0 w V : World} {T : Nat → Prop} (h : Below B w0 w) (hB : B ≤ w.heap.size) (k : Mut T w V) (hT : ∀ b, T b → B ≤ b) : Below B w0 V :=
  ⟨k.os.trans h.os, k.tape.trans h.tape, k.output.trans h.output, Nat.le_trans h.size k.size, fun b hb => (k.block b (Nat.lt_of_lt_of_le hb hB) (fun ht => by have := hT b ht; omega)).trans (h.block b hb)⟩
section
variable {P : Program}
theorem run_load_at {w : World} {g o n : Nat} {ty : TypeId} (hT : BoxT P ty n) (cs : List Value) (hn : cs.length = n) (hc : ∀ j v, cs[j]? = some v → w.cell? ⟨g, o + j, none⟩ = some v) :
    (loadVar ty ⟨g, o, none⟩).run P w = .ok (.agg cs.toArray) w := by
  have hl : (loadCells ⟨g, o, none⟩ cs.length).run P w = .ok cs.toArray w :=
    run_loadCells_list (P := P) w ⟨g, o, none⟩ cs (fun j v hv => by rw [add_plain]; exact hc j v hv)
  obtain ⟨hu, hs⟩ := hT
  cases hq : P.info? ty with
  | none => simp [hq] at hs
  | some i =>
    have hs : i.size = cs.length := by rw [hn]; simpa [hq] using hs
    cases hu' : P.underlying ty with
    | none => rw [hu'] at hu; cases hu
    | some d =>
      rw [hu'] at hu
      have hagg : (isAgg ty).run P w = .ok true w := by
        unfold isAgg
        rw [Sem.run_bind, run_underlying hu' w]
        cases d <;> simp_all [aggB]
      simp [loadVar, Sem.run_bind, hagg, sizeOf, typeInfo, hq, hs, hl]
theorem run_load_box {w : World} {g n : Nat} {ty t : TypeId} {f : Nat × Nat} {cs : Array Value} (hT : BoxT P ty n) (hg : w.heap[g]? = some (.cells cs t f)) (hn : cs.size = n) :
    (loadVar ty ⟨g, 0, none⟩).run P w = .ok (.agg cs) w := by
  have := run_load_at (w := w) (g := g) (o := 0) hT cs.toList (by simpa using hn) (fun j v hv => by rw [Nat.zero_add, cell_of_blk hg j]; simpa using hv)
  simpa using this
theorem wpList_load_agg {ops : Array Oper} {rest : List Oper} {o : Oper} {a : Act} {w : World} {Q : Exit → Act → World → Prop} (ty : TypeId) (x : Operand) {ad : Addr} {v : Value} (hgd : o.guard = none) (ho : o.op = .load ty x)
    (hx : a.eval x = .pointer (some ad)) (hr : (loadVar ty ad).run P w = .ok v w) (h : wpList P ops Q rest (a.put o.dst v) w) : wpList P ops Q (o :: rest) a w :=
  wpList_plain hgd fun _ hK => by
    unfold Oper.wp execOp
    simp only [ho, hx, Instr.loadAt, Instr.sureAddr, Sem.run_bind, Sem.run_pure, Result.andThen_ok, hr]
    exact hK _ _ h
theorem wpList_load_box {ops : Array Oper} {rest : List Oper} {o : Oper} {a : Act} {w : World} {Q : Exit → Act → World → Prop} (ty : TypeId) (x : Operand) {g n : Nat} {t : TypeId} {f : Nat × Nat} {cs : Array Value} (hgd : o.guard = none) (ho : o.op = .load ty x)
    (hx : a.eval x = .pointer (some ⟨g, 0, none⟩)) (hT : BoxT P ty n) (hg : w.heap[g]? = some (.cells cs t f)) (hn : cs.size = n) (h : wpList P ops Q rest (a.put o.dst (.agg cs)) w) : wpList P ops Q (o :: rest) a w :=
  wpList_load_agg ty x hgd ho hx (run_load_box hT hg hn) h
theorem wpList_store_box {ops : Array Oper} {rest : List Oper} {o : Oper} {a : Act} {w : World} {Q : Exit → Act → World → Prop} (ty : TypeId) (x y : Operand) {g n : Nat} {t : TypeId} {old cells : Array Value} (hgd : o.guard = none) (ho : o.op = .store ty x y)
    (hx : a.eval x = .pointer (some ⟨g, 0, none⟩)) (hy : a.eval y = .agg cells) (hT : BoxT P ty n) (hg : w.heap[g]? = some (.cells old t (0, 0))) (hold : old.size = n) (hn : cells.size = n) (h1 : cells.all (·.oneCell') = true)
    (h : ∀ V : World, V.heap[g]? = some (.cells cells t (0, 0)) → Mut (fun b => b = g) w V → wpList P ops Q rest (a.put o.dst undef) V) : wpList P ops Q (o :: rest) a w :=
  wpList_store_row hgd ty x y ho g cells hx hy t old hg (by rw [hn]; exact hT.size) (by rw [hold, hn]) h1 (h _ (row_blk hg) mut_row)
theorem wpQuiet_loadw {ops : Array Oper} {C : World → Prop} {Q : Act → Prop} {o : Oper} {rest : List Oper} {a : Act} (ty : TypeId) (x : Operand) {ad : Addr} {v : Value} (hw : Region.wanted o (yielded ops a.tmps) = true) (ho : o.op = .load ty x) (hx : a.eval x = .pointer (some ad))
    (hr : ∀ w, C w → (loadVar ty ad).run P w = .ok v w) (h : wpQuiet P ops C Q rest (a.put o.dst v)) : wpQuiet P ops C Q (o :: rest) a := by
  unfold wpQuiet
  rw [if_pos hw]
  refine ⟨v, fun w hC => ?_, h⟩
  unfold Oper.quietAt execOp
  simp only [ho, hx, Instr.loadAt, Instr.sureAddr, Sem.run_bind, Sem.run_pure, Result.andThen_ok, hr w hC]
  exact ⟨rfl, rfl⟩
theorem wpQuiet_eqs {ops : Array Oper} {C : World → Prop} {Q : Act → Prop} {o : Oper} {rest : List Oper} {a : Act} (b : BinOp) (ty ty' : TypeId) (x y : Operand) {xs ys : Array Value} {v : Value} (hw : Region.wanted o (yielded ops a.tmps) = true) (ho : o.op = .binOp b ty x y ty') (hx : a.eval x = .agg xs) (hy : a.eval y = .agg ys) (hm : P.eqGuardType P.depth ty = false)
    (hr : ∀ w, (binOp b ty (.agg xs) (.agg ys)).run P w = .ok v w) (h : wpQuiet P ops C Q rest (a.put o.dst v)) : wpQuiet P ops C Q (o :: rest) a := by
  unfold wpQuiet
  rw [if_pos hw]
  refine ⟨v, fun w hC => ?_, h⟩
  unfold Oper.quietAt execOp
  simp only [ho, hx, hy, Sem.run_bind, run_eqGuard_agg w b ty x y xs ys hm, hr w, Result.andThen_ok, Sem.run_pure]
  exact ⟨rfl, rfl⟩
theorem load_at_re {w : World} {g o n : Nat} {ty : TypeId} (hT : BoxT P ty n) (cs : List Value) (hn : cs.length = n) (hc : ∀ j v, cs[j]? = some v → w.cell? ⟨g, o + j, none⟩ = some v) :
    ∀ w', (∃ p : Regrown, w' = grow (redrawn w p.d) p.os) → (loadVar ty ⟨g, o, none⟩).run P w' = .ok (.agg cs.toArray) w' := by
  rintro w' ⟨p, rfl⟩
  exact run_load_at hT cs hn (fun j v hv => cell_regrown (hc j v hv) p.d p.os)
end
end Go.Proofs.Base
/-
  A state's box, stored and loaded whole; Apply on short lists.
-/
set_option linter.unusedVariables false
set_option linter.unusedSimpArgs false
namespace Go.Proofs.Base
open Go Go.RowKit
theorem VarsR.below {w w' : World} {S S' : Nat → Prop} {A : Option Addr} {n c : Nat} {l : List GVar} (h : VarsR w S A n c l) (hb : Below w.heap.size w w') (hS : ∀ b, b < w.heap.size → S b → S' b) : VarsR w' S' A n c l :=
  h.mut (T := fun _ => False) (Mut.of_below hb _) (fun _ _ _ h => h) hS
theorem IntsR.below {w w' : World} {S S' : Nat → Prop} {A : Option Addr} {n c : Nat} {l : List Int} (h : IntsR w S A n c l) (hb : Below w.heap.size w w') (hS : ∀ b, b < w.heap.size → S b → S' b) : IntsR w' S' A n c l :=
  h.mut (T := fun _ => False) (Mut.of_below hb _) (fun _ _ _ h => h) hS
theorem ListR.elem {α : Type} {w : World} {S : Nat → Prop} {K : Nat} {enc : α → List Value} {A : Option Addr} {n c : Nat} {l : List α} (h : ListR w S K enc A n c l) (hlen : ∀ x, (enc x).length = K) (h0 : 0 < n) :
    ∃ B O, A = some ⟨B, O, none⟩ ∧ S B ∧ ∀ (k : Nat) (hk : k < l.length), ∀ j u, (enc l[k])[j]? = some u → w.cell? ⟨B, O + k * K + j, none⟩ = some u := by
  obtain ⟨B, O, hA, hS, _, hc⟩ := h.2.at_ h0
  refine ⟨B, O, hA, hS, fun k hk j u hu => hc k j u ?_⟩
  have hj : j < K := by have := (List.getElem?_eq_some_iff.1 hu).1; rwa [hlen] at this
  rw [flat_at (enc := enc) hlen hk j hj]
  exact hu
end Go.Proofs.Base
namespace Go.Proofs.YtgpkmellpllmgaaGreat
open Go Go.RowKit Go.Proofs.Base
open Go.Sort (grow)
def vZ : StV := ⟨0, 0, 0, none, 0, 0, none, 0, 0, none, 0, 0, none, 0, 0, none, 0, 0, none, 0, 0, none, 0, 0, none, 0, 0, none, 0, 0⟩
theorem st_zero (w : World) (S : Nat → Prop) : StR w S vZ emptyP :=
  ⟨rfl, rfl, rfl, ⟨rfl, Row.nil _ _ _⟩, ⟨rfl, Row.nil _ _ _⟩, ⟨rfl, Row.nil _ _ _⟩, ⟨rfl, Row.nil _ _ _⟩, ⟨rfl, Row.nil _ _ _⟩, ⟨rfl, Row.nil _ _ _⟩, ⟨rfl, Row.nil _ _ _⟩, ⟨rfl, Row.nil _ _ _⟩, ⟨rfl, Row.nil _ _ _⟩, fun x h => absurd h List.not_mem_nil, fun x h => absurd h List.not_mem_nil, fun x h => absurd h List.not_mem_nil, fun x h => absurd h List.not_mem_nil⟩
theorem vars_zero (w : World) (S : Nat → Prop) : VarsR w S none 0 0 [] := ⟨rfl, by decide, Row.nil _ _ _⟩
structure BoxSt (b : Nat) (W : World) (v : StV) (g : GSt) : Prop where
  box : W.heap[b]? = some (.cells v.vals 35 (0, 0))
  st : StR W (fun x => x ≠ b) v g
theorem bSt : BoxT Tryz.prog 35 12 := ⟨by kernel_rfl, by kernel_rfl⟩
theorem bRec : BoxT Tryz.prog 39 13 := ⟨by kernel_rfl, by kernel_rfl⟩
theorem vals_one (v : StV) : v.vals.all (·.oneCell') = true := by simp [StV.vals, Value.oneCell']
theorem BoxSt.lt {b : Nat} {W : World} {v : StV} {g : GSt} (h : BoxSt b W v g) : b < W.heap.size := lt_of_blk h.box
theorem BoxSt.below {b : Nat} {W W' : World} {v : StV} {g : GSt} (h : BoxSt b W v g) (hb : Below W.heap.size W W') : BoxSt b W' v g := ⟨block_below hb h.box, h.st.below hb (fun _ _ h => h)⟩
theorem BoxSt.start {w W V : World} {S : Nat → Prop} {v : StV} {g : GSt} (h : StR w S v g) (hb : Below w.heap.size w W) (hV : V.heap[W.heap.size]? = some (.cells v.vals 35 (0, 0))) {z : Obj} (hM : Mut (fun x => x = W.heap.size) (W.alloc z) V) : BoxSt W.heap.size V v g :=
  ⟨hV, (h.below (S' := fun x => x < W.heap.size) hb (fun x hx _ => by have := hb.size; omega)).mut (T := fun x => x = W.heap.size) (Mut.trans (T := fun x => x = W.heap.size) ((Mut.refl _ W).alloc z) hM (fun _ _ h => h)) (fun x hx hs e => by omega) (fun x hx _ => by omega)⟩
theorem BoxSt.put {b : Nat} {W w' V : World} {u v : StV} {g0 g : GSt} (h : BoxSt b W u g0) (hs : StR w' (fun x => x ≠ b ∨ W.heap.size ≤ x) v g) (hV : V.heap[b]? = some (.cells v.vals 35 (0, 0))) (hM : Mut (fun x => x = b) w' V) : BoxSt b V v g :=
  ⟨hV, hs.mut hM (fun x _ hx e => by have := h.lt; omega) (fun x _ hx => by have := h.lt; omega)⟩
theorem BoxSt.alloc {b : Nat} {W : World} {v : StV} {g : GSt} (h : BoxSt b W v g) (o : Obj) : BoxSt b (W.alloc o) v g := h.below (below_alloc (Below.refl _ _) o)
theorem ask_TokV (v : StV) (q : Int) (l : List ETok) (w : World) (S : Nat → Prop) (h : ListR w S 6 encTok v.A5 v.n5 v.c5 l) :
    Calls Tryz.prog 16 #[.agg v.vals, .int .u64 q] w fun e w' => ∃ x : ETok, ∃ ok, findP zeroTok (fun x : ETok => x.key == q) l = (x, ok) ∧ e = .returned (.tuple #[.agg #[.int .u64 x.key, .int .u64 x.inst, .int .u64 x.scope, .int .i64 x.node, .int .i64 x.flow, .string x.stuck], .bool ok]) ∧ Below w.heap.size w w' :=
  ask_Tok _ _ _ _ _ _ _ _ _ _ _ _ _ _ _ _ _ _ _ _ _ _ _ _ _ _ _ _ _ _ q l w S h.1 h.2
end Go.Proofs.YtgpkmellpllmgaaGreat
/-
  fold.Apply of a record of one kind. Printed by gfold23.py.
-/
set_option linter.unusedVariables false
set_option linter.unusedSimpArgs false
namespace Go.Proofs.YtgpkmellpllmgaaGreat
open Go Go.RowKit Go.Proofs.Base
open Go.Sort (grow)
section
variable {w : World} {S : Nat → Prop} {v : StV} {g : GSt} {r : GRec} {vA : Option Addr} {vN vC : Nat}
theorem ap_k2 (pos : Int) (hst : StR w S v g) (hv : VarsR w S vA vN vC r.vars) (hc : r.cls = 2) (hk : r.kind = 2) (hr : g.room) :
    Calls Tryz.prog 10 #[.agg v.vals, .int .u64 pos, .agg #[.int .i64 r.cls, .int .i64 r.kind, .int .u64 r.frm, .int .i64 r.time, .int .u64 r.key, .int .u64 r.key2, .int .u64 r.key3, .int .i64 r.n, .int .i64 r.m, .string r.a, .string r.b, .string r.c, .slice vA vN vC]] w (Applied w S pos r g) := by
  refine apply_ev pos hst hv (by rw [hk]; unfold i64; omega) hc 55 (by rw [hk]; rfl) (enters_of Tryz.func55 (by kernel_rfl) rfl) (fun W v2 g2 hs2 hv2 hg2 => ?_)
  refine (u_began W _ v2 g2 r vA vN vC hs2 hv2 (by subst hg2; exact hr)).mono ?_
  rintro e w' ⟨v', g', he, hs, hp, hb⟩
  refine ⟨v', g', he, hs, ?_, hb⟩
  rw [hp]
  unfold evP
  simp [hk]
theorem ap_k3 (pos : Int) (hst : StR w S v g) (hv : VarsR w S vA vN vC r.vars) (hc : r.cls = 2) (hk : r.kind = 3) (hr : g.room) :
    Calls Tryz.prog 10 #[.agg v.vals, .int .u64 pos, .agg #[.int .i64 r.cls, .int .i64 r.kind, .int .u64 r.frm, .int .i64 r.time, .int .u64 r.key, .int .u64 r.key2, .int .u64 r.key3, .int .i64 r.n, .int .i64 r.m, .string r.a, .string r.b, .string r.c, .slice vA vN vC]] w (Applied w S pos r g) := by
  refine apply_ev pos hst hv (by rw [hk]; unfold i64; omega) hc 56 (by rw [hk]; rfl) (enters_of Tryz.func56 (by kernel_rfl) rfl) (fun W v2 g2 hs2 hv2 hg2 => ?_)
  refine (u_entered W _ v2 g2 r vA vN vC hs2 hv2 (by subst hg2; exact hr)).mono ?_
  rintro e w' ⟨v', g', he, hs, hp, hb⟩
  refine ⟨v', g', he, hs, ?_, hb⟩
  rw [hp]
  unfold evP
  simp [hk]
theorem ap_k4 (pos : Int) (hst : StR w S v g) (hv : VarsR w S vA vN vC r.vars) (hc : r.cls = 2) (hk : r.kind = 4) (hf : g.fits) (hwf : g.wf) :
    Calls Tryz.prog 10 #[.agg v.vals, .int .u64 pos, .agg #[.int .i64 r.cls, .int .i64 r.kind, .int .u64 r.frm, .int .i64 r.time, .int .u64 r.key, .int .u64 r.key2, .int .u64 r.key3, .int .i64 r.n, .int .i64 r.m, .string r.a, .string r.b, .string r.c, .slice vA vN vC]] w (Applied w S pos r g) := by
  refine apply_ev pos hst hv (by rw [hk]; unfold i64; omega) hc 57 (by rw [hk]; rfl) (enters_of Tryz.func57 (by kernel_rfl) rfl) (fun W v2 g2 hs2 hv2 hg2 => ?_)
  refine (u_left W _ v2 g2 r vA vN vC hs2 hv2 (by subst hg2; exact hf) (by subst hg2; exact hwf)).mono ?_
  rintro e w' ⟨v', g', he, hs, hp, hb⟩
  refine ⟨v', g', he, hs, ?_, hb⟩
  rw [hp]
  unfold evP
  simp [hk]
end
end Go.Proofs.YtgpkmellpllmgaaGreat
