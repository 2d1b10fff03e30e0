/-
  Merged from Base, RowLaws, Tail, FoB, WireP, ReadP, ValP, RecP, Ord, FoE, FoT, FoS, FoK, Fk, FoVar, FoU64, InsP, FdU64, Fm.
-/
import Derived.WalkKit
import Derived.WalkLawsBesides
import Derived.WalkSpells
import Derived.Maps.AppendAt
import Derived.Deep.AppendLies
import Derived.Deep.QuietTactic
import Derived.BigQuiet
import Derived.Lib.QuietBelow
import Derived.Lib.Hide
import Derived.Laws.BytesArg
import Derived.Laws.ResultCell
import Derived.Laws.CopyRow
import Derived.Laws.IdiomCopy
import Derived.Laws.CopyOwn
import Derived.Lib.AppendZeros
import Derived.Lib.Overlaps
import Derived.Shelf.Spec.SlicesInsert
import Derived.StillTail
import Derived.Lib.SliceRun
import Derived.Test.YtfjdllpacdobdaaGreatProg
import Derived.Lib.Bytealg
import Derived.Maps.OwnOps
import Derived.Maps.OwnSet
import Derived.Maps.Views
import Derived.Laws.EntriesVeiled
import Derived.Deep.LoopGhost
/-
  Base words for the walks of this seat: slices that are read or owned as lists of cells, appends, worlds that only grow. Nothing of a program.
-/
set_option linter.unusedVariables false
set_option linter.unusedSimpArgs false
namespace Go.Proofs.Base
open Go Go.RowKit
theorem below_alloc {w W : World} (h : Below w.heap.size w W) (o : Obj) : Below w.heap.size w (W.alloc o) := h.alloc h.size o
theorem below_drewN {B : Nat} {w W : World} (h : Below B w W) (n : Nat) : Below B w (W.drewN n) := ⟨h.os, h.tape, h.output, h.size, h.block⟩
theorem below_then {B : Nat} {w w1 w2 : World} (h : Below B w w1) (hB : B ≤ w1.heap.size) (k : Below w1.heap.size w1 w2) : Below B w w2 :=
  h.trans ⟨k.os, k.tape, k.output, k.size, fun i hi => k.block i (Nat.lt_of_lt_of_le hi hB)⟩
theorem below2 {w w1 w2 : World} (h : Below w.heap.size w w1) (k : Below w1.heap.size w1 w2) : Below w.heap.size w w2 := below_then h h.size k
theorem grown_of_below {w w1 : World} (h : Below w.heap.size w w1) (row : Option Nat) : w.grownBy w1 row := ⟨h.os, h.tape, h.output, h.size, fun i hi _ => h.block i hi⟩
theorem cell_below {w w1 : World} (h : Below w.heap.size w w1) {a : Addr} {v : Value} (hc : w.cell? a = some v) : w1.cell? a = some v := (h.cell (World.block_lt_of_cell? w a hc)).trans hc
theorem block_below {w w1 : World} (h : Below w.heap.size w w1) {b : Nat} {o : Obj} (hc : w.heap[b]? = some o) : w1.heap[b]? = some o :=
  (h.block b (Array.getElem?_eq_some_iff.1 hc).1).trans hc
theorem lt_of_blk {w : World} {b : Nat} {o : Obj} (hc : w.heap[b]? = some o) : b < w.heap.size := (Array.getElem?_eq_some_iff.1 hc).1
theorem frozen_of_blk {w : World} {b : Nat} {c : Array Value} {t : TypeId} (hc : w.heap[b]? = some (.cells c t (0, 0))) (o : Nat) : w.frozen? ⟨b, o, none⟩ = false := by
  simp [World.frozen?, hc]
theorem bne_t {a b : Int} (h : a ≠ b) : (a != b) = true := by rw [bne_iff_ne]; exact h
theorem bne_f {a b : Int} (h : a = b) : (a != b) = false := by rw [h]; simp
theorem beq_t {a b : Int} (h : a = b) : (a == b) = true := by rw [h]; simp
theorem beq_f {a b : Int} (h : a ≠ b) : (a == b) = false := by rw [beq_eq_false_iff_ne]; exact h
theorem cell_of_blk {w : World} {b : Nat} {c : Array Value} {t : TypeId} {f : Nat × Nat} (hc : w.heap[b]? = some (.cells c t f)) (o : Nat) : w.cell? ⟨b, o, none⟩ = c[o]? := by
  simp [World.cell?, hc]
theorem set_blk {w : World} {b o : Nat} {c : Array Value} {t : TypeId} {f : Nat × Nat} (hc : w.heap[b]? = some (.cells c t f)) (u : Value) : (w.setCell ⟨b, o, none⟩ u).heap[b]? = some (.cells (c.setIfInBounds o u) t f) := by
  simp [World.setCell, Array.getElem?_modify, hc]
structure Mut (T : Nat → Prop) (w w' : World) : Prop where
  os : w'.os = w.os
  tape : w'.tape = w.tape
  output : w'.output = w.output
  size : w.heap.size ≤ w'.heap.size
  block : ∀ k, k < w.heap.size → ¬ T k → w'.heap[k]? = w.heap[k]?
theorem Mut.refl (T : Nat → Prop) (w : World) : Mut T w w := ⟨rfl, rfl, rfl, Nat.le_refl _, fun _ _ _ => rfl⟩
theorem Mut.trans {T T' : Nat → Prop} {w w1 w2 : World} (h : Mut T w w1) (k : Mut T' w1 w2) (hT : ∀ b, b < w.heap.size → T' b → T b) : Mut T w w2 :=
  ⟨k.os.trans h.os, k.tape.trans h.tape, k.output.trans h.output, Nat.le_trans h.size k.size, fun b hb hn =>
    (k.block b (Nat.lt_of_lt_of_le hb h.size) (fun ht => hn (hT b hb ht))).trans (h.block b hb hn)⟩
theorem Mut.of_below {w w1 : World} (h : Below w.heap.size w w1) (T : Nat → Prop) : Mut T w w1 := ⟨h.os, h.tape, h.output, h.size, fun b hb _ => h.block b hb⟩
theorem Mut.below {w w1 : World} (h : Mut (fun _ => False) w w1) : Below w.heap.size w w1 := ⟨h.os, h.tape, h.output, h.size, fun b hb => h.block b hb (fun h => h)⟩
theorem Mut.grown {T : Nat → Prop} {w w1 : World} {row : Option Nat} (hg : w.grownBy w1 row) (hT : ∀ b, row = some b → T b) : Mut T w w1 :=
  ⟨hg.os, hg.tape, hg.output, hg.size, fun b hb hn => hg.block b hb (fun e => hn (hT b e.symm))⟩
theorem Mut.setCell {T : Nat → Prop} {w w1 : World} (h : Mut T w w1) {p : Addr} (hp : p.block < w.heap.size → T p.block) (u : Value) : Mut T w (w1.setCell p u) :=
  ⟨h.os, h.tape, h.output, by simpa [World.setCell] using h.size, fun b hb hn => (Below.heap_setCell w1 p u b (fun e => hn (e ▸ hp (e ▸ hb)))).trans (h.block b hb hn)⟩
theorem Mut.alloc {T : Nat → Prop} {w w1 : World} (h : Mut T w w1) (o : Obj) : Mut T w (w1.alloc o) :=
  ⟨h.os, h.tape, h.output, Nat.le_trans h.size (by simp), fun b hb hn => (Below.heap_alloc w1 o b (Nat.lt_of_lt_of_le hb h.size)).trans (h.block b hb hn)⟩
theorem Mut.drewN {T : Nat → Prop} {w w1 : World} (h : Mut T w w1) (n : Nat) : Mut T w (w1.drewN n) := ⟨h.os, h.tape, h.output, h.size, h.block⟩
theorem Mut.drew {T : Nat → Prop} {w w1 : World} (h : Mut T w w1) : Mut T w w1.drew := ⟨h.os, h.tape, h.output, h.size, h.block⟩
theorem Mut.mono {T T' : Nat → Prop} {w w1 : World} (h : Mut T w w1) (hT : ∀ b, b < w.heap.size → T b → T' b) : Mut T' w w1 :=
  ⟨h.os, h.tape, h.output, h.size, fun b hb hn => h.block b hb (fun ht => hn (hT b hb ht))⟩
theorem Mut.blk {T : Nat → Prop} {w w1 : World} (h : Mut T w w1) {b : Nat} {o : Obj} (hc : w.heap[b]? = some o) (hn : ¬ T b) : w1.heap[b]? = some o :=
  (h.block b (lt_of_blk hc) hn).trans hc
theorem Mut.cell {T : Nat → Prop} {w w1 : World} (h : Mut T w w1) {a : Addr} {v : Value} (hc : w.cell? a = some v) (hn : ¬ T a.block) : w1.cell? a = some v :=
  (World.cell?_of_block (w := w) (h.block a.block (World.block_lt_of_cell? w a hc) hn)).trans hc
theorem add_plain (b o j : Nat) : (⟨b, o, none⟩ : Addr).add j = ⟨b, o + j, none⟩ := by unfold Addr.add; split <;> simp_all
structure ElemT (P : Program) (t e : TypeId) (sz bytes : Nat) : Prop where
  ht : P.underlying t = some (.slice e)
  hi : ∃ i z, P.info? e = some i ∧ i.zero = some z ∧ i.size = sz ∧ i.bytes = bytes ∧ z.cells.size = sz
theorem ElemT.of {P : Program} {t e : TypeId} {sz bytes : Nat} {z : Value} (ht : P.underlying t = some (.slice e)) (h : (P.info? e).map (fun i => (i.zero, i.size, i.bytes)) = some (some z, sz, bytes)) (hz : z.cells.size = sz) : ElemT P t e sz bytes := by
  obtain ⟨i, hi, hz0, hz1, hz2⟩ := info_parts h
  exact ⟨ht, i, z, hi, hz0, hz1, hz2, hz⟩
def Row (w : World) (S : Nat → Prop) (sz n : Nat) (v : Value) (cs : List Value) : Prop :=
  ∃ A c, v = .slice A n c ∧ n ≤ c ∧ c ≤ maxLen ∧ cs.length = n * sz ∧ (A = none → n = 0 ∧ c = 0) ∧
    (0 < n → ∃ b o, A = some ⟨b, o, none⟩ ∧ S b ∧ b < w.heap.size ∧ ∀ j u, cs[j]? = some u → w.cell? ⟨b, o + j, none⟩ = some u)
theorem Row.keep {w w' : World} {S S' : Nat → Prop} {sz n : Nat} {v : Value} {cs : List Value} (h : Row w S sz n v cs) (hk : ∀ b, b < w.heap.size → S b → w'.heap[b]? = w.heap[b]?) (hS : ∀ b, b < w.heap.size → S b → S' b) (hsz : w.heap.size ≤ w'.heap.size) : Row w' S' sz n v cs := by
  obtain ⟨A, c, hv, h1, h2, h3, h4, h5⟩ := h
  refine ⟨A, c, hv, h1, h2, h3, h4, fun hn => ?_⟩
  obtain ⟨b, o, hA, hSb, hlt, hc⟩ := h5 hn
  exact ⟨b, o, hA, hS b hlt hSb, Nat.lt_of_lt_of_le hlt hsz, fun j u hu => (World.cell?_of_block (w := w) (a := ⟨b, o + j, none⟩) (hk b hlt hSb)).trans (hc j u hu)⟩
theorem Row.below {w w' : World} {S : Nat → Prop} {sz n : Nat} {v : Value} {cs : List Value} (h : Row w S sz n v cs) (hb : Below w.heap.size w w') : Row w' S sz n v cs :=
  h.keep (fun b hlt _ => hb.block b hlt) (fun _ _ h => h) hb.size
theorem Row.mut {T : Nat → Prop} {w w' : World} {S : Nat → Prop} {sz n : Nat} {v : Value} {cs : List Value} (h : Row w S sz n v cs) (hb : Mut T w w') (hd : ∀ b, b < w.heap.size → S b → ¬ T b) : Row w' S sz n v cs :=
  h.keep (fun b hlt hS => hb.block b hlt (hd b hlt hS)) (fun _ _ h => h) hb.size
theorem Row.weaken {w : World} {S S' : Nat → Prop} {sz n : Nat} {v : Value} {cs : List Value} (h : Row w S sz n v cs) (hS : ∀ b, b < w.heap.size → S b → S' b) : Row w S' sz n v cs :=
  h.keep (fun _ _ _ => rfl) hS (Nat.le_refl _)
theorem Row.nil (w : World) (S : Nat → Prop) (sz : Nat) : Row w S sz 0 (.slice none 0 0) [] :=
  ⟨none, 0, rfl, Nat.le_refl _, Nat.zero_le _, by simp, fun _ => ⟨rfl, rfl⟩, fun h => absurd h (by omega)⟩
theorem Row.len {w : World} {S : Nat → Prop} {sz n : Nat} {v : Value} {cs : List Value} (h : Row w S sz n v cs) : cs.length = n * sz := by
  obtain ⟨A, c, hv, h1, h2, h3, _⟩ := h; exact h3
theorem Row.of_own {w : World} {base : Nat} {e : TypeId} {sz n : Nat} {v : Value} {xs : List Value} (h : w.ownsRow base e sz v n xs) : Row w (fun b => base ≤ b ∧ v.ownBlock = some b) sz n v xs := by
  obtain ⟨h1, h2⟩ := h
  rcases h2 with ⟨rfl, rfl⟩ | ⟨g, cap, cur, rfl, hb, hh, hnc, hcm, hcs, htk⟩
  · exact ⟨none, 0, rfl, Nat.le_refl _, Nat.zero_le _, h1, fun _ => ⟨rfl, rfl⟩, fun h => absurd h (by omega)⟩
  · refine ⟨_, cap, rfl, hnc, hcm, h1, (fun h => by cases h), fun _ => ⟨g, 0, rfl, ⟨hb, rfl⟩, lt_of_blk hh, fun j u hu => ?_⟩⟩
    rw [Nat.zero_add, cell_of_blk hh, ← Array.getElem?_toList]
    rw [← htk, List.getElem?_take] at hu
    split at hu
    · exact hu
    · cases hu
theorem Row.open_ {w : World} {S : Nat → Prop} {sz n : Nat} {v : Value} {cs : List Value} (h : Row w S sz n v cs) : ∃ A c, v = .slice A n c ∧ n ≤ c ∧ c ≤ 9223372036854775807 := by
  obtain ⟨A, c, hv, h1, h2, _⟩ := h; exact ⟨A, c, hv, h1, by simpa [maxLen] using h2⟩
theorem Row.at_ {w : World} {S : Nat → Prop} {sz n c : Nat} {A : Option Addr} {cs : List Value} (h : Row w S sz n (.slice A n c) cs) (hn : 0 < n) :
    ∃ b o, A = some ⟨b, o, none⟩ ∧ S b ∧ b < w.heap.size ∧ ∀ i j u, cs[i * sz + j]? = some u → w.cell? ⟨b, o + i * sz + j, none⟩ = some u := by
  obtain ⟨A', c', hv, h1, h2, h3, h4, h5⟩ := h
  injection hv with e1 e2 e3
  subst e1
  obtain ⟨b, o, hA, hS, hlt, hc⟩ := h5 hn
  exact ⟨b, o, hA, hS, hlt, fun i j u hu => by rw [Nat.add_assoc]; exact hc _ u hu⟩
theorem wp_app {P : Program} {w0 W : World} {ops : Array Oper} {rest : List Oper} {o : Oper} {a : Act} {Q : Exit → Act → World → Prop} {t e : TypeId} {sz bytes : Nat} (E : ElemT P t e sz bytes) (hsz : 0 < sz)
    (hgd : o.guard = none) (s x : Operand) (ho : o.op = .call { callee := .builtin .append, args := #[s, x], argTypes := #[t, t] })
    (base : Nat) (v : Value) (n : Nat) (xs cs : List Value) (hs : a.eval s = v) (hx : a.eval x = .slice (some ⟨W.heap.size, 0, none⟩) 1 1) (hcs : cs.length = sz) (h1 : ∀ u ∈ cs, u.oneCell' = true)
    (HO : W.ownsRow base e sz v n xs) (HB : Below base w0 W) (hbase : base ≤ W.heap.size) (hl : n + 1 ≤ 140737488355328) (hl2 : (n + 1) * bytes ≤ 140737488355328)
    (h : ∀ v1 w1, w1.ownsRow base e sz v1 (n + 1) (xs ++ cs) → Below base w0 w1 → (W.alloc (.cells cs.toArray e)).grownBy w1 v.ownBlock → (v1.ownBlock = v.ownBlock ∨ ∃ b, v1.ownBlock = some b ∧ W.heap.size ≤ b) → wpList P ops Q rest (a.put o.dst v1) w1) :
    wpList P ops Q (o :: rest) a (W.alloc (.cells cs.toArray e)) := by
  obtain ⟨i0, z, hi, hz0, hz1, hz2, hzc⟩ := E.hi
  refine wpList_append_own_at (W.alloc (.cells cs.toArray e)) hgd s x t ho base e i0 z sz bytes E.ht hi hz0 hz1 hz2 hzc hsz v n xs hs (HO.alloc _) ⟨W.heap.size, 0, none⟩ 1 1 cs hx (by omega)
    (World.news_of_block (cs := cs.toArray) (t := e) (fr := (0, 0)) (heap_alloc_new W _)) h1 (by simp only [maxLen]; omega) hl2 (by simp; omega) ?_
  intro v1 w1 hown hg _ hat
  refine h v1 w1 hown ((HB.alloc hbase _).grown hg (by simp; omega) (fun k hk => (HO.lt k hk).1)) hg ?_
  rcases hat with hat | hat
  · exact .inl hat
  · exact .inr ⟨_, hat, by simp⟩
theorem own_nil (W : World) (base : Nat) (e : TypeId) (size : Nat) : W.ownsRow base e size (.slice none 0 0) 0 [] := ⟨by simp, .inl ⟨rfl, rfl⟩⟩
def toL (s : ByteArray) : List UInt8 := s.data.toList
def ofL (l : List UInt8) : ByteArray := ⟨l.toArray⟩
@[simp] theorem toL_ofL (l : List UInt8) : toL (ofL l) = l := by simp [toL, ofL]
@[simp] theorem ofL_toL (s : ByteArray) : ofL (toL s) = s := by simp [toL, ofL]
@[simp] theorem toL_append (a b : ByteArray) : toL (a ++ b) = toL a ++ toL b := by simp [toL]
@[simp] theorem toL_length (a : ByteArray) : (toL a).length = a.size := by simp [toL]
theorem toList_toL (s : ByteArray) : s.toList = toL s := ByteArray.toList_eq s
def ofN (xs : List Nat) : ByteArray := ofL (xs.map UInt8.ofNat)
end Go.Proofs.Base
/-
  Laws of no program: copy of elements of several cells into a row of the call's own; an append of made elements that must grow.
-/
set_option linter.unusedVariables false
set_option linter.unusedSimpArgs false
namespace Go.Proofs.Base
open Go Go.RowKit
section
variable {P : Program}
end
end Go.Proofs.Base
/-
  A region that draws its order: quiet operations, then one last one that waits for all of them: walked in the order of the text.
-/
set_option linter.unusedVariables false
set_option linter.unusedSimpArgs false
namespace Go.Proofs.Base
open Go Go.RowKit
open Go.Sort (grow grow_empty)
section
variable {P : Program} {l : List Oper} {t : Oper} {Q : Exit → Act → World → Prop} {C : World → Prop} {Q1 : Act → Prop}
end
end Go.Proofs.Base
/-
  Words for lists of elements of several cells that are read, copied, searched, changed: plain lists, and the laws of the walk that they want. Nothing of a program.
-/
set_option linter.unusedVariables false
set_option linter.unusedSimpArgs false
namespace Go.Proofs.Base
open Go Go.RowKit
section
variable {α : Type} {enc : α → List Value} {K : Nat}
theorem flat_len (h : ∀ x, (enc x).length = K) : ∀ l : List α, (l.flatMap enc).length = l.length * K
  | [] => by simp
  | x :: r => by rw [List.flatMap_cons, List.length_append, h, flat_len h r, List.length_cons, Nat.succ_mul, Nat.add_comm]
theorem flat_at (h : ∀ x, (enc x).length = K) : ∀ {l : List α} {k : Nat} (hk : k < l.length) (j : Nat), j < K → (l.flatMap enc)[k * K + j]? = (enc l[k])[j]?
  | [], k, hk, _, _ => by simp at hk
  | x :: r, 0, hk, j, hj => by
    rw [List.flatMap_cons, Nat.zero_mul, Nat.zero_add, List.getElem?_append_left (by rw [h]; exact hj)]; rfl
  | x :: r, k + 1, hk, j, hj => by
    rw [List.flatMap_cons, List.getElem?_append_right (by rw [h, Nat.succ_mul]; omega), h, show (k + 1) * K + j - K = k * K + j by rw [Nat.succ_mul]; omega, List.getElem_cons_succ]
    exact flat_at h (by simpa using hk) j hj
theorem flat_one (h1 : ∀ x, ∀ u ∈ enc x, u.oneCell' = true) (l : List α) : ∀ u ∈ l.flatMap enc, u.oneCell' = true := by
  intro u hu
  obtain ⟨x, _, hx⟩ := List.mem_flatMap.1 hu
  exact h1 x u hx
theorem seg_sets (Pp R : List Value) (o : Nat) (ho : Pp.length = o) : ∀ (js : List (Nat × Value)) (seg : List Value), (∀ q ∈ js, q.1 < seg.length) → js.foldl (fun L q => L.set (o + q.1) q.2) (Pp ++ (seg ++ R)) = Pp ++ (js.foldl (fun c q => c.set q.1 q.2) seg ++ R)
  | [], _, _ => rfl
  | q :: r, seg, h => by
    have hq := h q List.mem_cons_self
    rw [List.foldl_cons, List.foldl_cons, List.set_append_right _ _ (by omega), List.set_append_left _ _ (by omega), show o + q.1 - Pp.length = q.1 by omega]
    exact seg_sets Pp R o ho r (seg.set q.1 q.2) (fun x hx => by rw [List.length_set]; exact h x (List.mem_cons_of_mem _ hx))
theorem flat_sets (h : ∀ x, (enc x).length = K) {l : List α} {i : Nat} (hi : i < l.length) (js : List (Nat × Value)) (hjs : ∀ q ∈ js, q.1 < K) {y : α} (he : js.foldl (fun c q => c.set q.1 q.2) (enc l[i]) = enc y) :
    js.foldl (fun L q => L.set (i * K + q.1) q.2) (l.flatMap enc) = (l.set i y).flatMap enc := by
  have e : l.flatMap enc = (l.take i).flatMap enc ++ (enc l[i] ++ (l.drop (i + 1)).flatMap enc) := by
    have e1 : l = l.take i ++ l[i] :: l.drop (i + 1) := by rw [List.getElem_cons_drop, List.take_append_drop]
    have e2 := congrArg (fun L => L.flatMap enc) e1
    simp only [List.flatMap_append, List.flatMap_cons] at e2
    exact e2
  have hpl : ((l.take i).flatMap enc).length = i * K := by rw [flat_len h, List.length_take, Nat.min_eq_left (by omega)]
  rw [e, seg_sets _ _ _ hpl js (enc l[i]) (fun q hq => by rw [h]; exact hjs q hq), he, List.set_eq_take_append_cons_drop, if_pos hi, List.flatMap_append, List.flatMap_cons]
end
section
variable {α β : Type}
def idxGoP (p : α → Bool) : List α → Nat → Int
  | [], _ => -1
  | x :: r, i => if p x = true then (i : Int) else idxGoP p r (i + 1)
def idxP (p : α → Bool) (l : List α) : Int := idxGoP p l 0
theorem idxGoP_spec (p : α → Bool) : ∀ (l : List α) (i : Nat), (idxGoP p l i = -1 ∧ ∀ x ∈ l, p x = false) ∨ (∃ j, ∃ h : j < l.length, idxGoP p l i = ((i + j : Nat) : Int) ∧ p l[j] = true ∧ ∀ k (hk : k < j), p (l[k]'(Nat.lt_trans hk h)) = false)
  | [], i => .inl ⟨rfl, by simp⟩
  | x :: r, i => by
    unfold idxGoP
    by_cases h : p x = true
    · rw [if_pos h]
      exact .inr ⟨0, by simp, rfl, by simpa using h, fun k hk => absurd hk (Nat.not_lt_zero _)⟩
    · rw [if_neg h]
      have hf : p x = false := by simpa using h
      rcases idxGoP_spec p r (i + 1) with ⟨h1, h2⟩ | ⟨j, hj, h1, h2, h3⟩
      · exact .inl ⟨h1, by intro y hy; rcases List.mem_cons.1 hy with rfl | hy; exact hf; exact h2 y hy⟩
      · refine .inr ⟨j + 1, by simpa using hj, by rw [h1]; congr 1; omega, by simpa using h2, fun k hk => ?_⟩
        cases k with
        | zero => simpa using hf
        | succ k => simpa using h3 k (by omega)
theorem idxP_spec (p : α → Bool) (l : List α) : (idxP p l = -1 ∧ ∀ x ∈ l, p x = false) ∨ (∃ j, ∃ h : j < l.length, idxP p l = (j : Int) ∧ p l[j] = true ∧ ∀ k (hk : k < j), p (l[k]'(Nat.lt_trans hk h)) = false) := by
  have := idxGoP_spec p l 0
  simpa [idxP] using this
def spotL (c : α → α → Int) (x : α) (l : List α) : Nat := if idxP (fun y => decide (0 < c y x)) l < 0 then l.length else (idxP (fun y => decide (0 < c y x)) l).toNat
def putL (c : α → α → Int) (x : α) (l : List α) : List α :=
  if 0 ≤ idxP (fun y => decide (c y x = 0)) l then l.set (idxP (fun y => decide (c y x = 0)) l).toNat x
  else l.take (spotL c x l) ++ x :: l.drop (spotL c x l)
def changeL (p : α → Bool) (f : α → α) (l : List α) : List α :=
  if idxP p l < 0 then l else l.modify (idxP p l).toNat f
theorem changeL_len (p : α → Bool) (f : α → α) (l : List α) : (changeL p f l).length = l.length := by
  unfold changeL; split <;> simp
def findP (z : α) (p : α → Bool) (l : List α) : α × Bool := if idxP p l < 0 then (z, false) else (l.getD (idxP p l).toNat z, true)
def cmpI (a b : Int) : Int := if a < b then -1 else if b < a then 1 else 0
end
theorem blk_new {w : World} (o : Obj) : (w.alloc o).heap[w.heap.size]? = some o := heap_alloc_new w o
theorem blk_new_of {w : World} (o : Obj) {n : Nat} (h : n = w.heap.size) : (w.alloc o).heap[n]? = some o := by subst h; exact heap_alloc_new w o
theorem blk_alloc {w : World} {b : Nat} {o : Obj} (h : w.heap[b]? = some o) (o' : Obj) : (w.alloc o').heap[b]? = some o := (heap_alloc_old w o' (lt_of_blk h)).trans h
theorem blk_set_other {w : World} {b b' o : Nat} {ob : Obj} {u : Value} (h : w.heap[b']? = some ob) (hne : b' ≠ b) : (w.setCell ⟨b, o, none⟩ u).heap[b']? = some ob := (Below.heap_setCell w ⟨b, o, none⟩ u b' hne).trans h
theorem own_some {w : World} {b e size n : Nat} {v : Value} {xs : List Value} (h : w.ownsRow b e size v n xs) (hn : 0 < n * size) : ∃ g cap, ∃ cur : Array Value, v = .slice (some ⟨g, 0, none⟩) n cap ∧ b ≤ g ∧ w.heap[g]? = some (.cells cur e (0, 0)) ∧ n ≤ cap ∧ cap ≤ maxLen ∧ cap * size = cur.size ∧ cur.toList.take (n * size) = xs := by
  obtain ⟨h1, h2⟩ := h
  rcases h2 with ⟨_, h2⟩ | ⟨g, cap, cur, rfl, hbg, hh, hnc, hcm, hcs, htk⟩
  · subst h2; simp at hn
  · exact ⟨g, cap, cur, rfl, hbg, hh, hnc, hcm, by omega, htk⟩
theorem own_base {w : World} {b b' e size n : Nat} {v : Value} {xs : List Value} (h : w.ownsRow b e size v n xs) (hb : b' ≤ b) : w.ownsRow b' e size v n xs := by
  obtain ⟨h1, h2⟩ := h
  refine ⟨h1, ?_⟩
  rcases h2 with h2 | ⟨g, cap, cur, rfl, hbg, r⟩
  · exact .inl h2
  · exact .inr ⟨g, cap, cur, rfl, Nat.le_trans hb hbg, r⟩
theorem own_mut {T : Nat → Prop} {w w' : World} {base e size n : Nat} {v : Value} {xs : List Value} (h : w.ownsRow base e size v n xs) (hm : Mut T w w') (hT : ∀ b, v.ownBlock = some b → ¬ T b) : w'.ownsRow base e size v n xs := by
  obtain ⟨h1, h2⟩ := h
  refine ⟨h1, ?_⟩
  rcases h2 with h2 | ⟨g, cap, cur, rfl, hbg, hh, r⟩
  · exact .inl h2
  · exact .inr ⟨g, cap, cur, rfl, hbg, hm.blk hh (hT g (by simp [Value.ownBlock])), r⟩
end Go.Proofs.Base
/-
  What the bytes of numbers and texts are (layer 1), as plain lists; no program.
-/
set_option linter.unusedVariables false
set_option linter.unusedSimpArgs false
namespace Go.Proofs.Base
open Go Go.RowKit
def uintN (v : Nat) : List Nat := if h : v < 128 then [v] else (v % 128 + 128) :: uintN (v / 128)
termination_by v
decreasing_by omega
def uintB (v : Nat) : ByteArray := ofN (uintN v)
def zig (v : Int) : Nat := if 0 ≤ v then (2 * v).toNat else (-2 * v - 1).toNat
def intB (v : Int) : ByteArray := uintB (zig v)
def textB (s : ByteArray) : ByteArray := uintB s.size ++ s
end Go.Proofs.Base
/-
  What a number at the head of bytes is (layer 1); no program.
-/
set_option linter.unusedVariables false
set_option linter.unusedSimpArgs false
namespace Go.Proofs.Base
open Go Go.RowKit
theorem toL_drop_cons {s : ByteArray} {k : Nat} (h : k < s.size) : (toL s).drop k = s[k] :: (toL s).drop (k + 1) := by
  rw [List.drop_eq_getElem_cons (by simpa using h)]
  rfl
end Go.Proofs.Base
namespace Go.Proofs.Base
open Go Go.RowKit
end Go.Proofs.Base
/-
  Values and variables (layer 9), as plain functions; no program.
-/
set_option linter.unusedVariables false
set_option linter.unusedSimpArgs false
namespace Go.Proofs.Base
open Go Go.RowKit
def i64 (n : Int) : Prop := -9223372036854775808 ≤ n ∧ n ≤ 9223372036854775807
def u64 (n : Int) : Prop := 0 ≤ n ∧ n ≤ 18446744073709551615
def okS (s : ByteArray) : Prop := s.size ≤ 140737488351232
structure GVal where
  k : Int
  n : Int
  s : ByteArray
structure GVar where
  name : ByteArray
  v : GVal
@[ext] theorem GVal.ext {a b : GVal} (h1 : a.k = b.k) (h2 : a.n = b.n) (h3 : a.s = b.s) : a = b := by cases a; cases b; simp_all
@[ext] theorem GVar.ext {a b : GVar} (h1 : a.name = b.name) (h2 : a.v = b.v) : a = b := by cases a; cases b; simp_all
def GVal.wf (v : GVal) : Prop := i64 v.k ∧ i64 v.n ∧ okS v.s
def GVar.wf (v : GVar) : Prop := okS v.name ∧ v.v.wf
def GVal.cells (v : GVal) : List Value := [.int .i64 v.k, .int .i64 v.n, .string v.s]
def GVar.cells (v : GVar) : List Value := [.string v.name, .int .i64 v.v.k, .int .i64 v.v.n, .string v.v.s]
def zeroV : GVal := ⟨0, 0, ByteArray.empty⟩
def mayV (k n : Int) (s : ByteArray) : Bool :=
  if k = 3 then decide (n = 0) && decide (s.size ≤ 1024)
  else if k = 2 then (decide (n = 0) || decide (n = 1)) && decide (s.size = 0)
  else if k = 1 then decide (s.size = 0) else false
def GVal.may (v : GVal) : Bool := mayV v.k v.n v.s
def nameB (c : UInt8) : Bool := (decide (97 ≤ c.toNat) && decide (c.toNat ≤ 122)) || (decide (48 ≤ c.toNat) && decide (c.toNat ≤ 57)) || decide (c.toNat = 95)
def letterB (c : UInt8) : Bool := decide (97 ≤ c.toNat) && decide (c.toNat ≤ 122)
def words : List (List UInt8) := [[97, 110, 100], [111, 114], [110, 111, 116], [116, 114, 117, 101], [102, 97, 108, 115, 101], [108, 101, 110]]
def named (s : ByteArray) : Bool :=
  match toL s with
  | [] => false
  | c :: r => decide (s.size ≤ 32) && letterB c && r.all nameB && !words.contains (c :: r)
def wordBs : List ByteArray := words.map ofL
theorem named_nil {s : ByteArray} (h : ¬ 0 < s.size) : named s = false := by
  have : toL s = [] := List.eq_nil_of_length_eq_zero (by rw [toL_length]; omega)
  unfold named; rw [this]
theorem named_cons {s : ByteArray} (h : 0 < s.size) : named s = (decide (s.size ≤ 32) && letterB s[0] && ((toL s).drop 1).all nameB && !(wordBs.any fun y => s.toList == y.toList)) := by
  have h1 : toL s = s[0] :: (toL s).drop 1 := by have := toL_drop_cons (s := s) (k := 0) h; simpa using this
  have h2 : words.contains (toL s) = wordBs.any fun y => s.toList == y.toList := by
    rw [toList_toL, wordBs, List.any_map]
    rw [List.contains_eq_any_beq]
    apply congrArg (fun f => words.any f)
    funext l
    simp [toList_toL]
  unfold named
  rw [← h2]
  generalize (toL s).drop 1 = r at *
  rw [h1]
def valB (k n : Int) (s : ByteArray) : ByteArray := if mayV k n s then ofN [k.toNat] ++ (if k = 3 then textB s else intB n) else ByteArray.empty
def GVal.bytes (v : GVal) : ByteArray := valB v.k v.n v.s
def lessS (a b : ByteArray) : Bool := Op.bytesLess a.toList b.toList
def rightFrom : Option ByteArray → List GVar → Bool
  | _, [] => true
  | p, x :: r => named x.name && x.v.may && (match p with | none => true | some q => lessS q x.name) && rightFrom (some x.name) r
def rightV (l : List GVar) : Bool := decide (l.length ≤ 16) && rightFrom none l
def varsCat : List GVar → ByteArray
  | [] => ByteArray.empty
  | x :: r => (textB x.name ++ x.v.bytes) ++ varsCat r
def varsB (l : List GVar) : ByteArray := if rightV l then uintB l.length ++ varsCat l else ByteArray.empty
end Go.Proofs.Base
/-
  Records (layer 12), as plain functions; no program.
-/
set_option linter.unusedVariables false
set_option linter.unusedSimpArgs false
namespace Go.Proofs.Base
open Go Go.RowKit
structure GRec where
  cls : Int
  kind : Int
  frm : Int
  time : Int
  key : Int
  key2 : Int
  key3 : Int
  n : Int
  m : Int
  a : ByteArray
  b : ByteArray
  c : ByteArray
  vars : List GVar
def GRec.wf (r : GRec) : Prop := i64 r.cls ∧ i64 r.kind ∧ u64 r.frm ∧ i64 r.time ∧ u64 r.key ∧ u64 r.key2 ∧ u64 r.key3 ∧ i64 r.n ∧ i64 r.m ∧ okS r.a ∧ okS r.b ∧ okS r.c ∧ ∀ x ∈ r.vars, x.wf
def recHead (r : GRec) : ByteArray := ofN [(r.cls % 256).toNat, (r.kind % 256).toNat]
def recPiece (r : GRec) : Nat → ByteArray
  | 0 => uintB r.frm.toNat ++ intB r.time
  | 1 => uintB r.key.toNat ++ uintB r.key2.toNat ++ uintB r.key3.toNat
  | 2 => intB r.n ++ intB r.m
  | 3 => textB r.a ++ textB r.b ++ textB r.c
  | _ => varsB r.vars
def recAcc (r : GRec) : Nat → ByteArray
  | 0 => recHead r
  | k + 1 => recAcc r k ++ recPiece r k
def recText (r : GRec) : ByteArray := recAcc r 5
def kindsM (cls : Int) : Int := if cls = 2 then 24 else 16
def aMost (cls kind : Int) : Int := if cls = 1 ∧ kind = 1 then 8192 else 32
def bMost (cls kind : Int) : Int := if cls = 2 ∧ kind = 1 then 8192 else 1024
def recMayP (r : GRec) : Prop := 1 ≤ r.cls ∧ r.cls ≤ 3 ∧ 1 ≤ r.kind ∧ r.kind ≤ kindsM r.cls ∧ (r.cls = 1 ↔ r.frm = 0) ∧ 0 ≤ r.time ∧ r.time ≤ 1099511627776 ∧
  (r.a.size : Int) ≤ aMost r.cls r.kind ∧ (r.b.size : Int) ≤ bMost r.cls r.kind ∧ r.c.size ≤ 32 ∧ rightV r.vars = true ∧ (recText r).size ≤ 4096
instance (r : GRec) : Decidable (recMayP r) := by unfold recMayP; infer_instance
def recMay (r : GRec) : Bool := decide (recMayP r)
def recB (r : GRec) : ByteArray × Int := if recMay r then (recText r, 0) else (⟨#[]⟩, 1)
end Go.Proofs.Base
/-
  A region that draws its order: operations that only read, and others that act on memory: walked in an order of one's own choosing: all that reads and may come up, then the one that is left. Nothing of a program.
-/
set_option linter.unusedVariables false
set_option linter.unusedSimpArgs false
namespace Go.Proofs.Base
open Go Go.RowKit
open Go.Sort (grow grow_empty)
def readB (o : Oper) : Bool := match o.op with
  | .move .. | .assign .. | .pick .. | .build .. | .load .. | .binOp .. | .unOp .. | .convert .. | .makeFunc .. | .fieldAddr .. | .indexAddr .. | .lookup .. | .extract .. | .nilCheck .. => true
  | _ => false
def noEnter (r : Result Next) : Prop := ∀ f args w', r ≠ .ok (.enter f args) w'
theorem noEnter_bind {P : Program} {β : Type} {w : World} (s : Sem β) (k : β → Sem Next) (h : ∀ x w, noEnter ((k x).run P w)) : noEnter ((s >>= k).run P w) := by
  intro f args w' hh
  rw [Sem.run_bind] at hh
  cases hs : s.run P w with
  | ok v w1 => rw [hs] at hh; exact h v w1 f args w' (by simpa [Result.andThen] using hh)
  | halt x w1 => rw [hs] at hh; simp [Result.andThen] at hh
theorem noEnter_pure {P : Program} {w : World} (v : Value) : noEnter ((pure (Next.value v) : Sem Next).run P w) := by
  intro f args w' hh; simp at hh
theorem noEnter_panic {P : Program} {w : World} : noEnter ((runtimePanic .nilDeref : Sem Next).run P w) := by
  intro f args w' hh
  revert hh
  simp [runtimePanic, RuntimeError.nilDeref]
theorem read_ne {P : Program} {w : World} {o : Oper} {ρ : Operand → Value} (h : readB o = true) : noEnter ((execOp ρ o).run P w) := by
  obtain ⟨dst, op, type, guard, after, pos⟩ := o
  unfold readB at h
  cases op <;> simp only [Bool.false_eq_true] at h <;> unfold execOp <;> simp only
  case nilCheck x =>
    split
    · exact noEnter_panic
    · exact noEnter_panic
    · exact noEnter_panic
    · split
      · exact noEnter_panic
      · refine noEnter_bind _ _ (fun _ _ => noEnter_bind _ _ (fun _ _ => ?_))
        split
        · exact noEnter_bind _ _ (fun _ _ => noEnter_pure _)
        · exact noEnter_pure _
      · exact noEnter_pure _
    · exact noEnter_pure _
  all_goals first
    | exact noEnter_pure _
    | exact noEnter_bind _ _ (fun _ _ => noEnter_pure _)
section
variable {P : Program} {ops : Array Oper} {md : Region.Mode} {C : World → Prop}
def onlyK (K : Act → World → Prop) (e : Exit) (a : Act) (w : World) : Prop := e = .normal ∧ K a w
theorem onlyK_panic {K : Act → World → Prop} {c : _} {a : Act} {w : World} : ¬ onlyK K (.panic c) a w := fun h => by cases h.1
theorem onlyK_letsOut {K : Act → World → Prop} : ¬ LetsOut (onlyK K) := fun ⟨_, _, h, _⟩ => by cases h
theorem wp_only {o : Oper} {a : Act} {w : World} {K K' : Act → World → Prop} {Q Q' : Act → World → Prop} (h : ∀ a w, K a w → K' a w) (hh : o.wp P a w K (onlyK Q)) : o.wp P a w K' (onlyK Q') := by
  unfold Oper.wp at *
  generalize (execOp a.eval o).run P w = r at *
  cases r with
  | ok n w' =>
    cases n <;> simp only [Oper.upon] at hh ⊢
    case value u => exact h _ _ hh
    case skip => exact h _ _ hh
    case defer d => exact h _ _ hh
    case enter f args =>
      refine Calls.mono hh fun e w'' he => ?_
      cases e with
      | returned u => exact h _ _ he
      | panicked c => exact absurd he onlyK_panic
      | outgrown => exact absurd he onlyK_letsOut
    case row row args => exact Rows.mono hh fun u w'' he => h _ _ he
  | halt x w' =>
    cases x <;> simp only [Oper.upon] at hh
    case panic u => exact absurd hh onlyK_panic
def wpAnyK (P : Program) (md : Region.Mode) (ops : Array Oper) (fr : List Nat) (C : World → Prop) (Q : Act → World → Prop) : Nat → Array Bool → Act → World → Prop
  | 0, listed, a, w => Region.ready md ops listed = [] ∧ Q a w
  | fuel + 1, listed, a, w => (Region.ready md ops listed = [] → Q a w) ∧ ∀ i ∈ Region.ready md ops listed, wpOp P ops (onlyK Q) i (fun a' w' => (fr.contains i = false → C w → C w') ∧ wpAnyK P md ops fr C Q fuel (listed.setIfInBounds i true) a' w') a w
variable {fr : List Nat}
variable {Q : Act → World → Prop}
theorem wpAny_of_K : ∀ (fuel : Nat) (listed : Array Bool) (a : Act) (w : World), wpAnyK P md ops fr C Q fuel listed a w → wpAny P md ops (onlyK Q) fuel listed a w
  | 0, _, _, _, h => ⟨h.1, rfl, h.2⟩
  | fuel + 1, _, _, _, h => ⟨fun h0 => ⟨rfl, h.1 h0⟩, fun i hi => wpOp_mono (fun a w hk => wpAny_of_K fuel _ a w hk.2) (h.2 i hi)⟩
def YieldsK (P : Program) (ops : Array Oper) (C : World → Prop) (o : Oper) (v : Value) (a : Act) : Prop :=
  (Region.wanted o (yielded ops a.tmps) = true ∧ ∀ w, C w → (execOp a.eval o).run P w = .ok (.value v) w ∨ ((execOp a.eval o).run P w = .ok .skip w ∧ v = undef)) ∨ (Region.wanted o (yielded ops a.tmps) = false ∧ v = undef)
theorem YieldsK.of_in {o : Oper} {v : Value} {a : Act} (hr : readB o = true) (h : YieldsIn P ops C o v a) : YieldsK P ops C o v a := by
  rcases h with ⟨h1, h2⟩ | h
  · refine .inl ⟨h1, fun w hw => ?_⟩
    have h3 := h2 w hw
    have h4 := read_ne (P := P) (w := w) (ρ := a.eval) hr
    unfold Oper.quietAt at h3
    generalize (execOp a.eval o).run P w = r at *
    cases r with
    | ok n w' =>
      cases n <;> simp only [Oper.quietUpon] at h3
      case value u => obtain ⟨rfl, rfl⟩ := h3; exact .inl rfl
      case skip => obtain ⟨rfl, rfl⟩ := h3; exact .inr ⟨rfl, rfl⟩
      case enter f args => exact absurd rfl (h4 f args w')
    | halt x w' => simp only [Oper.quietUpon] at h3
  · exact .inr h
theorem YieldsK.wpOp {i : Nat} {o : Oper} {v : Value} {a : Act} (hi : ops[i]? = some o) (hy : YieldsK P ops C o v a) {Q : Exit → Act → World → Prop} {K : Act → World → Prop} {w : World} (hw : C w) (h : K (a.put o.dst v) w) : wpOp P ops Q i K a w := by
  unfold Go.wpOp
  simp only [hi]
  rcases hy with ⟨h1, h2⟩ | ⟨h1, rfl⟩
  · simp only [h1, if_true]
    refine .inl ?_
    unfold Oper.wp
    rcases h2 w hw with e | ⟨e, rfl⟩
    · rw [e]; exact h
    · rw [e]; exact h
  · simp only [h1, Bool.false_eq_true, if_false]; exact h
theorem YieldsK.of_same {o : Oper} {v : Value} {a a' : Act} (hy : YieldsK P ops C o v a) (he : execOp a'.eval o = execOp a.eval o)
    (hw : Region.wanted o (yielded ops a'.tmps) = Region.wanted o (yielded ops a.tmps)) : YieldsK P ops C o v a' := by
  unfold YieldsK at *
  rw [he, hw]
  exact hy
theorem wpOpK_put {j : Nat} {oi oj : Oper} {v : Value} (hj : ops[j]? = some oj) (hap : oi.apart ops oj = true)
    (hsi : ∀ cs b, oi.op ≠ .select cs b) (hsj : ∀ cs b, oj.op ≠ .select cs b) {K : Act → World → Prop} {a : Act} {w : World}
    (hy : YieldsK P ops C oi v a) (h : wpOp P ops (onlyK Q) j K (a.put oi.dst v) w) :
    wpOp P ops (onlyK Q) j (fun a' w' => YieldsK P ops C oi v a' ∧ K (a'.put oi.dst v) w') a w := by
  obtain ⟨h1, h2, h3⟩ := Oper.apart_spec hap
  have keep : ∀ (a : Act), YieldsK P ops C oi v a → ∀ u, YieldsK P ops C oi v (a.put oj.dst u) := fun a hy u =>
    hy.of_same (execOp_put oi hsi a oj.dst u h3) (wanted_put oi a oj.dst u h3)
  have keepD : ∀ d, YieldsK P ops C oi v { a with defers := d :: a.defers } := fun d => hy.of_same rfl rfl
  unfold wpOp at *
  simp only [hj] at *
  rw [wanted_put oj a oi.dst v h1] at h
  split
  · rename_i hw
    simp only [hw, if_true] at h
    rcases h with h | ⟨hasks, hlets⟩
    case inr => exact absurd hlets onlyK_letsOut
    refine .inl ?_
    unfold Oper.wp at *
    rw [execOp_put oj hsj a oi.dst v h1] at h
    generalize (execOp a.eval oj).run P w = r at *
    cases r with
    | ok n w' =>
      cases n <;> simp only [Oper.upon] at h ⊢
      case value u => exact ⟨keep a hy u, by rw [← Act.put_comm a v u h2]; exact h⟩
      case skip => exact ⟨keep a hy _, by rw [← Act.put_comm a v undef h2]; exact h⟩
      case defer d =>
        refine ⟨keep _ (keepD d) _, ?_⟩
        rw [← Act.put_comm _ v undef h2, ← Act.put_defers]
        exact h
      case enter f args =>
        refine Calls.mono h fun e w'' he => ?_
        cases e with
        | returned u => exact ⟨keep a hy u, by rw [← Act.put_comm a v u h2]; exact he⟩
        | panicked c => exact absurd he onlyK_panic
        | outgrown => exact he
      case row row args => exact Rows.mono h fun u w'' he => ⟨keep a hy u, by rw [← Act.put_comm a v u h2]; exact he⟩
    | halt x w' =>
      cases x <;> simp only [Oper.upon] at h ⊢
      case panic u => exact absurd h onlyK_panic
  · rename_i hw
    simp only [hw] at h
    exact ⟨keep a hy _, by rw [← Act.put_comm a v undef h2]; exact h⟩
theorem wpAnyK_first {i : Nat} {oi : Oper} {v : Value} (hi : ops[i]? = some oi) (hsel : ∀ (j : Nat) (o : Oper) cs b, ops[j]? = some o → o.op ≠ .select cs b) :
    (∀ j oj, ops[j]? = some oj → fr.contains j = true → ∃ e ∈ oj.after, Region.binds md e = true ∧ e.on = i) → ∀ (fuel : Nat) (listed : Array Bool) (a : Act) (w : World), C w →
      (∀ j oj, ops[j]? = some oj → j ≠ i → listed.getD j true = false → (∀ e ∈ oj.after, Region.binds md e = true → e.on ≠ i) → oi.apart ops oj = true) →
      i ∈ Region.ready md ops listed → YieldsK P ops C oi v a →
      wpAnyK P md ops fr C Q fuel (listed.setIfInBounds i true) (a.put oi.dst v) w → wpAnyK P md ops fr C Q (fuel + 1) listed a w := by
  intro hfr fuel
  induction fuel with
  | zero =>
    intro listed a w hw _ hr hy H
    refine ⟨fun h => (by rw [h] at hr; cases hr), fun j hj => ?_⟩
    by_cases hji : j = i
    · subst hji; exact hy.wpOp hi hw ⟨fun _ h => h, H⟩
    · have := ready_mono hj hji
      rw [H.1] at this
      cases this
  | succ fuel ih =>
    intro listed a w hw hfree hr hy H
    refine ⟨fun h => (by rw [h] at hr; cases hr), fun j hj => ?_⟩
    by_cases hji : j = i
    · subst hji; exact hy.wpOp hi hw ⟨fun _ h => h, H⟩
    · have h1 := H.2 j (ready_mono hj hji)
      obtain ⟨hjun, oj, hoj, hall⟩ := mem_ready.1 hj
      have hnot : ∀ e ∈ oj.after, Region.binds md e = true → e.on ≠ i := fun e he hb heq => by
        have h1 := hall e he hb
        have h0 := (mem_ready.1 hr).1
        rw [heq] at h1
        rcases Nat.lt_or_ge i listed.size with h' | h'
        · simp [h'] at h0 h1; rw [h0] at h1; cases h1
        · simp [Array.getElem?_eq_none h'] at h1
      have h2 := wpOpK_put hoj (hfree j oj hoj hji hjun hnot) (fun cs b => hsel i oi cs b hi) (fun cs b => hsel j oj cs b hoj) hy h1
      have hfree' : ∀ k ok, ops[k]? = some ok → k ≠ i → (listed.setIfInBounds j true).getD k true = false →
          (∀ e ∈ ok.after, Region.binds md e = true → e.on ≠ i) → oi.apart ops ok = true := fun k ok hk hki hun hno => by
        refine hfree k ok hk hki ?_ hno
        by_cases hjk : j = k
        · subst hjk; exact hjun
        · rw [getD_set_ne true hjk] at hun; exact hun
      have hnf : fr.contains j = false := by
        cases hfj : fr.contains j with
        | false => rfl
        | true =>
          obtain ⟨e, he, hb, hon⟩ := hfr j oj hoj hfj
          exact absurd hon (hnot e he hb)
      refine wpOp_mono (fun a' w' h3 => ⟨h3.2.1, ih (listed.setIfInBounds j true) a' w' (h3.2.1 hnf hw) hfree' (ready_mono hr (Ne.symm hji)) h3.1 ?_⟩) h2
      rw [Array.setIfInBounds_comm _ _ hji]
      exact h3.2.2
theorem wpAnyK_firstT {i : Nat} {oi : Oper} {v : Value} (hi : ops[i]? = some oi) (hsel : ∀ (j : Nat) (o : Oper) cs b, ops[j]? = some o → o.op ≠ .select cs b) :
    ∀ (fuel : Nat) (listed : Array Bool) (a : Act) (w : World),
      (∀ j oj, ops[j]? = some oj → j ≠ i → listed.getD j true = false → (∀ e ∈ oj.after, Region.binds md e = true → e.on ≠ i) → oi.apart ops oj = true) →
      i ∈ Region.ready md ops listed → YieldsK P ops (fun _ => True) oi v a →
      wpAnyK P md ops fr C Q fuel (listed.setIfInBounds i true) (a.put oi.dst v) w → wpAnyK P md ops fr C Q (fuel + 1) listed a w := by
  intro fuel
  induction fuel with
  | zero =>
    intro listed a w _ hr hy H
    refine ⟨fun h => (by rw [h] at hr; cases hr), fun j hj => ?_⟩
    by_cases hji : j = i
    · subst hji; exact hy.wpOp hi trivial ⟨fun _ h => h, H⟩
    · have := ready_mono hj hji
      rw [H.1] at this
      cases this
  | succ fuel ih =>
    intro listed a w hfree hr hy H
    refine ⟨fun h => (by rw [h] at hr; cases hr), fun j hj => ?_⟩
    by_cases hji : j = i
    · subst hji; exact hy.wpOp hi trivial ⟨fun _ h => h, H⟩
    · have h1 := H.2 j (ready_mono hj hji)
      obtain ⟨hjun, oj, hoj, hall⟩ := mem_ready.1 hj
      have hnot : ∀ e ∈ oj.after, Region.binds md e = true → e.on ≠ i := fun e he hb heq => by
        have h1 := hall e he hb
        have h0 := (mem_ready.1 hr).1
        rw [heq] at h1
        rcases Nat.lt_or_ge i listed.size with h' | h'
        · simp [h'] at h0 h1; rw [h0] at h1; cases h1
        · simp [Array.getElem?_eq_none h'] at h1
      have h2 := wpOpK_put hoj (hfree j oj hoj hji hjun hnot) (fun cs b => hsel i oi cs b hi) (fun cs b => hsel j oj cs b hoj) hy h1
      have hfree' : ∀ k ok, ops[k]? = some ok → k ≠ i → (listed.setIfInBounds j true).getD k true = false →
          (∀ e ∈ ok.after, Region.binds md e = true → e.on ≠ i) → oi.apart ops ok = true := fun k ok hk hki hun hno => by
        refine hfree k ok hk hki ?_ hno
        by_cases hjk : j = k
        · subst hjk; exact hjun
        · rw [getD_set_ne true hjk] at hun; exact hun
      refine wpOp_mono (fun a' w' h3 => ⟨h3.2.1, ih (listed.setIfInBounds j true) a' w' hfree' (ready_mono hr (Ne.symm hji)) h3.1 ?_⟩) h2
      rw [Array.setIfInBounds_comm _ _ hji]
      exact h3.2.2
def setL (listed : Array Bool) (is : List Nat) : Array Bool := is.foldl (fun l i => l.setIfInBounds i true) listed
def frB (md : Region.Mode) (ops : Array Oper) (fr : List Nat) (i : Nat) : Bool := fr.all fun j => match ops[j]? with
  | some oj => oj.after.any fun e => Region.binds md e && e.on == i
  | none => true
theorem frB_spec {i : Nat} (h : frB md ops fr i = true) (j : Nat) (oj : Oper) (hj : ops[j]? = some oj) (hf : fr.contains j = true) : ∃ e ∈ oj.after, Region.binds md e = true ∧ e.on = i := by
  have h1 := List.all_eq_true.1 h j (by simpa using hf)
  simp only [hj] at h1
  obtain ⟨e, he, hb⟩ := Array.any_eq_true'.1 h1
  simp only [Bool.and_eq_true, beq_iff_eq] at hb
  exact ⟨e, he, hb.1, hb.2⟩
def ordB (md : Region.Mode) (ops : Array Oper) (fr : List Nat) : List Nat → Array Bool → Bool
  | [], _ => true
  | i :: r, listed => (Region.ready md ops listed).contains i && Region.free md ops listed i && ((ops[i]?).map readB).getD false && frB md ops fr i && ordB md ops fr r (listed.setIfInBounds i true)
theorem wpK_reads_aux (hs : Region.noSelect ops = true) : ∀ (is : List Nat) (l : List Oper) (fuel : Nat) (listed : Array Bool) (a : Act) (w : World), C w → l = is.filterMap (fun i => ops[i]?) → ordB md ops fr is listed = true →
    wpQuiet P ops C (fun a' => wpAnyK P md ops fr C Q fuel (setL listed is) a' w) l a → wpAnyK P md ops fr C Q (fuel + is.length) listed a w
  | [], l, fuel, listed, a, w, hw, hl, hB, h => by subst hl; exact h
  | i :: is, l, fuel, listed, a, w, hw, hl, hB, h => by
    simp only [ordB, Bool.and_eq_true] at hB
    obtain ⟨⟨⟨⟨hr, hf⟩, ho⟩, hfr⟩, hB'⟩ := hB
    cases h0 : ops[i]? with
    | none => rw [h0] at ho; simp at ho
    | some o =>
      rw [h0] at ho
      have hro : readB o = true := by simpa using ho
      rw [List.filterMap_cons, h0] at hl
      subst hl
      have hst : qOp P ops C i (wpQuiet P ops C (fun a' => wpAnyK P md ops fr C Q fuel (setL listed (i :: is)) a' w) (is.filterMap fun i => ops[i]?)) a := by unfold qOp; simp only [h0]; exact h
      obtain ⟨v, hy, hK⟩ := yieldsIn_of_qOp h0 hst
      refine wpAnyK_first h0 (Region.noSelect_spec hs) (frB_spec hfr) (fuel + is.length) listed a w hw (Region.free_spec h0 hf) (by simpa using hr) (YieldsK.of_in hro hy) ?_
      exact wpK_reads_aux hs is _ fuel _ _ w hw rfl hB' hK
theorem wpK_reads {l : List Oper} {listed listed' : Array Bool} {n fuel : Nat} {a : Act} {w : World} (is : List Nat) (hw : C w) (hl : is.filterMap (fun i => ops[i]?) = l) (hB : (Region.noSelect ops && ordB md ops fr is listed) = true) (hL : setL listed is = listed') (hn : fuel + is.length = n)
    (h : wpQuiet P ops C (fun a' => wpAnyK P md ops fr C Q fuel listed' a' w) l a) : wpAnyK P md ops fr C Q n listed a w := by
  subst hn hL
  simp only [Bool.and_eq_true] at hB
  exact wpK_reads_aux hB.1 is l fuel listed a w hw hl.symm hB.2 h
theorem wpK_read {o : Oper} {listed listed' : Array Bool} {fuel : Nat} {a : Act} {w : World} (i : Nat) (hw : C w) (hi : ops[i]? = some o) (hB : (Region.noSelect ops && ordB md ops fr [i] listed) = true) (hL : listed.setIfInBounds i true = listed')
    (h : wpQuiet P ops C (fun a' => wpAnyK P md ops fr C Q fuel listed' a' w) [o] a) : wpAnyK P md ops fr C Q (fuel + 1) listed a w :=
  wpK_reads (l := [o]) [i] hw (by simp [hi]) hB hL rfl h
theorem wpK_pure {o : Oper} {listed listed' : Array Bool} {fuel : Nat} {a : Act} {w : World} (i : Nat) (hi : ops[i]? = some o) (hB : (Region.noSelect ops && ((Region.ready md ops listed).contains i && Region.free md ops listed i && readB o)) = true) (hL : listed.setIfInBounds i true = listed')
    (h : wpQuiet P ops (fun _ => True) (fun a' => wpAnyK P md ops fr C Q fuel listed' a' w) [o] a) : wpAnyK P md ops fr C Q (fuel + 1) listed a w := by
  subst hL
  simp only [Bool.and_eq_true] at hB
  obtain ⟨hs, ⟨hr, hf⟩, hro⟩ := hB
  have hst : qOp P ops (fun _ => True) i (fun a' => wpAnyK P md ops fr C Q fuel (listed.setIfInBounds i true) a' w) a := by unfold qOp; simp only [hi]; exact h
  obtain ⟨v, hy, hK⟩ := yieldsIn_of_qOp hi hst
  exact wpAnyK_firstT hi (Region.noSelect_spec hs) fuel listed a w (Region.free_spec hi hf) (by simpa using hr) (YieldsK.of_in hro hy) hK
theorem wpK_one {o : Oper} {listed listed' : Array Bool} {fuel : Nat} {a : Act} {w : World} (i : Nat) (hi : ops[i]? = some o) (hr : Region.ready md ops listed = [i]) (hL : listed.setIfInBounds i true = listed')
    (h : wpList P ops (onlyK fun a' w' => (fr.contains i = false → C w → C w') ∧ wpAnyK P md ops fr C Q fuel listed' a' w') [o] a w) : wpAnyK P md ops fr C Q (fuel + 1) listed a w := by
  subst hL
  refine ⟨fun h0 => (by rw [h0] at hr; cases hr), fun j hj => ?_⟩
  rw [hr] at hj
  obtain rfl : j = i := by simpa using hj
  unfold wpOp
  simp only [hi]
  unfold wpList at h
  split
  · rename_i hw
    rw [if_pos hw] at h
    rcases h with h | ⟨_, h⟩
    · exact .inl (wp_only (fun a w h => h.2) h)
    · exact absurd h onlyK_letsOut
  · rename_i hw
    rw [if_neg hw] at h
    exact h.2
theorem wpK_end {listed : Array Bool} {fuel : Nat} {a : Act} {w : World} (hr : Region.ready md ops listed = []) (h : Q a w) : wpAnyK P md ops fr C Q fuel listed a w := by
  cases fuel with
  | zero => exact ⟨hr, h⟩
  | succ fuel => exact ⟨fun _ => h, fun i hi => (by rw [hr] at hi; cases hi)⟩
theorem regrown_first (w : World) (d : Nat) : ∃ p : Regrown, redrawn w d = grow (redrawn w p.d) p.os := ⟨⟨d, #[]⟩, by rw [grow_empty]⟩
theorem below_redrawn (w : World) (d : Nat) : Below w.heap.size w (redrawn w d) := ⟨rfl, rfl, rfl, Nat.le_refl _, fun _ _ => rfl⟩
theorem regrown_self (w : World) : ∃ p : Regrown, w = grow (redrawn w p.d) p.os := ⟨⟨w.drawn, #[]⟩, by rw [grow_empty]; rfl⟩
theorem wp_region_ordC (C : World → Prop) (fr : List Nat) {id : Nat} {Q : Exit → Act → World → Prop} {a : Act} {w : World} {l : List Oper} {listed : Array Bool} {n : Nat} (hm : P.follows .mixedOrders = true) (hn : l.length = n) (hL : Array.replicate l.length false = listed)
    (h : wpAnyK P .any l.toArray fr C (fun a w => Q .normal a w) n listed a (redrawn w (w.drawn + 1))) : (Code.region id l.toArray true).wp P Q a w := by
  subst hn hL
  refine Code.wp_mono (Q := onlyK fun a w => Q .normal a w) (fun e a w he => by obtain ⟨rfl, he⟩ := he; exact he) ?_
  refine wp_region_any hm ?_
  have := wpAny_of_K _ _ _ _ h
  have e : l.toArray.size = l.length := by simp
  rw [e]
  exact this
theorem wp_region_ord (fr : List Nat) {id : Nat} {Q : Exit → Act → World → Prop} {a : Act} {w : World} {l : List Oper} {listed : Array Bool} {n : Nat} (hm : P.follows .mixedOrders = true) (hn : l.length = n) (hL : Array.replicate l.length false = listed)
    (h : wpAnyK P .any l.toArray fr (fun w' => ∃ p : Regrown, w' = grow (redrawn w p.d) p.os) (fun a w => Q .normal a w) n listed a (redrawn w (w.drawn + 1))) : (Code.region id l.toArray true).wp P Q a w :=
  wp_region_ordC _ fr hm hn hL h
structure Wrote where
  d : Nat
  os : Array Obj
  u : Value
def wroteC (w : World) (q : Addr) (w' : World) : Prop := ∃ p : Wrote, w' = (grow (redrawn w p.d) p.os).setCell q p.u
theorem wrote_cell {w : World} {a : Addr} {v : Value} (h : w.cell? a = some v) (q : Addr) (hne : q.block ≠ a.block) (d : Nat) (os : Array Obj) (u : Value) : ((grow (redrawn w d) os).setCell q u).cell? a = some v := by
  rw [World.cell?_of_block (w := grow (redrawn w d) os) (Below.heap_setCell _ q u a.block (Ne.symm hne))]
  exact cell_regrown h d os
theorem setCell_self {w : World} {b o : Nat} {cur : Array Value} {t : TypeId} {f : Nat × Nat} {u : Value} (hg : w.heap[b]? = some (.cells cur t f)) (hu : cur[o]? = some u) : w.setCell ⟨b, o, none⟩ u = w := by
  have h1 := set_blk (o := o) hg u
  have h2 : cur.setIfInBounds o u = cur := by
    apply Array.ext_getElem?
    intro i
    by_cases hi : o = i
    · subst hi
      have := (Array.getElem?_eq_some_iff.1 hu).1
      rw [Array.getElem?_setIfInBounds_self_of_lt this, hu]
    · rw [Array.getElem?_setIfInBounds_ne hi]
  rw [h2] at h1
  have h3 : (w.setCell ⟨b, o, none⟩ u).heap = w.heap := by
    apply Array.ext_getElem?
    intro i
    by_cases hi : i = b
    · subst hi; rw [h1, hg]
    · exact Below.heap_setCell w ⟨b, o, none⟩ u i hi
  have h4 : w.setCell ⟨b, o, none⟩ u = { w with heap := (w.setCell ⟨b, o, none⟩ u).heap } := rfl
  rw [h4, h3]
theorem wrote_first {w : World} {b o : Nat} {cur : Array Value} {t : TypeId} {f : Nat × Nat} {u : Value} (hg : w.heap[b]? = some (.cells cur t f)) (hu : cur[o]? = some u) (d : Nat) : ∃ p : Wrote, redrawn w d = (grow (redrawn w p.d) p.os).setCell ⟨b, o, none⟩ p.u := by
  refine ⟨⟨d, #[], u⟩, ?_⟩
  rw [grow_empty]
  exact (setCell_self (w := redrawn w d) hg hu).symm
end
end Go.Proofs.Base
/-
  The elements of a state's lists, their cells. Printed by gfold.py.
-/
set_option linter.unusedVariables false
set_option linter.unusedSimpArgs false
namespace Go.Proofs.Base
open Go Go.RowKit
def aheadI (a i b k : Int) : Int := if cmpI a b = 0 then cmpI i k else cmpI a b
def cmpS (a b : ByteArray) : Int := Lib.compareBytes a.data.toList b.data.toList
structure EProc where
  id : ByteArray
  bts : ByteArray
def encProc (x : EProc) : List Value := [.string x.id, .string x.bts]
theorem lenProc (x : EProc) : (encProc x).length = 2 := rfl
theorem oneProc : ∀ x : EProc, ∀ u ∈ encProc x, u.oneCell' = true := by
  intro x u hu
  simp only [encProc, List.mem_cons, List.not_mem_nil, or_false] at hu
  rcases hu with rfl | rfl <;> rfl
def cmpProc (y x : EProc) : Int := cmpS y.id x.id
structure EInst where
  key : Int
  id : ByteArray
  vA : Option Addr
  vN : Nat
  vC : Nat
  vars : List GVar
def encInst (x : EInst) : List Value := [.int .u64 x.key, .string x.id, .slice x.vA x.vN x.vC]
theorem lenInst (x : EInst) : (encInst x).length = 3 := rfl
theorem oneInst : ∀ x : EInst, ∀ u ∈ encInst x, u.oneCell' = true := by
  intro x u hu
  simp only [encInst, List.mem_cons, List.not_mem_nil, or_false] at hu
  rcases hu with rfl | rfl | rfl <;> rfl
def cmpInst (y x : EInst) : Int := cmpI y.key x.key
structure ETok where
  key : Int
  inst : Int
  scope : Int
  node : Int
  flow : Int
  stuck : ByteArray
def encTok (x : ETok) : List Value := [.int .u64 x.key, .int .u64 x.inst, .int .u64 x.scope, .int .i64 x.node, .int .i64 x.flow, .string x.stuck]
theorem lenTok (x : ETok) : (encTok x).length = 6 := rfl
theorem oneTok : ∀ x : ETok, ∀ u ∈ encTok x, u.oneCell' = true := by
  intro x u hu
  simp only [encTok, List.mem_cons, List.not_mem_nil, or_false] at hu
  rcases hu with rfl | rfl | rfl | rfl | rfl | rfl <;> rfl
def cmpTok (y x : ETok) : Int := cmpI y.key x.key
structure EJob where
  key : Int
  token : Int
  typ : ByteArray
  retries : Int
  worker : ByteArray
  till : Int
def encJob (x : EJob) : List Value := [.int .u64 x.key, .int .u64 x.token, .string x.typ, .int .i64 x.retries, .string x.worker, .int .i64 x.till]
theorem lenJob (x : EJob) : (encJob x).length = 6 := rfl
theorem oneJob : ∀ x : EJob, ∀ u ∈ encJob x, u.oneCell' = true := by
  intro x u hu
  simp only [encJob, List.mem_cons, List.not_mem_nil, or_false] at hu
  rcases hu with rfl | rfl | rfl | rfl | rfl | rfl <;> rfl
def cmpJob (y x : EJob) : Int := cmpI y.key x.key
structure ETim where
  token : Int
  node : Int
  due : Int
def encTim (x : ETim) : List Value := [.int .u64 x.token, .int .i64 x.node, .int .i64 x.due]
theorem lenTim (x : ETim) : (encTim x).length = 3 := rfl
theorem oneTim : ∀ x : ETim, ∀ u ∈ encTim x, u.oneCell' = true := by
  intro x u hu
  simp only [encTim, List.mem_cons, List.not_mem_nil, or_false] at hu
  rcases hu with rfl | rfl | rfl <;> rfl
def cmpTim (y x : ETim) : Int := aheadI y.token y.node x.token x.node
structure ESub where
  token : Int
  inst : Int
  node : Int
  name : ByteArray
  key : ByteArray
  opn : Bool
def encSub (x : ESub) : List Value := [.int .u64 x.token, .int .u64 x.inst, .int .i64 x.node, .string x.name, .string x.key, .bool x.opn]
theorem lenSub (x : ESub) : (encSub x).length = 6 := rfl
theorem oneSub : ∀ x : ESub, ∀ u ∈ encSub x, u.oneCell' = true := by
  intro x u hu
  simp only [encSub, List.mem_cons, List.not_mem_nil, or_false] at hu
  rcases hu with rfl | rfl | rfl | rfl | rfl | rfl <;> rfl
def cmpSub (y x : ESub) : Int := aheadI y.token y.node x.token x.node
structure EKept where
  token : Int
  message : Int
  node : Int
def encKept (x : EKept) : List Value := [.int .u64 x.token, .int .u64 x.message, .int .i64 x.node]
theorem lenKept (x : EKept) : (encKept x).length = 3 := rfl
theorem oneKept : ∀ x : EKept, ∀ u ∈ encKept x, u.oneCell' = true := by
  intro x u hu
  simp only [encKept, List.mem_cons, List.not_mem_nil, or_false] at hu
  rcases hu with rfl | rfl | rfl <;> rfl
def cmpKept (y x : EKept) : Int := aheadI y.token y.node x.token x.node
structure ELst where
  token : Int
  inst : Int
  node : Int
  name : ByteArray
  key : ByteArray
  message : Int
  vA : Option Addr
  vN : Nat
  vC : Nat
  vars : List GVar
def encLst (x : ELst) : List Value := [.int .u64 x.token, .int .u64 x.inst, .int .i64 x.node, .string x.name, .string x.key, .int .u64 x.message, .slice x.vA x.vN x.vC]
theorem lenLst (x : ELst) : (encLst x).length = 7 := rfl
theorem oneLst : ∀ x : ELst, ∀ u ∈ encLst x, u.oneCell' = true := by
  intro x u hu
  simp only [encLst, List.mem_cons, List.not_mem_nil, or_false] at hu
  rcases hu with rfl | rfl | rfl | rfl | rfl | rfl | rfl <;> rfl
def cmpLst (y x : ELst) : Int := aheadI y.token y.node x.token x.node
structure EMsg where
  key : Int
  name : ByteArray
  dest : ByteArray
  id : ByteArray
  till : Int
  vA : Option Addr
  vN : Nat
  vC : Nat
  vars : List GVar
  iA : Option Addr
  iN : Nat
  iC : Nat
  insts : List Int
def encMsg (x : EMsg) : List Value := [.int .u64 x.key, .string x.name, .string x.dest, .string x.id, .int .i64 x.till, .slice x.vA x.vN x.vC, .slice x.iA x.iN x.iC]
theorem lenMsg (x : EMsg) : (encMsg x).length = 7 := rfl
theorem oneMsg : ∀ x : EMsg, ∀ u ∈ encMsg x, u.oneCell' = true := by
  intro x u hu
  simp only [encMsg, List.mem_cons, List.not_mem_nil, or_false] at hu
  rcases hu with rfl | rfl | rfl | rfl | rfl | rfl | rfl <;> rfl
def cmpMsg (y x : EMsg) : Int := cmpI y.key x.key
def encU64 (x : Int) : List Value := [.int .u64 x]
theorem lenU64 (x : Int) : (encU64 x).length = 1 := rfl
theorem oneU64 : ∀ x : Int, ∀ u ∈ encU64 x, u.oneCell' = true := by
  intro x u hu
  simp only [encU64, List.mem_cons, List.not_mem_nil, or_false] at hu
  subst hu; rfl
theorem oneVar : ∀ x : GVar, ∀ u ∈ GVar.cells x, u.oneCell' = true := by
  intro x u hu
  simp only [GVar.cells, List.mem_cons, List.not_mem_nil, or_false] at hu
  rcases hu with rfl | rfl | rfl | rfl <;> rfl
end Go.Proofs.Base
namespace Go.Proofs.YtfjdllpacdobdaaGreat
open Go Go.RowKit Go.Proofs.Base
theorem eProc : ElemT Tryz.prog 23 92 2 32 := ElemT.of (z := .agg #[.string ⟨#[]⟩, .string ⟨#[]⟩]) Tryz.underlying23 (by kernel_rfl) rfl
theorem eInst : ElemT Tryz.prog 24 104 3 48 := ElemT.of (z := .agg #[.int .u64 0, .string ⟨#[]⟩, .slice none 0 0]) Tryz.underlying24 (by kernel_rfl) rfl
theorem eTok : ElemT Tryz.prog 25 58 6 56 := ElemT.of (z := .agg #[.int .u64 0, .int .u64 0, .int .u64 0, .int .i64 0, .int .i64 0, .string ⟨#[]⟩]) Tryz.underlying25 (by kernel_rfl) rfl
theorem eJob : ElemT Tryz.prog 26 45 6 64 := ElemT.of (z := .agg #[.int .u64 0, .int .u64 0, .string ⟨#[]⟩, .int .i64 0, .string ⟨#[]⟩, .int .i64 0]) Tryz.underlying26 (by kernel_rfl) rfl
theorem eTim : ElemT Tryz.prog 27 84 3 24 := ElemT.of (z := .agg #[.int .u64 0, .int .i64 0, .int .i64 0]) Tryz.underlying27 (by kernel_rfl) rfl
theorem eSub : ElemT Tryz.prog 28 98 6 64 := ElemT.of (z := .agg #[.int .u64 0, .int .u64 0, .int .i64 0, .string ⟨#[]⟩, .string ⟨#[]⟩, .bool false]) Tryz.underlying28 (by kernel_rfl) rfl
theorem eKept : ElemT Tryz.prog 29 101 3 24 := ElemT.of (z := .agg #[.int .u64 0, .int .u64 0, .int .i64 0]) Tryz.underlying29 (by kernel_rfl) rfl
theorem eLst : ElemT Tryz.prog 30 107 7 88 := ElemT.of (z := .agg #[.int .u64 0, .int .u64 0, .int .i64 0, .string ⟨#[]⟩, .string ⟨#[]⟩, .int .u64 0, .slice none 0 0]) Tryz.underlying30 (by kernel_rfl) rfl
theorem eMsg : ElemT Tryz.prog 31 87 7 112 := ElemT.of (z := .agg #[.int .u64 0, .string ⟨#[]⟩, .string ⟨#[]⟩, .string ⟨#[]⟩, .int .i64 0, .slice none 0 0, .slice none 0 0]) Tryz.underlying31 (by kernel_rfl) rfl
theorem eVar : ElemT Tryz.prog 69 116 4 48 := ElemT.of (z := .agg #[.string ⟨#[]⟩, .int .i64 0, .int .i64 0, .string ⟨#[]⟩]) Tryz.underlying69 (by kernel_rfl) rfl
theorem eU64 : ElemT Tryz.prog 85 22 1 8 := ElemT.of (z := .int .u64 0) Tryz.underlying85 (by kernel_rfl) rfl
end Go.Proofs.YtfjdllpacdobdaaGreat
/-
  Twelve cells that are stored one behind the other into a box. Nothing of a program.
-/
set_option linter.unusedVariables false
set_option linter.unusedSimpArgs false
namespace Go.Proofs.Base
open Go Go.RowKit
theorem set_blk12 {w : World} {b : Nat} {t : TypeId} {f : Nat × Nat} {x0 x1 x2 x3 x4 x5 x6 x7 x8 x9 x10 x11 : Value} (h : w.heap[b]? = some (.cells #[x0, x1, x2, x3, x4, x5, x6, x7, x8, x9, x10, x11] t f)) (v0 v1 v2 v3 v4 v5 v6 v7 v8 v9 v10 v11 : Value) :
    (((((((((((((w).setCell ⟨b, 0, none⟩ v0).setCell ⟨b, 1, none⟩ v1).setCell ⟨b, 2, none⟩ v2).setCell ⟨b, 3, none⟩ v3).setCell ⟨b, 4, none⟩ v4).setCell ⟨b, 5, none⟩ v5).setCell ⟨b, 6, none⟩ v6).setCell ⟨b, 7, none⟩ v7).setCell ⟨b, 8, none⟩ v8).setCell ⟨b, 9, none⟩ v9).setCell ⟨b, 10, none⟩ v10).setCell ⟨b, 11, none⟩ v11).heap[b]? = some (.cells #[v0, v1, v2, v3, v4, v5, v6, v7, v8, v9, v10, v11] t f) := by
  have h0 : ((w).setCell ⟨b, 0, none⟩ v0).heap[b]? = some (.cells #[v0, x1, x2, x3, x4, x5, x6, x7, x8, x9, x10, x11] t f) := set_blk (o := 0) h v0
  have h1 : (((w).setCell ⟨b, 0, none⟩ v0).setCell ⟨b, 1, none⟩ v1).heap[b]? = some (.cells #[v0, v1, x2, x3, x4, x5, x6, x7, x8, x9, x10, x11] t f) := set_blk (o := 1) h0 v1
  have h2 : ((((w).setCell ⟨b, 0, none⟩ v0).setCell ⟨b, 1, none⟩ v1).setCell ⟨b, 2, none⟩ v2).heap[b]? = some (.cells #[v0, v1, v2, x3, x4, x5, x6, x7, x8, x9, x10, x11] t f) := set_blk (o := 2) h1 v2
  have h3 : (((((w).setCell ⟨b, 0, none⟩ v0).setCell ⟨b, 1, none⟩ v1).setCell ⟨b, 2, none⟩ v2).setCell ⟨b, 3, none⟩ v3).heap[b]? = some (.cells #[v0, v1, v2, v3, x4, x5, x6, x7, x8, x9, x10, x11] t f) := set_blk (o := 3) h2 v3
  have h4 : ((((((w).setCell ⟨b, 0, none⟩ v0).setCell ⟨b, 1, none⟩ v1).setCell ⟨b, 2, none⟩ v2).setCell ⟨b, 3, none⟩ v3).setCell ⟨b, 4, none⟩ v4).heap[b]? = some (.cells #[v0, v1, v2, v3, v4, x5, x6, x7, x8, x9, x10, x11] t f) := set_blk (o := 4) h3 v4
  have h5 : (((((((w).setCell ⟨b, 0, none⟩ v0).setCell ⟨b, 1, none⟩ v1).setCell ⟨b, 2, none⟩ v2).setCell ⟨b, 3, none⟩ v3).setCell ⟨b, 4, none⟩ v4).setCell ⟨b, 5, none⟩ v5).heap[b]? = some (.cells #[v0, v1, v2, v3, v4, v5, x6, x7, x8, x9, x10, x11] t f) := set_blk (o := 5) h4 v5
  have h6 : ((((((((w).setCell ⟨b, 0, none⟩ v0).setCell ⟨b, 1, none⟩ v1).setCell ⟨b, 2, none⟩ v2).setCell ⟨b, 3, none⟩ v3).setCell ⟨b, 4, none⟩ v4).setCell ⟨b, 5, none⟩ v5).setCell ⟨b, 6, none⟩ v6).heap[b]? = some (.cells #[v0, v1, v2, v3, v4, v5, v6, x7, x8, x9, x10, x11] t f) := set_blk (o := 6) h5 v6
  have h7 : (((((((((w).setCell ⟨b, 0, none⟩ v0).setCell ⟨b, 1, none⟩ v1).setCell ⟨b, 2, none⟩ v2).setCell ⟨b, 3, none⟩ v3).setCell ⟨b, 4, none⟩ v4).setCell ⟨b, 5, none⟩ v5).setCell ⟨b, 6, none⟩ v6).setCell ⟨b, 7, none⟩ v7).heap[b]? = some (.cells #[v0, v1, v2, v3, v4, v5, v6, v7, x8, x9, x10, x11] t f) := set_blk (o := 7) h6 v7
  have h8 : ((((((((((w).setCell ⟨b, 0, none⟩ v0).setCell ⟨b, 1, none⟩ v1).setCell ⟨b, 2, none⟩ v2).setCell ⟨b, 3, none⟩ v3).setCell ⟨b, 4, none⟩ v4).setCell ⟨b, 5, none⟩ v5).setCell ⟨b, 6, none⟩ v6).setCell ⟨b, 7, none⟩ v7).setCell ⟨b, 8, none⟩ v8).heap[b]? = some (.cells #[v0, v1, v2, v3, v4, v5, v6, v7, v8, x9, x10, x11] t f) := set_blk (o := 8) h7 v8
  have h9 : (((((((((((w).setCell ⟨b, 0, none⟩ v0).setCell ⟨b, 1, none⟩ v1).setCell ⟨b, 2, none⟩ v2).setCell ⟨b, 3, none⟩ v3).setCell ⟨b, 4, none⟩ v4).setCell ⟨b, 5, none⟩ v5).setCell ⟨b, 6, none⟩ v6).setCell ⟨b, 7, none⟩ v7).setCell ⟨b, 8, none⟩ v8).setCell ⟨b, 9, none⟩ v9).heap[b]? = some (.cells #[v0, v1, v2, v3, v4, v5, v6, v7, v8, v9, x10, x11] t f) := set_blk (o := 9) h8 v9
  have h10 : ((((((((((((w).setCell ⟨b, 0, none⟩ v0).setCell ⟨b, 1, none⟩ v1).setCell ⟨b, 2, none⟩ v2).setCell ⟨b, 3, none⟩ v3).setCell ⟨b, 4, none⟩ v4).setCell ⟨b, 5, none⟩ v5).setCell ⟨b, 6, none⟩ v6).setCell ⟨b, 7, none⟩ v7).setCell ⟨b, 8, none⟩ v8).setCell ⟨b, 9, none⟩ v9).setCell ⟨b, 10, none⟩ v10).heap[b]? = some (.cells #[v0, v1, v2, v3, v4, v5, v6, v7, v8, v9, v10, x11] t f) := set_blk (o := 10) h9 v10
  have h11 : (((((((((((((w).setCell ⟨b, 0, none⟩ v0).setCell ⟨b, 1, none⟩ v1).setCell ⟨b, 2, none⟩ v2).setCell ⟨b, 3, none⟩ v3).setCell ⟨b, 4, none⟩ v4).setCell ⟨b, 5, none⟩ v5).setCell ⟨b, 6, none⟩ v6).setCell ⟨b, 7, none⟩ v7).setCell ⟨b, 8, none⟩ v8).setCell ⟨b, 9, none⟩ v9).setCell ⟨b, 10, none⟩ v10).setCell ⟨b, 11, none⟩ v11).heap[b]? = some (.cells #[v0, v1, v2, v3, v4, v5, v6, v7, v8, v9, v10, v11] t f) := set_blk (o := 11) h10 v11
  exact h11
theorem below_mut {T : Nat → Prop} {w V w' : World} (h : Below w.heap.size w V) (hM : Mut T V w') (hT : ∀ b, T b → w.heap.size ≤ b) : Below w.heap.size w w' := by
  have M := Mut.trans (T := fun b => w.heap.size ≤ b) (Mut.of_below h _) hM (fun b _ h => hT b h)
  exact ⟨M.os, M.tape, M.output, M.size, fun b hb => M.block b hb (by omega)⟩
theorem changeL_of {α : Type} {p : α → Bool} {f : α → α} {l l' : List α} (h : (idxP p l = -1 ∧ l' = l) ∨ ∃ i, ∃ hi : i < l.length, ∃ y, idxP p l = (i : Int) ∧ y = f l[i] ∧ l' = l.set i y) : l' = changeL p f l := by
  unfold changeL
  rcases h with ⟨h1, rfl⟩ | ⟨i, hi, y, h1, rfl, rfl⟩
  · rw [h1, if_pos (by decide)]
  · rw [h1, if_neg (by omega)]
    apply List.ext_getElem?
    intro j
    rw [show ((i : Nat) : Int).toNat = i by omega, List.getElem?_set, List.getElem?_modify]
    by_cases e : i = j
    · subst e; simp [hi]
    · simp [e]
end Go.Proofs.Base
/-
  A state: the values that stand in memory, the lists that they read as; what the events do, as plain functions. Printed by gfold4.py.
-/
set_option linter.unusedVariables false
set_option linter.unusedSimpArgs false
namespace Go.Proofs.Base
open Go Go.RowKit
structure StV where
  Pp : Int
  Dd : Int
  Mm : Int
  A3 : Option Addr
  n3 : Nat
  c3 : Nat
  A4 : Option Addr
  n4 : Nat
  c4 : Nat
  A5 : Option Addr
  n5 : Nat
  c5 : Nat
  A6 : Option Addr
  n6 : Nat
  c6 : Nat
  A7 : Option Addr
  n7 : Nat
  c7 : Nat
  A8 : Option Addr
  n8 : Nat
  c8 : Nat
  A9 : Option Addr
  n9 : Nat
  c9 : Nat
  A10 : Option Addr
  n10 : Nat
  c10 : Nat
  A11 : Option Addr
  n11 : Nat
  c11 : Nat
structure GSt where
  pos : Int
  done : Int
  made : Int
  procs : List EProc
  insts : List EInst
  tokens : List ETok
  jobs : List EJob
  timers : List ETim
  subs : List ESub
  kept : List EKept
  listed : List ELst
  msgs : List EMsg
def VarsR (w : World) (S : Nat → Prop) (A : Option Addr) (n c : Nat) (l : List GVar) : Prop := l.length = n ∧ n * 48 ≤ 140737488355328 ∧ Row w S 4 n (.slice A n c) (l.flatMap GVar.cells)
def IntsR (w : World) (S : Nat → Prop) (A : Option Addr) (n c : Nat) (l : List Int) : Prop := l.length = n ∧ Row w S 1 n (.slice A n c) (l.flatMap encU64)
def ListR {α : Type} (w : World) (S : Nat → Prop) (K : Nat) (enc : α → List Value) (A : Option Addr) (n c : Nat) (l : List α) : Prop := l.length = n ∧ Row w S K n (.slice A n c) (l.flatMap enc)
structure StR (w : World) (S : Nat → Prop) (v : StV) (g : GSt) : Prop where
  pos : v.Pp = g.pos
  done : v.Dd = g.done
  made : v.Mm = g.made
  procs : ListR w S 2 encProc v.A3 v.n3 v.c3 g.procs
  insts : ListR w S 3 encInst v.A4 v.n4 v.c4 g.insts
  tokens : ListR w S 6 encTok v.A5 v.n5 v.c5 g.tokens
  jobs : ListR w S 6 encJob v.A6 v.n6 v.c6 g.jobs
  timers : ListR w S 3 encTim v.A7 v.n7 v.c7 g.timers
  subs : ListR w S 6 encSub v.A8 v.n8 v.c8 g.subs
  kept : ListR w S 3 encKept v.A9 v.n9 v.c9 g.kept
  listed : ListR w S 7 encLst v.A10 v.n10 v.c10 g.listed
  msgs : ListR w S 7 encMsg v.A11 v.n11 v.c11 g.msgs
  vinst : ∀ x ∈ g.insts, VarsR w S x.vA x.vN x.vC x.vars
  vlist : ∀ x ∈ g.listed, VarsR w S x.vA x.vN x.vC x.vars
  vmsg : ∀ x ∈ g.msgs, VarsR w S x.vA x.vN x.vC x.vars
  imsg : ∀ x ∈ g.msgs, IntsR w S x.iA x.iN x.iC x.insts
theorem VarsR.mut {T : Nat → Prop} {w w' : World} {S S' : Nat → Prop} {A : Option Addr} {n c : Nat} {l : List GVar} (h : VarsR w S A n c l) (hm : Mut T w w') (hd : ∀ b, b < w.heap.size → S b → ¬ T b) (hS : ∀ b, b < w.heap.size → S b → S' b) : VarsR w' S' A n c l :=
  ⟨h.1, h.2.1, (h.2.2.weaken (S' := fun b => S b ∧ b < w.heap.size) (fun b hb hs => ⟨hs, hb⟩) |>.mut hm (fun b hb hs => hd b hb hs.1)).weaken (fun b _ hs => hS b hs.2 hs.1)⟩
theorem IntsR.mut {T : Nat → Prop} {w w' : World} {S S' : Nat → Prop} {A : Option Addr} {n c : Nat} {l : List Int} (h : IntsR w S A n c l) (hm : Mut T w w') (hd : ∀ b, b < w.heap.size → S b → ¬ T b) (hS : ∀ b, b < w.heap.size → S b → S' b) : IntsR w' S' A n c l :=
  ⟨h.1, (h.2.weaken (S' := fun b => S b ∧ b < w.heap.size) (fun b hb hs => ⟨hs, hb⟩) |>.mut hm (fun b hb hs => hd b hb hs.1)).weaken (fun b _ hs => hS b hs.2 hs.1)⟩
theorem ListR.mut {α : Type} {T : Nat → Prop} {w w' : World} {S S' : Nat → Prop} {K : Nat} {enc : α → List Value} {A : Option Addr} {n c : Nat} {l : List α} (h : ListR w S K enc A n c l) (hm : Mut T w w') (hd : ∀ b, b < w.heap.size → S b → ¬ T b) (hS : ∀ b, b < w.heap.size → S b → S' b) : ListR w' S' K enc A n c l :=
  ⟨h.1, (h.2.weaken (S' := fun b => S b ∧ b < w.heap.size) (fun b hb hs => ⟨hs, hb⟩) |>.mut hm (fun b hb hs => hd b hb hs.1)).weaken (fun b _ hs => hS b hs.2 hs.1)⟩
theorem StR.mut {T : Nat → Prop} {w w' : World} {S S' : Nat → Prop} {v : StV} {g : GSt} (h : StR w S v g) (hm : Mut T w w') (hd : ∀ b, b < w.heap.size → S b → ¬ T b) (hS : ∀ b, b < w.heap.size → S b → S' b) : StR w' S' v g :=
  ⟨h.pos, h.done, h.made, h.procs.mut hm hd hS, h.insts.mut hm hd hS, h.tokens.mut hm hd hS, h.jobs.mut hm hd hS, h.timers.mut hm hd hS, h.subs.mut hm hd hS, h.kept.mut hm hd hS, h.listed.mut hm hd hS, h.msgs.mut hm hd hS, fun x hx => (h.vinst x hx).mut hm hd hS, fun x hx => (h.vlist x hx).mut hm hd hS, fun x hx => (h.vmsg x hx).mut hm hd hS, fun x hx => (h.imsg x hx).mut hm hd hS⟩
theorem StR.below {w w' : World} {S S' : Nat → Prop} {v : StV} {g : GSt} (h : StR w S v g) (hb : Below w.heap.size w w') (hS : ∀ b, b < w.heap.size → S b → S' b) : StR w' S' v g :=
  h.mut (T := fun _ => False) (Mut.of_below hb _) (fun _ _ _ h => h) hS
def StV.vals (v : StV) : Array Value := #[.int .u64 v.Pp, .int .u64 v.Dd, .int .u64 v.Mm, .slice v.A3 v.n3 v.c3, .slice v.A4 v.n4 v.c4, .slice v.A5 v.n5 v.c5, .slice v.A6 v.n6 v.c6, .slice v.A7 v.n7 v.c7, .slice v.A8 v.n8 v.c8, .slice v.A9 v.n9 v.c9, .slice v.A10 v.n10 v.c10, .slice v.A11 v.n11 v.c11]
def pureInst (x : EInst) : EInst := { x with vA := none, vN := 0, vC := 0 }
def pureLst (x : ELst) : ELst := { x with vA := none, vN := 0, vC := 0 }
def pureMsg (x : EMsg) : EMsg := { x with vA := none, vN := 0, vC := 0, iA := none, iN := 0, iC := 0 }
def GSt.pure (g : GSt) : GSt := { g with insts := g.insts.map pureInst, listed := g.listed.map pureLst, msgs := g.msgs.map pureMsg }
def GSt.wf (g : GSt) : Prop := (∀ x ∈ g.tokens, u64 x.key) ∧ (∀ x ∈ g.jobs, u64 x.token) ∧ (∀ x ∈ g.timers, u64 x.token) ∧ (∀ x ∈ g.subs, u64 x.token)
def GSt.fits (g : GSt) : Prop := g.procs.length * 32 ≤ 140737488355328 ∧ g.insts.length * 48 ≤ 140737488355328 ∧ g.tokens.length * 56 ≤ 140737488355328 ∧ g.jobs.length * 64 ≤ 140737488355328 ∧ g.timers.length * 24 ≤ 140737488355328 ∧ g.subs.length * 64 ≤ 140737488355328 ∧ g.kept.length * 24 ≤ 140737488355328 ∧ g.listed.length * 88 ≤ 140737488355328 ∧ g.msgs.length * 112 ≤ 140737488355328
def deadB (p : ETok → Bool) (l : List ETok) (q : Int) : Bool := l.any fun x => p x && x.key == q
def goneP (p : ETok → Bool) (al : Int → Bool) (g : GSt) : GSt :=
  { g with tokens := g.tokens.filter fun x => !p x, jobs := g.jobs.filter fun x => !(deadB p g.tokens x.token || al x.token), timers := g.timers.filter fun x => !(deadB p g.tokens x.token || al x.token), subs := g.subs.filter fun x => !(deadB p g.tokens x.token || al x.token) }
def isLst (r : GRec) (x : ELst) : Bool := x.token == r.key && x.node == r.n
def isMsg (r : GRec) (x : EMsg) : Bool := x.key == r.key2
def sendP (r : GRec) (g : GSt) : GSt :=
  match g.listed[(idxP (isLst r) g.listed).toNat]?, g.msgs[(idxP (isMsg r) g.msgs).toNat]? with
  | some l, some m => if idxP (isLst r) g.listed < 0 ∨ idxP (isMsg r) g.msgs < 0 then g else
      { g with listed := changeL (isLst r) (fun x => { x with message := r.key2, vars := m.vars }) g.listed, msgs := changeL (isMsg r) (fun x => { x with insts := x.insts ++ [l.inst] }) g.msgs }
  | _, _ => g
def missP (r : GRec) (g : GSt) : GSt :=
  match g.listed[(idxP (isLst r) g.listed).toNat]? with
  | some l => if idxP (isLst r) g.listed < 0 then g else
      { g with listed := g.listed.filter fun x => !isLst r x, msgs := changeL (isMsg r) (fun x => { x with insts := x.insts.filter fun k => !(k == l.inst) }) g.msgs }
  | none => g
def evP (r : GRec) (g : GSt) : GSt :=
  if r.kind = 1 then { g with procs := putL cmpProc ⟨r.a, r.b⟩ g.procs }
  else if r.kind = 2 then { g with insts := putL cmpInst ⟨r.key, r.a, none, 0, 0, r.vars⟩ g.insts, made := IntKind.u64.wrap (g.made + 1) }
  else if r.kind = 3 then { g with tokens := putL cmpTok ⟨r.key, r.key2, r.key3, r.n, r.m, ⟨#[]⟩⟩ g.tokens, made := IntKind.u64.wrap (g.made + 1) }
  else if r.kind = 4 then goneP (fun x => x.key == r.key) (fun k => k == r.key) g
  else if r.kind = 6 then { g with jobs := putL cmpJob ⟨r.key, r.key2, r.a, r.n, ⟨#[]⟩, 0⟩ g.jobs, made := IntKind.u64.wrap (g.made + 1) }
  else if r.kind = 7 then { g with jobs := changeL (fun x => x.key == r.key) (fun x => { x with worker := r.a, till := r.n }) g.jobs }
  else if r.kind = 8 then { g with jobs := changeL (fun x => x.key == r.key) (fun x => { x with retries := r.n, worker := ⟨#[]⟩, till := 0 }) g.jobs }
  else if r.kind = 9 then { g with insts := changeL (fun x => x.key == r.key) (fun x => { x with vars := r.vars }) g.insts }
  else if r.kind = 10 then { g with timers := putL cmpTim ⟨r.key, r.n, r.m⟩ g.timers }
  else if r.kind = 11 then { g with subs := putL cmpSub ⟨r.key, r.key2, r.n, r.a, r.b, false⟩ g.subs }
  else if r.kind = 12 then { g with subs := changeL (fun x => x.token == r.key && x.node == r.n) (fun x => { x with opn := true }) g.subs }
  else if r.kind = 13 then { g with tokens := changeL (fun x => x.key == r.key) (fun x => { x with stuck := r.a }) g.tokens }
  else if r.kind = 14 then { g with tokens := changeL (fun x => x.key == r.key) (fun x => { x with stuck := ⟨#[]⟩ }) g.tokens }
  else if r.kind = 15 ∨ r.kind = 16 then goneP (fun x => x.inst == r.key) (fun _ => false) { g with insts := g.insts.filter fun x => !(x.key == r.key) }
  else if r.kind = 17 then { g with kept := putL cmpKept ⟨r.key, r.key2, r.n⟩ g.kept }
  else if r.kind = 18 then { g with listed := putL cmpLst ⟨r.key, r.key2, r.n, r.a, r.b, 0, none, 0, 0, []⟩ g.listed }
  else if r.kind = 19 then { g with msgs := putL cmpMsg ⟨r.key, r.a, r.b, r.c, r.n, none, 0, 0, r.vars, none, 0, 0, []⟩ g.msgs, made := IntKind.u64.wrap (g.made + 1) }
  else if r.kind = 20 then { g with msgs := g.msgs.filter fun x => !(x.key == r.key) }
  else if r.kind = 21 then sendP r g
  else if r.kind = 22 then { g with listed := g.listed.filter fun x => !isLst r x }
  else if r.kind = 23 then missP r g
  else g
def applyP (pos : Int) (r : GRec) (g : GSt) : GSt :=
  if r.cls ≠ 2 ∧ r.cls ≠ 3 then { g with pos := pos }
  else if r.cls = 2 then evP r { g with pos := pos, done := max g.done r.frm } else { g with pos := pos, done := max g.done r.frm }
end Go.Proofs.Base
/-
  What events do: the map of functions, and what a look-up gives.
-/
set_option linter.unusedVariables false
set_option linter.unusedSimpArgs false
namespace Go.Proofs.Base
open Go Go.RowKit Go.Maps
def fnElem : Value → Option (DataW Unit × List MemPlace)
  | .func (.func n) a b => if a.size = 0 ∧ b.size = 0 then some (.lit (.int .i64 n), []) else none
  | .nilFunc => some (.lit (.int .i64 (-1)), [])
  | _ => none
def fnV : Option Nat → Value
  | some f => .func (.func f) #[] #[]
  | none => .nilFunc
def fnD : Option Nat → DataW Unit
  | some f => .lit (.int .i64 f)
  | none => .lit (.int .i64 (-1))
theorem fnElem_inv {v : Value} {o : Option Nat} {ps : List MemPlace} (h : fnElem v = some (fnD o, ps)) : v = fnV o := by
  cases v with
  | func fn a b =>
    cases fn with
    | func n =>
      simp only [fnElem] at h
      split at h
      · rename_i hab
        have ha := Array.eq_empty_of_size_eq_zero hab.1
        have hb := Array.eq_empty_of_size_eq_zero hab.2
        subst ha hb
        have h2 := congrArg Prod.fst (Option.some.inj h)
        cases o with
        | some f =>
          have h3 : (DataW.lit (H := Unit) (.int .i64 (n : Int))) = .lit (.int .i64 (f : Int)) := h2
          injection h3 with h3
          injection h3 with _ h3
          have : n = f := by have h4 := congrArg Int.toNat h3; simpa using h4
          rw [this]; rfl
        | none =>
          have h3 : (DataW.lit (H := Unit) (.int .i64 (n : Int))) = .lit (.int .i64 (-1)) := h2
          injection h3 with h3
          injection h3 with _ h3
          have h4 : (0 : Int) ≤ ((n : Nat) : Int) := Int.natCast_nonneg _
          exact absurd (h3 ▸ h4) (by decide)
      · cases h
    | _ => simp [fnElem] at h
  | nilFunc =>
    cases o with
    | some f =>
      exfalso
      have h2 : (DataW.lit (H := Unit) (.int .i64 (-1))) = .lit (.int .i64 (f : Int)) := congrArg Prod.fst (Option.some.inj h)
      injection h2 with h2
      injection h2 with _ h2
      omega
    | none => rfl
  | _ => simp [fnElem] at h
theorem fnElem_fn (n : Nat) : fnElem (.func (.func n) #[] #[]) = some (.lit (.int .i64 n), []) := rfl
def putFn (D : DataW Unit) (p : Int × Nat) : DataW Unit := D.put (.int .i64 p.1) (.lit (.int .i64 p.2))
def fnAt (l : List (Int × Nat)) (q : Int) : Option Nat := (l.reverse.find? fun p => p.1 == q).map (·.2)
theorem putFn_at (q : Int) : ∀ (l : List (Int × Nat)) (D : DataW Unit), IsMap D → (l.foldl putFn D).atKey (.int .i64 q) (.lit (.int .i64 (-1))) = (match fnAt l q with | some f => fnD (some f) | none => D.atKey (.int .i64 q) (.lit (.int .i64 (-1)))) ∧ has (l.foldl putFn D) (.int .i64 q) = ((fnAt l q).isSome || has D (.int .i64 q))
  | [], D, _ => by simp [fnAt]
  | x :: r, D, h => by
    have hm : IsMap (putFn D x) := h.put _ _
    obtain ⟨h1, h2⟩ := putFn_at q r (putFn D x) hm
    rw [List.foldl_cons, h1, h2]
    have e : fnAt (x :: r) q = (fnAt r q).or (if x.1 = q then some x.2 else none) := by
      unfold fnAt
      rw [List.reverse_cons, List.find?_append]
      cases r.reverse.find? (fun p => p.1 == q) with
      | some p => rfl
      | none =>
        by_cases hx : x.1 = q
        · simp [hx]
        · simp [hx]
    rw [e]
    cases hr : fnAt r q with
    | some f => simp
    | none =>
      by_cases hx : x.1 = q
      · have e1 := atKey_put_same h (show WideAt.IsKeyLit (.int .i64 q) from trivial) (.lit (.int .i64 x.2)) (.lit (.int .i64 (-1)))
        have e2 := has_put_same h (show WideAt.IsKeyLit (.int .i64 q) from trivial) (.lit (.int .i64 x.2))
        unfold putFn
        rw [hx, e1, e2]
        simp [fnD]
      · have e1 := atKey_put_other (D := D) (k := .int .i64 x.1) (k' := .int .i64 q) (fun e => hx (by injection e with _ e; exact e.symm)) (.lit (.int .i64 x.2)) (.lit (.int .i64 (-1)))
        have e2 := has_put_other (D := D) (k := .int .i64 x.1) (k' := .int .i64 q) (fun e => hx (by injection e with _ e; exact e.symm)) (.lit (.int .i64 x.2))
        unfold putFn
        rw [e1, e2]
        simp [hx]
end Go.Proofs.Base
namespace Go.Proofs.YtfjdllpacdobdaaGreat
open Go Go.RowKit Go.Proofs.Base
def kindsL : List (Int × Nat) := [(1, 51), (2, 52), (3, 53), (4, 54), (6, 55), (7, 56), (8, 57), (9, 58), (10, 59), (11, 60), (12, 61), (13, 62), (14, 63), (15, 64), (16, 64), (17, 65), (18, 66), (19, 67), (20, 68), (21, 69), (22, 70), (23, 71)]
abbrev Kinds (w : World) (b : Nat) (D : DataW Unit) (n : Nat) : Prop := w.ownsMap Tryz.prog 3 fnElem b n D
theorem law_int : Go.Maps.Keyed Tryz.prog 3 := Go.Maps.int_keyed Tryz.underlying3
theorem key_int (q : Int) (h : i64 q) : keyOf Tryz.prog 3 (.int .i64 q) = some (.int .i64 q) := Go.Maps.keyOf_int_mk Tryz.underlying3 (WalkArith.wf_i64 h)
set_option maxRecDepth 100000 in
theorem upon_insert {W : World} {o : Oper} {a : Act} {K : Act → World → Prop} {Q : Exit → Act → World → Prop} {b n : Nat} {q : Int} {f : Nat} {D : DataW Unit} (hown : Kinds W b D n) (hn : n < 100) (hq : 0 ≤ q ∧ q ≤ 100)
    (h : ∀ w', Kinds w' b (putFn D (q, f)) (n + 1) → W.grownBy w' (some b) → K (a.put o.dst undef) w') :
    Oper.upon Tryz.prog o a K Q ((Sem.run Tryz.prog (Instr.mapUpdate 122 (.map (some b)) (.int .i64 q) (.func (.func f) #[] #[])) W).andThen fun _ w' => Result.ok Next.skip w') := by
  obtain ⟨w', hrun, r1, r2⟩ := hown.update law_int Tryz.underlying122 (by unfold maxLen; omega) (key_int q (by unfold i64; omega)) (fnElem_fn f)
  rw [hrun]
  exact h w' r1 r2
set_option maxRecDepth 100000 in
set_option maxHeartbeats 4000000 in
theorem kinds_c (w : World) : Calls Tryz.prog 48 #[] w fun e w' => e = .returned (.map (some w.heap.size)) ∧ Kinds w' w.heap.size (kindsL.foldl putFn (.map [])) 22 ∧ Below w.heap.size w w' := by
  have hmm := @run_makeMap Tryz.prog
  have HK : Hid (Kinds (w.alloc (.map #[] 0)) w.heap.size (.map []) 0) := Lib.hid (World.ownsMap_made _ _ _ _)
  have HB := Lib.hid (below_alloc (Below.refl w.heap.size w) (.map #[] 0))
  go_enter Tryz.func48, Tryz.ntmps48
  go_wp2_with fail
  refine upon_insert HK.out ?_ ?_ ?_
  · omega
  · omega
  intro w1 hown hg
  have HK := Lib.hid hown
  have HB := Lib.hid (HB.out.grown hg HB.out.size (fun k hk => by injection hk with hk; exact Nat.le_of_eq hk))
  clear hown hg
  go_wp2_with fail
  refine upon_insert HK.out ?_ ?_ ?_
  · omega
  · omega
  intro w1 hown hg
  have HK := Lib.hid hown
  have HB := Lib.hid (HB.out.grown hg HB.out.size (fun k hk => by injection hk with hk; exact Nat.le_of_eq hk))
  clear hown hg
  go_wp2_with fail
  refine upon_insert HK.out ?_ ?_ ?_
  · omega
  · omega
  intro w1 hown hg
  have HK := Lib.hid hown
  have HB := Lib.hid (HB.out.grown hg HB.out.size (fun k hk => by injection hk with hk; exact Nat.le_of_eq hk))
  clear hown hg
  go_wp2_with fail
  refine upon_insert HK.out ?_ ?_ ?_
  · omega
  · omega
  intro w1 hown hg
  have HK := Lib.hid hown
  have HB := Lib.hid (HB.out.grown hg HB.out.size (fun k hk => by injection hk with hk; exact Nat.le_of_eq hk))
  clear hown hg
  go_wp2_with fail
  refine upon_insert HK.out ?_ ?_ ?_
  · omega
  · omega
  intro w1 hown hg
  have HK := Lib.hid hown
  have HB := Lib.hid (HB.out.grown hg HB.out.size (fun k hk => by injection hk with hk; exact Nat.le_of_eq hk))
  clear hown hg
  go_wp2_with fail
  refine upon_insert HK.out ?_ ?_ ?_
  · omega
  · omega
  intro w1 hown hg
  have HK := Lib.hid hown
  have HB := Lib.hid (HB.out.grown hg HB.out.size (fun k hk => by injection hk with hk; exact Nat.le_of_eq hk))
  clear hown hg
  go_wp2_with fail
  refine upon_insert HK.out ?_ ?_ ?_
  · omega
  · omega
  intro w1 hown hg
  have HK := Lib.hid hown
  have HB := Lib.hid (HB.out.grown hg HB.out.size (fun k hk => by injection hk with hk; exact Nat.le_of_eq hk))
  clear hown hg
  go_wp2_with fail
  refine upon_insert HK.out ?_ ?_ ?_
  · omega
  · omega
  intro w1 hown hg
  have HK := Lib.hid hown
  have HB := Lib.hid (HB.out.grown hg HB.out.size (fun k hk => by injection hk with hk; exact Nat.le_of_eq hk))
  clear hown hg
  go_wp2_with fail
  refine upon_insert HK.out ?_ ?_ ?_
  · omega
  · omega
  intro w1 hown hg
  have HK := Lib.hid hown
  have HB := Lib.hid (HB.out.grown hg HB.out.size (fun k hk => by injection hk with hk; exact Nat.le_of_eq hk))
  clear hown hg
  go_wp2_with fail
  refine upon_insert HK.out ?_ ?_ ?_
  · omega
  · omega
  intro w1 hown hg
  have HK := Lib.hid hown
  have HB := Lib.hid (HB.out.grown hg HB.out.size (fun k hk => by injection hk with hk; exact Nat.le_of_eq hk))
  clear hown hg
  go_wp2_with fail
  refine upon_insert HK.out ?_ ?_ ?_
  · omega
  · omega
  intro w1 hown hg
  have HK := Lib.hid hown
  have HB := Lib.hid (HB.out.grown hg HB.out.size (fun k hk => by injection hk with hk; exact Nat.le_of_eq hk))
  clear hown hg
  go_wp2_with fail
  refine upon_insert HK.out ?_ ?_ ?_
  · omega
  · omega
  intro w1 hown hg
  have HK := Lib.hid hown
  have HB := Lib.hid (HB.out.grown hg HB.out.size (fun k hk => by injection hk with hk; exact Nat.le_of_eq hk))
  clear hown hg
  go_wp2_with fail
  refine upon_insert HK.out ?_ ?_ ?_
  · omega
  · omega
  intro w1 hown hg
  have HK := Lib.hid hown
  have HB := Lib.hid (HB.out.grown hg HB.out.size (fun k hk => by injection hk with hk; exact Nat.le_of_eq hk))
  clear hown hg
  go_wp2_with fail
  refine upon_insert HK.out ?_ ?_ ?_
  · omega
  · omega
  intro w1 hown hg
  have HK := Lib.hid hown
  have HB := Lib.hid (HB.out.grown hg HB.out.size (fun k hk => by injection hk with hk; exact Nat.le_of_eq hk))
  clear hown hg
  go_wp2_with fail
  refine upon_insert HK.out ?_ ?_ ?_
  · omega
  · omega
  intro w1 hown hg
  have HK := Lib.hid hown
  have HB := Lib.hid (HB.out.grown hg HB.out.size (fun k hk => by injection hk with hk; exact Nat.le_of_eq hk))
  clear hown hg
  go_wp2_with fail
  refine upon_insert HK.out ?_ ?_ ?_
  · omega
  · omega
  intro w1 hown hg
  have HK := Lib.hid hown
  have HB := Lib.hid (HB.out.grown hg HB.out.size (fun k hk => by injection hk with hk; exact Nat.le_of_eq hk))
  clear hown hg
  go_wp2_with fail
  refine upon_insert HK.out ?_ ?_ ?_
  · omega
  · omega
  intro w1 hown hg
  have HK := Lib.hid hown
  have HB := Lib.hid (HB.out.grown hg HB.out.size (fun k hk => by injection hk with hk; exact Nat.le_of_eq hk))
  clear hown hg
  go_wp2_with fail
  refine upon_insert HK.out ?_ ?_ ?_
  · omega
  · omega
  intro w1 hown hg
  have HK := Lib.hid hown
  have HB := Lib.hid (HB.out.grown hg HB.out.size (fun k hk => by injection hk with hk; exact Nat.le_of_eq hk))
  clear hown hg
  go_wp2_with fail
  refine upon_insert HK.out ?_ ?_ ?_
  · omega
  · omega
  intro w1 hown hg
  have HK := Lib.hid hown
  have HB := Lib.hid (HB.out.grown hg HB.out.size (fun k hk => by injection hk with hk; exact Nat.le_of_eq hk))
  clear hown hg
  go_wp2_with fail
  refine upon_insert HK.out ?_ ?_ ?_
  · omega
  · omega
  intro w1 hown hg
  have HK := Lib.hid hown
  have HB := Lib.hid (HB.out.grown hg HB.out.size (fun k hk => by injection hk with hk; exact Nat.le_of_eq hk))
  clear hown hg
  go_wp2_with fail
  refine upon_insert HK.out ?_ ?_ ?_
  · omega
  · omega
  intro w1 hown hg
  have HK := Lib.hid hown
  have HB := Lib.hid (HB.out.grown hg HB.out.size (fun k hk => by injection hk with hk; exact Nat.le_of_eq hk))
  clear hown hg
  go_wp2_with fail
  refine upon_insert HK.out ?_ ?_ ?_
  · omega
  · omega
  intro w1 hown hg
  have HK := Lib.hid hown
  have HB := Lib.hid (HB.out.grown hg HB.out.size (fun k hk => by injection hk with hk; exact Nat.le_of_eq hk))
  clear hown hg
  go_wp2_with fail
  go_ret
  exact ⟨rfl, HK.out, HB.out⟩
end Go.Proofs.YtfjdllpacdobdaaGreat
/-
  The predicates and changes that the events of layer 13 hand on. Printed by gfold2.py.
-/
set_option linter.unusedVariables false
set_option linter.unusedSimpArgs false
namespace Go.Proofs.YtfjdllpacdobdaaGreat
open Go Go.RowKit Go.Proofs.Base
open Go.Sort (grow)
abbrev recB (w : World) (b : Nat) (r : GRec) (vA : Option Addr) (vN vC : Nat) : Prop := w.heap[b]? = some (.cells #[.int .i64 r.cls, .int .i64 r.kind, .int .u64 r.frm, .int .i64 r.time, .int .u64 r.key, .int .u64 r.key2, .int .u64 r.key3, .int .i64 r.n, .int .i64 r.m, .string r.a, .string r.b, .string r.c, .slice vA vN vC] 71 (0, 0))
set_option maxRecDepth 100000 in
theorem p_ofJob_1 (B : Nat) (x : EJob) (r : GRec) (vA : Option Addr) (vN vC : Nat) (w : World) (hk : recB w B r vA vN vC) :
    Calls Tryz.prog 151 (#[.agg #[.int .u64 x.key, .int .u64 x.token, .string x.typ, .int .i64 x.retries, .string x.worker, .int .i64 x.till]] ++ #[.pointer (some ⟨B, 0, none⟩)]) w fun e w' => e = .returned (.bool (x.key == r.key)) ∧ Below w.heap.size w w' := by
  have hB : Below w.heap.size w (w.alloc (.cells #[.int .u64 x.key, .int .u64 x.token, .string x.typ, .int .i64 x.retries, .string x.worker, .int .i64 x.till] 45)) := below_alloc (Below.refl _ _) _
  have hb := block_below hB hk
  have k4 := cell_of_blk hb 4
  have HB := Lib.hid hB
  clear hB hb hk
  go_enter Tryz.func151, Tryz.ntmps151
  go_wp2
  go_ret
  exact ⟨rfl, HB.out⟩
set_option maxRecDepth 100000 in
theorem p_Job_1 (B : Nat) (x : EJob) (q : Int) (w : World) (hc : w.cell? ⟨B, 0, none⟩ = some (.int .u64 q)) :
    Calls Tryz.prog 50 (#[.agg #[.int .u64 x.key, .int .u64 x.token, .string x.typ, .int .i64 x.retries, .string x.worker, .int .i64 x.till]] ++ #[.pointer (some ⟨B, 0, none⟩)]) w fun e w' => e = .returned (.bool (x.key == q)) ∧ Below w.heap.size w w' := by
  have hB : Below w.heap.size w (w.alloc (.cells #[.int .u64 x.key, .int .u64 x.token, .string x.typ, .int .i64 x.retries, .string x.worker, .int .i64 x.till] 45)) := below_alloc (Below.refl _ _) _
  have k0 := cell_below hB hc
  have HB := Lib.hid hB
  clear hB hc
  go_enter Tryz.func50, Tryz.ntmps50
  go_wp2
  go_ret
  exact ⟨rfl, HB.out⟩
end Go.Proofs.YtfjdllpacdobdaaGreat
/-
  Lists of variables: searched, copied. Printed by gfold.py.
-/
set_option linter.unusedVariables false
set_option linter.unusedSimpArgs false
namespace Go.Proofs.YtfjdllpacdobdaaGreat
open Go Go.RowKit Go.Proofs.Base
open Go.Sort (grow)
set_option maxRecDepth 100000 in
set_option maxHeartbeats 2000000 in
theorem clone_Var (A : Option Addr) (n c : Nat) (l : List GVar) (w : World) (S : Nat → Prop) (hl : l.length = n) (hby : n * 48 ≤ 140737488355328) (hr : Row w S 4 n (.slice A n c) (l.flatMap GVar.cells)) :
    Calls Tryz.prog 43 #[.slice A n c] w fun e w' => ∃ A' c', e = .returned (.slice A' n c') ∧ w'.ownsRow w.heap.size 116 4 (.slice A' n c') n (l.flatMap GVar.cells) ∧ Below w.heap.size w w' := by
  obtain ⟨i0, z, hi0, hz0, hz1, hz2, hzc⟩ := eVar.hi
  have q : ∀ (w : World) (a : Option Addr) (n c n' c' : Nat), (binOp .eql 69 (.slice a n c) (.slice none n' c')).run Tryz.prog w = .ok (.bool a.isNone) w := fun w a n c n' c' => Lib.run_eql_slice_nil w _ _ a n c n' c' Tryz.underlying69
  obtain ⟨A', c', he, hnc, hcm, hlen, hnone, hsome⟩ := hr
  injection he with e1 _ e3
  subst e1 e3
  cases A with
  | none =>
    obtain ⟨rfl, rfl⟩ := hnone rfl
    obtain rfl : l = [] := List.eq_nil_of_length_eq_zero hl
    clear hsome hlen
    go_enter Tryz.func43, Tryz.ntmps43
    go_wp2
    go_ret
    exact ⟨none, 0, rfl, own_nil _ _ _ _, Below.refl _ _⟩
  | some ad =>
    have HC : Hid (∀ j u, (l.flatMap GVar.cells)[j]? = some u → w.cell? (ad.add j) = some u) := Lib.hid (fun j u hu => by
      rcases Nat.eq_zero_or_pos n with h0 | h0
      · subst h0
        obtain rfl : l = [] := List.eq_nil_of_length_eq_zero hl
        simp at hu
      · obtain ⟨b, o, hA, _, _, hc⟩ := hsome h0
        injection hA with hA
        subst hA
        rw [add_plain]
        exact hc j u hu)
    have HVL := Lib.hid hlen
    have H1 := Lib.hid (flat_one (enc := GVar.cells) oneVar l)
    clear hsome hlen hnone hl
    go_enter Tryz.func43, Tryz.ntmps43
    go_wp2_with (at_builtin; refine wpList_append_own _ rfl _ _ 69 rfl w.heap.size 116 i0 z 4 48 Tryz.underlying69 hi0 hz0 hz1 hz2 hzc (by omega) _ _ _ rfl (World.ownsRow_made w #[] 0 (Nat.le_refl _) (Nat.zero_le _) (by simp)) ad n c (l.flatMap GVar.cells) rfl HVL.out (fun j u hj => Lib.cell?_alloc_some _ (HC.out j u hj)) H1.out (by simp only [maxLen]; omega) (by omega) (by simp) ?_; intro v' w1 hown hgrow hnil)
    go_ret
    have hown' : w1.ownsRow w.heap.size 116 4 v' n (l.flatMap GVar.cells) := by simpa using hown
    obtain ⟨A2, c2, rfl, _, _⟩ := (Row.of_own hown').open_
    exact ⟨A2, c2, rfl, hown', ((Below.refl _ w).alloc (Nat.le_refl _) _).grown hgrow (by simp) (by intro k hk; injection hk with hk; exact Nat.le_of_eq hk)⟩
end Go.Proofs.YtfjdllpacdobdaaGreat
/-
  Lists of numbers: searched, copied. Printed by gfold.py.
-/
set_option linter.unusedVariables false
set_option linter.unusedSimpArgs false
namespace Go.Proofs.YtfjdllpacdobdaaGreat
open Go Go.RowKit Go.Proofs.Base
open Go.Sort (grow)
set_option maxRecDepth 100000 in
set_option maxHeartbeats 2000000 in
theorem clone_U64 (A : Option Addr) (n c : Nat) (l : List Int) (w : World) (S : Nat → Prop) (hl : l.length = n) (hby : n * 8 ≤ 140737488355328) (hr : Row w S 1 n (.slice A n c) (l.flatMap encU64)) :
    Calls Tryz.prog 41 #[.slice A n c] w fun e w' => ∃ A' c', e = .returned (.slice A' n c') ∧ w'.ownsRow w.heap.size 22 1 (.slice A' n c') n (l.flatMap encU64) ∧ Below w.heap.size w w' := by
  obtain ⟨i0, z, hi0, hz0, hz1, hz2, hzc⟩ := eU64.hi
  have q : ∀ (w : World) (a : Option Addr) (n c n' c' : Nat), (binOp .eql 85 (.slice a n c) (.slice none n' c')).run Tryz.prog w = .ok (.bool a.isNone) w := fun w a n c n' c' => Lib.run_eql_slice_nil w _ _ a n c n' c' Tryz.underlying85
  obtain ⟨A', c', he, hnc, hcm, hlen, hnone, hsome⟩ := hr
  injection he with e1 _ e3
  subst e1 e3
  cases A with
  | none =>
    obtain ⟨rfl, rfl⟩ := hnone rfl
    obtain rfl : l = [] := List.eq_nil_of_length_eq_zero hl
    clear hsome hlen
    go_enter Tryz.func41, Tryz.ntmps41
    go_wp2
    go_ret
    exact ⟨none, 0, rfl, own_nil _ _ _ _, Below.refl _ _⟩
  | some ad =>
    have HC : Hid (∀ j u, (l.flatMap encU64)[j]? = some u → w.cell? (ad.add j) = some u) := Lib.hid (fun j u hu => by
      rcases Nat.eq_zero_or_pos n with h0 | h0
      · subst h0
        obtain rfl : l = [] := List.eq_nil_of_length_eq_zero hl
        simp at hu
      · obtain ⟨b, o, hA, _, _, hc⟩ := hsome h0
        injection hA with hA
        subst hA
        rw [add_plain]
        exact hc j u hu)
    have HVL := Lib.hid hlen
    have H1 := Lib.hid (flat_one (enc := encU64) oneU64 l)
    clear hsome hlen hnone hl
    go_enter Tryz.func41, Tryz.ntmps41
    go_wp2_with (at_builtin; refine wpList_append_own _ rfl _ _ 85 rfl w.heap.size 22 i0 z 1 8 Tryz.underlying85 hi0 hz0 hz1 hz2 hzc (by omega) _ _ _ rfl (World.ownsRow_made w #[] 0 (Nat.le_refl _) (Nat.zero_le _) (by simp)) ad n c (l.flatMap encU64) rfl HVL.out (fun j u hj => Lib.cell?_alloc_some _ (HC.out j u hj)) H1.out (by simp only [maxLen]; omega) (by omega) (by simp) ?_; intro v' w1 hown hgrow hnil)
    go_ret
    have hown' : w1.ownsRow w.heap.size 22 1 v' n (l.flatMap encU64) := by simpa using hown
    obtain ⟨A2, c2, rfl, _, _⟩ := (Row.of_own hown').open_
    exact ⟨A2, c2, rfl, hown', ((Below.refl _ w).alloc (Nat.le_refl _) _).grown hgrow (by simp) (by intro k hk; injection hk with hk; exact Nat.le_of_eq hk)⟩
end Go.Proofs.YtfjdllpacdobdaaGreat
/-
  Plain laws of insertion. Printed by gfold.py out of XIns.
-/
set_option linter.unusedVariables false
set_option linter.unusedSimpArgs false
namespace Go.Proofs.Base
open Go Go.RowKit
end Go.Proofs.Base
/-
  slices.DeleteFunc, fold.without of uint64. Printed by gfold.py.
-/
set_option linter.unusedVariables false
set_option linter.unusedSimpArgs false
namespace Go.Proofs.YtfjdllpacdobdaaGreat
open Go Go.RowKit Go.Proofs.Base
open Go.Sort (grow)
end Go.Proofs.YtfjdllpacdobdaaGreat
/-
  What the events of layer 13 change in one element. Printed by gfold2.py.
-/
set_option linter.unusedVariables false
set_option linter.unusedSimpArgs false
namespace Go.Proofs.YtfjdllpacdobdaaGreat
open Go Go.RowKit Go.Proofs.Base
open Go.Sort (grow)
set_option maxRecDepth 100000 in
theorem vars_c (A : Option Addr) (n c : Nat) (l : List GVar) (w : World) (S : Nat → Prop) (hl : l.length = n) (hby : n * 48 ≤ 140737488355328) (hr : Row w S 4 n (.slice A n c) (l.flatMap GVar.cells)) :
    Calls Tryz.prog 40 #[.slice A n c] w fun e w' => ∃ A' c', e = .returned (.slice A' n c') ∧ w'.ownsRow w.heap.size 116 4 (.slice A' n c') n (l.flatMap GVar.cells) ∧ Below w.heap.size w w' := by
  have HC := Lib.hid (clone_Var A n c l w S hl hby hr)
  clear hr
  go_enter Tryz.func40, Tryz.ntmps40
  go_wp2_with (go_at_call 43; refine HC.out.mono ?_; rintro e w1 ⟨A1, c1, rfl, hown, hb⟩; have HO := Lib.hid hown; have HB := Lib.hid hb; clear hown hb)
  go_ret
  exact ⟨A1, c1, rfl, HO.out, HB.out⟩
set_option maxRecDepth 100000 in
theorem c_taken_1 (b i n : Nat) (cur : Array Value) (l : List EJob) (B : Nat) (r : GRec) (vA : Option Addr) (vN vC : Nat) (hbB : b ≠ B) (W : World) (hk : recB W B r vA vN vC) (hi : i < l.length) (hl : l.length = n) (hg : W.heap[b]? = some (.cells cur 45 (0, 0))) (ht : cur.toList.take (n * 6) = l.flatMap encJob) (hs : n * 6 ≤ cur.size) :
    Calls Tryz.prog 88 (#[.pointer (some ⟨b, i * 6, none⟩)] ++ #[.pointer (some ⟨B, 0, none⟩)]) W fun e w' => e = .returned (.tuple #[]) ∧ ∃ cur' : Array Value, w'.heap[b]? = some (.cells cur' 45 (0, 0)) ∧ cur'.size = cur.size ∧ cur'.toList.take (n * 6) = (l.set i { l[i] with worker := r.a, till := r.n }).flatMap encJob ∧ Mut (fun x => x = b) W w' := by
  have hin : (i + 1) * 6 ≤ n * 6 := Nat.mul_le_mul_right _ (by omega)
  obtain ⟨u4, hu4⟩ : ∃ u, cur[i * 6 + 4]? = some u := ⟨_, Array.getElem?_eq_getElem (by omega)⟩
  have hu4' := hu4
  have j4 := (cell_of_blk hg (i * 6 + 4)).trans hu4
  have f4 := frozen_of_blk hg (i * 6 + 4)
  clear hu4
  obtain ⟨u5, hu5⟩ : ∃ u, cur[i * 6 + 5]? = some u := ⟨_, Array.getElem?_eq_getElem (by omega)⟩
  have j5 := (cell_of_blk hg (i * 6 + 5)).trans hu5
  have f5 := frozen_of_blk hg (i * 6 + 5)
  clear hu5
  have k9 := wrote_cell (cell_of_blk hk 9) ⟨b, i * 6 + 4, none⟩ hbB
  have k7 := wrote_cell (cell_of_blk hk 7) ⟨b, i * 6 + 4, none⟩ hbB
  have hbB2 := Ne.symm hbB
  clear hk
  have jj4 : ∀ d, (redrawn W d).cell? _ = _ := fun _ => j4
  have ff4 : ∀ d, (redrawn W d).frozen? _ = _ := fun _ => f4
  clear j4 f4
  have jj5 : ∀ d, (redrawn W d).cell? _ = _ := fun _ => j5
  have ff5 : ∀ d, (redrawn W d).frozen? _ = _ := fun _ => f5
  clear j5 f5
  have HG := Lib.hid hg
  have UU4 := Lib.hid hu4'
  have HT := Lib.hid ht
  have HI := Lib.hid hi
  clear hg ht hs hin hu4'
  go_enter Tryz.func88, Tryz.ntmps88
  have hq0 : ∀ d, wroteC W ⟨b, i * 6 + 4, none⟩ (redrawn W d) := fun d => wrote_first HG.out UU4.out d
  have HQ0 := Lib.hid hq0
  clear hq0
  go_wp2_with fail
  refine wp_region_ordC (fun w' => ∃ p : Wrote, w' = (Go.Sort.grow (redrawn W p.d) p.os).setCell ⟨b, i * 6 + 4, none⟩ p.u) [11] (n := 12) (listed := #[false, false, false, false, false, false, false, false, false, false, false, false]) (by kernel_rfl) rfl rfl ?_
  ((refine wpK_pure (fuel := 11) (listed' := #[true, false, false, false, false, false, false, false, false, false, false, false]) 0 rfl (by kernel_rfl) rfl ?_; (first | go_big_quiet_step (fail) | quiet_step (fail)); refine wpQuiet_nil ?_); (refine wpK_pure (fuel := 10) (listed' := #[true, true, false, false, false, false, false, false, false, false, false, false]) 1 rfl (by kernel_rfl) rfl ?_; (first | go_big_quiet_step (fail) | quiet_step (fail)); refine wpQuiet_nil ?_); (refine wpK_pure (fuel := 9) (listed' := #[true, true, true, false, false, false, false, false, false, false, false, false]) 2 rfl (by kernel_rfl) rfl ?_; (first | go_big_quiet_step (fail) | quiet_step (fail)); refine wpQuiet_nil ?_); (refine wpK_pure (fuel := 8) (listed' := #[true, true, true, false, true, false, false, false, false, false, false, false]) 4 rfl (by kernel_rfl) rfl ?_; (first | go_big_quiet_step (fail) | quiet_step (fail)); refine wpQuiet_nil ?_))
  ((refine wpK_read (fuel := 7) (listed' := #[true, true, true, true, true, false, false, false, false, false, false, false]) 3 (HQ0.out _) rfl (by kernel_rfl) rfl ?_; (first | quiet_step (rfl) | go_big_quiet_step (rfl)); refine wpQuiet_nil ?_); (refine wpK_read (fuel := 6) (listed' := #[true, true, true, true, true, true, false, false, false, false, false, false]) 5 (HQ0.out _) rfl (by kernel_rfl) rfl ?_; (first | quiet_step (rfl) | go_big_quiet_step (rfl)); refine wpQuiet_nil ?_))
  ((refine wpK_pure (fuel := 5) (listed' := #[true, true, true, true, true, true, true, false, false, false, false, false]) 6 rfl (by kernel_rfl) rfl ?_; (first | go_big_quiet_step (fail) | quiet_step (fail)); refine wpQuiet_nil ?_); (refine wpK_pure (fuel := 4) (listed' := #[true, true, true, true, true, true, true, true, false, false, false, false]) 7 rfl (by kernel_rfl) rfl ?_; (first | go_big_quiet_step (fail) | quiet_step (fail)); refine wpQuiet_nil ?_))
  refine wpK_one (fuel := 3) (listed' := #[true, true, true, true, true, true, true, true, true, false, false, false]) 8 rfl (by kernel_rfl) rfl ?_
  go_wp2_with fail
  refine ⟨rfl, fun _ _ => ⟨⟨W.drawn + 1, #[], .string r.a⟩, by rw [Go.Sort.grow_empty]⟩, ?_⟩
  ((refine wpK_pure (fuel := 2) (listed' := #[true, true, true, true, true, true, true, true, true, true, false, false]) 9 rfl (by kernel_rfl) rfl ?_; (first | go_big_quiet_step (fail) | quiet_step (fail)); refine wpQuiet_nil ?_); (refine wpK_pure (fuel := 1) (listed' := #[true, true, true, true, true, true, true, true, true, true, true, false]) 10 rfl (by kernel_rfl) rfl ?_; (first | go_big_quiet_step (fail) | quiet_step (fail)); refine wpQuiet_nil ?_))
  refine wpK_one (fuel := 0) (listed' := #[true, true, true, true, true, true, true, true, true, true, true, true]) 11 rfl (by kernel_rfl) rfl ?_
  go_wp2_with fail
  refine ⟨rfl, fun h => absurd h (by decide), ?_⟩
  refine wpK_end rfl ?_
  go_wp2_with fail
  go_end0
  refine ⟨rfl, _, set_blk (o := i * 6 + 5) (set_blk (o := i * 6 + 4) (show (redrawn W (W.drawn + 1)).heap[b]? = _ from HG.out) (.string (r.a))) (.int .i64 (r.n)), by simp only [Array.size_setIfInBounds], ?_, Mut.setCell (T := fun x => x = b) (Mut.setCell (T := fun x => x = b) ((show Mut (fun x => x = b) W (redrawn W (W.drawn + 1)) from ⟨rfl, rfl, rfl, Nat.le_refl _, fun _ _ _ => rfl⟩)) (p := ⟨b, i * 6 + 4, none⟩) (fun _ => rfl) _) (p := ⟨b, i * 6 + 5, none⟩) (fun _ => rfl) _⟩
  simp only [Array.toList_setIfInBounds, List.take_set]
  rw [HT.out]
  exact flat_sets (enc := encJob) lenJob HI.out [(4, .string (r.a)), (5, .int .i64 (r.n))] (by intro q hq; simp only [List.mem_cons, List.not_mem_nil, or_false] at hq; rcases hq with rfl | rfl <;> simp) rfl
set_option maxRecDepth 100000 in
theorem c_back_1 (b i n : Nat) (cur : Array Value) (l : List EJob) (B : Nat) (r : GRec) (vA : Option Addr) (vN vC : Nat) (hbB : b ≠ B) (W : World) (hk : recB W B r vA vN vC) (hi : i < l.length) (hl : l.length = n) (hg : W.heap[b]? = some (.cells cur 45 (0, 0))) (ht : cur.toList.take (n * 6) = l.flatMap encJob) (hs : n * 6 ≤ cur.size) :
    Calls Tryz.prog 89 (#[.pointer (some ⟨b, i * 6, none⟩)] ++ #[.pointer (some ⟨B, 0, none⟩)]) W fun e w' => e = .returned (.tuple #[]) ∧ ∃ cur' : Array Value, w'.heap[b]? = some (.cells cur' 45 (0, 0)) ∧ cur'.size = cur.size ∧ cur'.toList.take (n * 6) = (l.set i { l[i] with retries := r.n, worker := ⟨#[]⟩, till := 0 }).flatMap encJob ∧ Mut (fun x => x = b) W w' := by
  have hin : (i + 1) * 6 ≤ n * 6 := Nat.mul_le_mul_right _ (by omega)
  obtain ⟨u3, hu3⟩ : ∃ u, cur[i * 6 + 3]? = some u := ⟨_, Array.getElem?_eq_getElem (by omega)⟩
  have j3 := (cell_of_blk hg (i * 6 + 3)).trans hu3
  have f3 := frozen_of_blk hg (i * 6 + 3)
  clear hu3
  obtain ⟨u4, hu4⟩ : ∃ u, cur[i * 6 + 4]? = some u := ⟨_, Array.getElem?_eq_getElem (by omega)⟩
  have j4 := (cell_of_blk hg (i * 6 + 4)).trans hu4
  have f4 := frozen_of_blk hg (i * 6 + 4)
  clear hu4
  obtain ⟨u5, hu5⟩ : ∃ u, cur[i * 6 + 5]? = some u := ⟨_, Array.getElem?_eq_getElem (by omega)⟩
  have j5 := (cell_of_blk hg (i * 6 + 5)).trans hu5
  have f5 := frozen_of_blk hg (i * 6 + 5)
  clear hu5
  have k7 := cell_of_blk hk 7
  have hbB2 := Ne.symm hbB
  clear hk
  have HG := Lib.hid hg
  have HT := Lib.hid ht
  have HI := Lib.hid hi
  clear hg ht hs hin
  go_enter Tryz.func89, Tryz.ntmps89
  go_wp2_with fail
  go_end0
  refine ⟨rfl, _, set_blk (o := i * 6 + 5) (set_blk (o := i * 6 + 4) (set_blk (o := i * 6 + 3) (HG.out) (.int .i64 (r.n))) (.string (⟨#[]⟩))) (.int .i64 (0)), by simp only [Array.size_setIfInBounds], ?_, Mut.setCell (T := fun x => x = b) (Mut.setCell (T := fun x => x = b) (Mut.setCell (T := fun x => x = b) (Mut.refl (fun x => x = b) W) (p := ⟨b, i * 6 + 3, none⟩) (fun _ => rfl) _) (p := ⟨b, i * 6 + 4, none⟩) (fun _ => rfl) _) (p := ⟨b, i * 6 + 5, none⟩) (fun _ => rfl) _⟩
  simp only [Array.toList_setIfInBounds, List.take_set]
  rw [HT.out]
  exact flat_sets (enc := encJob) lenJob HI.out [(3, .int .i64 (r.n)), (4, .string (⟨#[]⟩)), (5, .int .i64 (0))] (by intro q hq; simp only [List.mem_cons, List.not_mem_nil, or_false] at hq; rcases hq with rfl | rfl | rfl <;> simp) rfl
end Go.Proofs.YtfjdllpacdobdaaGreat
