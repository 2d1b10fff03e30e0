/-
  Base words for the walks of this seat: slices that are read or owned as lists of cells, appends, worlds that only grow. Nothing of a program.
-/
import Derived.WalkKit
import Derived.WalkLawsBesides
import Derived.WalkSpells
import Derived.Maps.AppendAt
import Derived.Deep.AppendLies
import Derived.Deep.QuietTactic
import Derived.BigQuiet
import Derived.Lib.QuietBelow
import Derived.Lib.Hide
import Derived.Laws.BytesArg
import Derived.Laws.ResultCell
set_option linter.unusedVariables false
set_option linter.unusedSimpArgs false
namespace Go.Proofs.Base
open Go Go.RowKit

/-! ### worlds -/
/-- What a later world says of old cells and old marks. -/
theorem bcell {W w1 : World} (hb : Below W.heap.size W w1) : (∀ b o, b < W.heap.size → w1.cell? ⟨b, o, none⟩ = W.cell? ⟨b, o, none⟩) ∧ (∀ b o, b < W.heap.size → w1.frozen? ⟨b, o, none⟩ = W.frozen? ⟨b, o, none⟩) :=
  ⟨fun b o h => hb.cell (p := ⟨b, o, none⟩) h, fun b o h => hb.frozen (p := ⟨b, o, none⟩) h⟩
theorem below_alloc {w W : World} (h : Below w.heap.size w W) (o : Obj) : Below w.heap.size w (W.alloc o) := h.alloc h.size o
theorem below_drewN {B : Nat} {w W : World} (h : Below B w W) (n : Nat) : Below B w (W.drewN n) := ⟨h.os, h.tape, h.output, h.size, h.block⟩
theorem below_then {B : Nat} {w w1 w2 : World} (h : Below B w w1) (hB : B ≤ w1.heap.size) (k : Below w1.heap.size w1 w2) : Below B w w2 :=
  h.trans ⟨k.os, k.tape, k.output, k.size, fun i hi => k.block i (Nat.lt_of_lt_of_le hi hB)⟩
/-- Two steps of functions that leave the old alone. -/
theorem below2 {w w1 w2 : World} (h : Below w.heap.size w w1) (k : Below w1.heap.size w1 w2) : Below w.heap.size w w2 := below_then h h.size k
theorem grown_of_below {w w1 : World} (h : Below w.heap.size w w1) (row : Option Nat) : w.grownBy w1 row := ⟨h.os, h.tape, h.output, h.size, fun i hi _ => h.block i hi⟩
theorem cell_below {w w1 : World} (h : Below w.heap.size w w1) {a : Addr} {v : Value} (hc : w.cell? a = some v) : w1.cell? a = some v := (h.cell (World.block_lt_of_cell? w a hc)).trans hc
theorem block_below {w w1 : World} (h : Below w.heap.size w w1) {b : Nat} {o : Obj} (hc : w.heap[b]? = some o) : w1.heap[b]? = some o :=
  (h.block b (Array.getElem?_eq_some_iff.1 hc).1).trans hc
theorem lt_of_blk {w : World} {b : Nat} {o : Obj} (hc : w.heap[b]? = some o) : b < w.heap.size := (Array.getElem?_eq_some_iff.1 hc).1
theorem frozen_of_blk {w : World} {b : Nat} {c : Array Value} {t : TypeId} (hc : w.heap[b]? = some (.cells c t (0, 0))) (o : Nat) : w.frozen? ⟨b, o, none⟩ = false := by
  simp [World.frozen?, hc]
theorem bne_t {a b : Int} (h : a ≠ b) : (a != b) = true := by rw [bne_iff_ne]; exact h
theorem bne_f {a b : Int} (h : a = b) : (a != b) = false := by rw [h]; simp
theorem beq_t {a b : Int} (h : a = b) : (a == b) = true := by rw [h]; simp
theorem beq_f {a b : Int} (h : a ≠ b) : (a == b) = false := by rw [beq_eq_false_iff_ne]; exact h
theorem cell_of_blk {w : World} {b : Nat} {c : Array Value} {t : TypeId} {f : Nat × Nat} (hc : w.heap[b]? = some (.cells c t f)) (o : Nat) : w.cell? ⟨b, o, none⟩ = c[o]? := by
  simp [World.cell?, hc]
theorem set_blk {w : World} {b o : Nat} {c : Array Value} {t : TypeId} {f : Nat × Nat} (hc : w.heap[b]? = some (.cells c t f)) (u : Value) : (w.setCell ⟨b, o, none⟩ u).heap[b]? = some (.cells (c.setIfInBounds o u) t f) := by
  simp [World.setCell, Array.getElem?_modify, hc]

/-- Only the blocks of T, and new ones, have turned. -/
structure Mut (T : Nat → Prop) (w w' : World) : Prop where
  os : w'.os = w.os
  tape : w'.tape = w.tape
  output : w'.output = w.output
  size : w.heap.size ≤ w'.heap.size
  block : ∀ k, k < w.heap.size → ¬ T k → w'.heap[k]? = w.heap[k]?
theorem Mut.refl (T : Nat → Prop) (w : World) : Mut T w w := ⟨rfl, rfl, rfl, Nat.le_refl _, fun _ _ _ => rfl⟩
theorem Mut.trans {T T' : Nat → Prop} {w w1 w2 : World} (h : Mut T w w1) (k : Mut T' w1 w2) (hT : ∀ b, b < w.heap.size → T' b → T b) : Mut T w w2 :=
  ⟨k.os.trans h.os, k.tape.trans h.tape, k.output.trans h.output, Nat.le_trans h.size k.size, fun b hb hn =>
    (k.block b (Nat.lt_of_lt_of_le hb h.size) (fun ht => hn (hT b hb ht))).trans (h.block b hb hn)⟩
theorem Mut.of_below {w w1 : World} (h : Below w.heap.size w w1) (T : Nat → Prop) : Mut T w w1 := ⟨h.os, h.tape, h.output, h.size, fun b hb _ => h.block b hb⟩
theorem Mut.below {w w1 : World} (h : Mut (fun _ => False) w w1) : Below w.heap.size w w1 := ⟨h.os, h.tape, h.output, h.size, fun b hb => h.block b hb (fun h => h)⟩
theorem Mut.grown {T : Nat → Prop} {w w1 : World} {row : Option Nat} (hg : w.grownBy w1 row) (hT : ∀ b, row = some b → T b) : Mut T w w1 :=
  ⟨hg.os, hg.tape, hg.output, hg.size, fun b hb hn => hg.block b hb (fun e => hn (hT b e.symm))⟩
theorem Mut.setCell {T : Nat → Prop} {w w1 : World} (h : Mut T w w1) {p : Addr} (hp : p.block < w.heap.size → T p.block) (u : Value) : Mut T w (w1.setCell p u) :=
  ⟨h.os, h.tape, h.output, by simpa [World.setCell] using h.size, fun b hb hn => (Below.heap_setCell w1 p u b (fun e => hn (e ▸ hp (e ▸ hb)))).trans (h.block b hb hn)⟩
theorem Mut.alloc {T : Nat → Prop} {w w1 : World} (h : Mut T w w1) (o : Obj) : Mut T w (w1.alloc o) :=
  ⟨h.os, h.tape, h.output, Nat.le_trans h.size (by simp), fun b hb hn => (Below.heap_alloc w1 o b (Nat.lt_of_lt_of_le hb h.size)).trans (h.block b hb hn)⟩
theorem Mut.drewN {T : Nat → Prop} {w w1 : World} (h : Mut T w w1) (n : Nat) : Mut T w (w1.drewN n) := ⟨h.os, h.tape, h.output, h.size, h.block⟩
theorem Mut.drew {T : Nat → Prop} {w w1 : World} (h : Mut T w w1) : Mut T w w1.drew := ⟨h.os, h.tape, h.output, h.size, h.block⟩
theorem Mut.mono {T T' : Nat → Prop} {w w1 : World} (h : Mut T w w1) (hT : ∀ b, b < w.heap.size → T b → T' b) : Mut T' w w1 :=
  ⟨h.os, h.tape, h.output, h.size, fun b hb hn => h.block b hb (fun ht => hn (hT b hb ht))⟩
theorem Mut.blk {T : Nat → Prop} {w w1 : World} (h : Mut T w w1) {b : Nat} {o : Obj} (hc : w.heap[b]? = some o) (hn : ¬ T b) : w1.heap[b]? = some o :=
  (h.block b (lt_of_blk hc) hn).trans hc
theorem Mut.cell {T : Nat → Prop} {w w1 : World} (h : Mut T w w1) {a : Addr} {v : Value} (hc : w.cell? a = some v) (hn : ¬ T a.block) : w1.cell? a = some v :=
  (World.cell?_of_block (w := w) (h.block a.block (World.block_lt_of_cell? w a hc) hn)).trans hc

/-! ### endings -/
theorem ret1 {a a' : Value} (h1 : a = a') : Ending.returned a = .returned a' := by rw [h1]
theorem ret2 {a a' b b' : Value} (h1 : a = a') (h2 : b = b') : Ending.returned (.tuple #[a, b]) = .returned (.tuple #[a', b']) := by rw [h1, h2]
theorem ret3 {a a' b b' c c' : Value} (h1 : a = a') (h2 : b = b') (h3 : c = c') : Ending.returned (.tuple #[a, b, c]) = .returned (.tuple #[a', b', c']) := by rw [h1, h2, h3]
theorem vint {k : IntKind} {a b : Int} (h : a = b) : Value.int k a = .int k b := by rw [h]
theorem vbool {a b : Bool} (h : a = b) : Value.bool a = .bool b := by rw [h]
theorem vstr {a b : ByteArray} (h : a = b) : Value.string a = .string b := by rw [h]

/-! ### addresses -/
theorem add_plain (b o j : Nat) : (⟨b, o, none⟩ : Addr).add j = ⟨b, o + j, none⟩ := by unfold Addr.add; split <;> simp_all

/-! ### an element type's row of the table -/
structure ElemT (P : Program) (t e : TypeId) (sz bytes : Nat) : Prop where
  ht : P.underlying t = some (.slice e)
  hi : ∃ i z, P.info? e = some i ∧ i.zero = some z ∧ i.size = sz ∧ i.bytes = bytes ∧ z.cells.size = sz
theorem ElemT.of {P : Program} {t e : TypeId} {sz bytes : Nat} {z : Value} (ht : P.underlying t = some (.slice e)) (h : (P.info? e).map (fun i => (i.zero, i.size, i.bytes)) = some (some z, sz, bytes)) (hz : z.cells.size = sz) : ElemT P t e sz bytes := by
  obtain ⟨i, hi, hz0, hz1, hz2⟩ := info_parts h
  exact ⟨ht, i, z, hi, hz0, hz1, hz2, hz⟩

/-! ### a slice that reads as a list of cells: its block is one of S -/
def Row (w : World) (S : Nat → Prop) (sz n : Nat) (v : Value) (cs : List Value) : Prop :=
  ∃ A c, v = .slice A n c ∧ n ≤ c ∧ c ≤ maxLen ∧ cs.length = n * sz ∧ (A = none → n = 0 ∧ c = 0) ∧
    (0 < n → ∃ b o, A = some ⟨b, o, none⟩ ∧ S b ∧ b < w.heap.size ∧ ∀ j u, cs[j]? = some u → w.cell? ⟨b, o + j, none⟩ = some u)
theorem Row.keep {w w' : World} {S S' : Nat → Prop} {sz n : Nat} {v : Value} {cs : List Value} (h : Row w S sz n v cs) (hk : ∀ b, b < w.heap.size → S b → w'.heap[b]? = w.heap[b]?) (hS : ∀ b, b < w.heap.size → S b → S' b) (hsz : w.heap.size ≤ w'.heap.size) : Row w' S' sz n v cs := by
  obtain ⟨A, c, hv, h1, h2, h3, h4, h5⟩ := h
  refine ⟨A, c, hv, h1, h2, h3, h4, fun hn => ?_⟩
  obtain ⟨b, o, hA, hSb, hlt, hc⟩ := h5 hn
  exact ⟨b, o, hA, hS b hlt hSb, Nat.lt_of_lt_of_le hlt hsz, fun j u hu => (World.cell?_of_block (w := w) (a := ⟨b, o + j, none⟩) (hk b hlt hSb)).trans (hc j u hu)⟩
theorem Row.below {w w' : World} {S : Nat → Prop} {sz n : Nat} {v : Value} {cs : List Value} (h : Row w S sz n v cs) (hb : Below w.heap.size w w') : Row w' S sz n v cs :=
  h.keep (fun b hlt _ => hb.block b hlt) (fun _ _ h => h) hb.size
theorem Row.mut {T : Nat → Prop} {w w' : World} {S : Nat → Prop} {sz n : Nat} {v : Value} {cs : List Value} (h : Row w S sz n v cs) (hb : Mut T w w') (hd : ∀ b, b < w.heap.size → S b → ¬ T b) : Row w' S sz n v cs :=
  h.keep (fun b hlt hS => hb.block b hlt (hd b hlt hS)) (fun _ _ h => h) hb.size
theorem Row.weaken {w : World} {S S' : Nat → Prop} {sz n : Nat} {v : Value} {cs : List Value} (h : Row w S sz n v cs) (hS : ∀ b, b < w.heap.size → S b → S' b) : Row w S' sz n v cs :=
  h.keep (fun _ _ _ => rfl) hS (Nat.le_refl _)
theorem Row.nil (w : World) (S : Nat → Prop) (sz : Nat) : Row w S sz 0 (.slice none 0 0) [] :=
  ⟨none, 0, rfl, Nat.le_refl _, Nat.zero_le _, by simp, fun _ => ⟨rfl, rfl⟩, fun h => absurd h (by omega)⟩
theorem Row.len {w : World} {S : Nat → Prop} {sz n : Nat} {v : Value} {cs : List Value} (h : Row w S sz n v cs) : cs.length = n * sz := by
  obtain ⟨A, c, hv, h1, h2, h3, _⟩ := h; exact h3
theorem Row.of_own {w : World} {base : Nat} {e : TypeId} {sz n : Nat} {v : Value} {xs : List Value} (h : w.ownsRow base e sz v n xs) : Row w (fun b => base ≤ b ∧ v.ownBlock = some b) sz n v xs := by
  obtain ⟨h1, h2⟩ := h
  rcases h2 with ⟨rfl, rfl⟩ | ⟨g, cap, cur, rfl, hb, hh, hnc, hcm, hcs, htk⟩
  · exact ⟨none, 0, rfl, Nat.le_refl _, Nat.zero_le _, h1, fun _ => ⟨rfl, rfl⟩, fun h => absurd h (by omega)⟩
  · refine ⟨_, cap, rfl, hnc, hcm, h1, (fun h => by cases h), fun _ => ⟨g, 0, rfl, ⟨hb, rfl⟩, lt_of_blk hh, fun j u hu => ?_⟩⟩
    rw [Nat.zero_add, cell_of_blk hh, ← Array.getElem?_toList]
    rw [← htk, List.getElem?_take] at hu
    split at hu
    · exact hu
    · cases hu
/-- What the walk wants of a slice: the value laid open; an element's cells at an index that is in. -/
theorem Row.open_ {w : World} {S : Nat → Prop} {sz n : Nat} {v : Value} {cs : List Value} (h : Row w S sz n v cs) : ∃ A c, v = .slice A n c ∧ n ≤ c ∧ c ≤ 9223372036854775807 := by
  obtain ⟨A, c, hv, h1, h2, _⟩ := h; exact ⟨A, c, hv, h1, by simpa [maxLen] using h2⟩
theorem Row.at_ {w : World} {S : Nat → Prop} {sz n c : Nat} {A : Option Addr} {cs : List Value} (h : Row w S sz n (.slice A n c) cs) (hn : 0 < n) :
    ∃ b o, A = some ⟨b, o, none⟩ ∧ S b ∧ b < w.heap.size ∧ ∀ i j u, cs[i * sz + j]? = some u → w.cell? ⟨b, o + i * sz + j, none⟩ = some u := by
  obtain ⟨A', c', hv, h1, h2, h3, h4, h5⟩ := h
  injection hv with e1 e2 e3
  subst e1
  obtain ⟨b, o, hA, hS, hlt, hc⟩ := h5 hn
  exact ⟨b, o, hA, hS, hlt, fun i j u hu => by rw [Nat.add_assoc]; exact hc _ u hu⟩

/-! ### append of one element that was just laid, onto a row of the call's own; behind 'at_builtin' -/
theorem wp_app {P : Program} {w0 W : World} {ops : Array Oper} {rest : List Oper} {o : Oper} {a : Act} {Q : Exit → Act → World → Prop} {t e : TypeId} {sz bytes : Nat} (E : ElemT P t e sz bytes) (hsz : 0 < sz)
    (hgd : o.guard = none) (s x : Operand) (ho : o.op = .call { callee := .builtin .append, args := #[s, x], argTypes := #[t, t] })
    (base : Nat) (v : Value) (n : Nat) (xs cs : List Value) (hs : a.eval s = v) (hx : a.eval x = .slice (some ⟨W.heap.size, 0, none⟩) 1 1) (hcs : cs.length = sz) (h1 : ∀ u ∈ cs, u.oneCell' = true)
    (HO : W.ownsRow base e sz v n xs) (HB : Below base w0 W) (hbase : base ≤ W.heap.size) (hl : n + 1 ≤ 140737488355328) (hl2 : (n + 1) * bytes ≤ 140737488355328)
    (h : ∀ v1 w1, w1.ownsRow base e sz v1 (n + 1) (xs ++ cs) → Below base w0 w1 → (W.alloc (.cells cs.toArray e)).grownBy w1 v.ownBlock → (v1.ownBlock = v.ownBlock ∨ ∃ b, v1.ownBlock = some b ∧ W.heap.size ≤ b) → wpList P ops Q rest (a.put o.dst v1) w1) :
    wpList P ops Q (o :: rest) a (W.alloc (.cells cs.toArray e)) := by
  obtain ⟨i0, z, hi, hz0, hz1, hz2, hzc⟩ := E.hi
  refine wpList_append_own_at (W.alloc (.cells cs.toArray e)) hgd s x t ho base e i0 z sz bytes E.ht hi hz0 hz1 hz2 hzc hsz v n xs hs (HO.alloc _) ⟨W.heap.size, 0, none⟩ 1 1 cs hx (by omega)
    (World.news_of_block (cs := cs.toArray) (t := e) (fr := (0, 0)) (heap_alloc_new W _)) h1 (by simp only [maxLen]; omega) hl2 (by simp; omega) ?_
  intro v1 w1 hown hg _ hat
  refine h v1 w1 hown ((HB.alloc hbase _).grown hg (by simp; omega) (fun k hk => (HO.lt k hk).1)) hg ?_
  rcases hat with hat | hat
  · exact .inl hat
  · exact .inr ⟨_, hat, by simp⟩

theorem own_nil (W : World) (base : Nat) (e : TypeId) (size : Nat) : W.ownsRow base e size (.slice none 0 0) 0 [] := ⟨by simp, .inl ⟨rfl, rfl⟩⟩

/-! ### bytes and strings -/
def toL (s : ByteArray) : List UInt8 := s.data.toList
def ofL (l : List UInt8) : ByteArray := ⟨l.toArray⟩
@[simp] theorem toL_ofL (l : List UInt8) : toL (ofL l) = l := by simp [toL, ofL]
@[simp] theorem ofL_toL (s : ByteArray) : ofL (toL s) = s := by simp [toL, ofL]
@[simp] theorem toL_append (a b : ByteArray) : toL (a ++ b) = toL a ++ toL b := by simp [toL]
theorem toL_inj {a b : ByteArray} (h : toL a = toL b) : a = b := by rw [← ofL_toL a, ← ofL_toL b, h]
@[simp] theorem toL_length (a : ByteArray) : (toL a).length = a.size := by simp [toL]
theorem toList_toL (s : ByteArray) : s.toList = toL s := ByteArray.toList_eq s
theorem emp_true {s : ByteArray} (h : s.size = 0) : s.toList.isEmpty = true := by
  rw [toList_toL, List.isEmpty_iff_length_eq_zero, toL_length, h]
theorem emp_false {s : ByteArray} (h : 0 < s.size) : s.toList.isEmpty = false := by
  have h1 : ¬ s.toList.isEmpty = true := by rw [toList_toL, List.isEmpty_iff_length_eq_zero, toL_length]; omega
  simpa using h1
theorem size0 {s : ByteArray} (h : s.size = 0) : s = ByteArray.empty := toL_inj (by have := List.eq_nil_of_length_eq_zero (l := toL s) (by rw [toL_length, h]); rw [this]; rfl)
theorem ofL_size (l : List UInt8) : (ofL l).size = l.length := by rw [← toL_length, toL_ofL]

def nums8 (xs : List Nat) : List Value := xs.map fun (x : Nat) => .int .u8 (x : Int)
theorem nums8_append (xs ys : List Nat) : nums8 (xs ++ ys) = nums8 xs ++ nums8 ys := by simp [nums8]
theorem nums8_length (xs : List Nat) : (nums8 xs).length = xs.length := by simp [nums8]
def ofN (xs : List Nat) : ByteArray := ofL (xs.map UInt8.ofNat)
/-- string(b), b a row of bytes of the call's own. -/
theorem own_string {P : Program} {w : World} {base n : Nat} {e' src dst e : TypeId} {v : Value} {xs : List Nat} (hs : P.underlying src = some (.slice e)) (he : P.underlying e = some (.int .u8)) (hd : P.underlying dst = some .string)
    (h : w.ownsRow base e' 1 v n (nums8 xs)) : (convert src dst v).run P w = .ok (.string (ofN xs)) w := by
  have hl : xs.length = n := by have := h.1; simp [nums8] at this; exact this
  have e1 : ofN xs = strOfNums (xs.map fun (x : Nat) => (x : Int)) := by simp [ofN, ofL, strOfNums, Function.comp_def]
  rw [e1]
  rcases h.2 with ⟨rfl, rfl⟩ | ⟨g, cap, cur, rfl, _⟩
  · obtain rfl : xs = [] := List.eq_nil_of_length_eq_zero hl
    exact run_convert_bytes_nil w src e hs he 0 0 dst hd
  · refine run_convert_bytes_arg w src e hs he g 0 n cap _ (by simpa using hl) (fun i hi => ?_) dst hd
    have hc := h.cells (g := g) rfl i (.int .u8 (xs.getD i 0 : Nat)) (by simp [nums8, List.getElem?_eq_getElem (show i < xs.length by omega), List.getD_eq_getElem?_getD])
    rw [add_plain] at hc
    rw [hc]
    simp [List.getD_eq_getElem?_getD, List.getElem?_eq_getElem (show i < xs.length by omega)]
/-- string([]byte{..}), the bytes just laid. -/
theorem lit_string {P : Program} {src dst e : TypeId} (hs : P.underlying src = some (.slice e)) (he : P.underlying e = some (.int .u8)) (hd : P.underlying dst = some .string) (W : World) (xs : List Nat) (n : Nat) (hl : xs.length = n) (hn : n ≤ 1000) :
    (convert src dst (.slice (some ⟨W.heap.size, 0, none⟩) n n)).run P (W.alloc (.cells (nums8 xs).toArray e)) = .ok (.string (ofN xs)) (W.alloc (.cells (nums8 xs).toArray e)) := by
  have h := World.ownsRow_lit (base := 0) (e := e) (size := 1) W (nums8 xs).toArray n (Nat.zero_le _) (by simp only [maxLen]; omega) (by simp [nums8_length, hl])
  exact own_string hs he hd (by simpa using h)
theorem u8_wrap (x : Int) : IntKind.u8.wrap x = ((x % 256).toNat : Int) := by
  have : IntKind.u8.wrap x = x % 256 := by simp [IntKind.wrap, IntKind.bits, IntKind.signed]
  rw [this]; omega
end Go.Proofs.Base
