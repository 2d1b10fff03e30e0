/-
  Merged from Base, WireP, ReadP, Read, ReadB, ValP, Wire, Val, ValB, Gen, RightG, Tail, Build, VarsG, Get, Search, PutP, RowLaws, Ins, Clone.
-/
import Derived.WalkKit
import Derived.WalkLawsBesides
import Derived.WalkSpells
import Derived.Maps.AppendAt
import Derived.Deep.AppendLies
import Derived.Deep.QuietTactic
import Derived.BigQuiet
import Derived.Lib.QuietBelow
import Derived.Lib.Hide
import Derived.Laws.BytesArg
import Derived.Laws.ResultCell
import Derived.Test.YthhgfdejadbigaaDoorProg
import Derived.StillTail
import Derived.Shelf.Strings.Builder1
import Derived.Lib.Bytealg
import Derived.Deep.LoopGhost
import Derived.Laws.CopyRow
import Derived.Laws.IdiomCopy
import Derived.Laws.CopyOwn
import Derived.Lib.AppendZeros
import Derived.Lib.Overlaps
import Derived.Shelf.Spec.SlicesInsert
import Derived.Deep.RegionLaw
import Derived.Lib.SliceRun
/-
  Base words for the walks of this seat: slices that are read or owned as lists of cells, appends, worlds that only grow. Nothing of a program.
-/
set_option linter.unusedVariables false
set_option linter.unusedSimpArgs false
namespace Go.Proofs.Base
open Go Go.RowKit
theorem bcell {W w1 : World} (hb : Below W.heap.size W w1) : (∀ b o, b < W.heap.size → w1.cell? ⟨b, o, none⟩ = W.cell? ⟨b, o, none⟩) ∧ (∀ b o, b < W.heap.size → w1.frozen? ⟨b, o, none⟩ = W.frozen? ⟨b, o, none⟩) :=
  ⟨fun b o h => hb.cell (p := ⟨b, o, none⟩) h, fun b o h => hb.frozen (p := ⟨b, o, none⟩) h⟩
theorem below_alloc {w W : World} (h : Below w.heap.size w W) (o : Obj) : Below w.heap.size w (W.alloc o) := h.alloc h.size o
theorem below_drewN {B : Nat} {w W : World} (h : Below B w W) (n : Nat) : Below B w (W.drewN n) := ⟨h.os, h.tape, h.output, h.size, h.block⟩
theorem below_then {B : Nat} {w w1 w2 : World} (h : Below B w w1) (hB : B ≤ w1.heap.size) (k : Below w1.heap.size w1 w2) : Below B w w2 :=
  h.trans ⟨k.os, k.tape, k.output, k.size, fun i hi => k.block i (Nat.lt_of_lt_of_le hi hB)⟩
theorem below2 {w w1 w2 : World} (h : Below w.heap.size w w1) (k : Below w1.heap.size w1 w2) : Below w.heap.size w w2 := below_then h h.size k
theorem grown_of_below {w w1 : World} (h : Below w.heap.size w w1) (row : Option Nat) : w.grownBy w1 row := ⟨h.os, h.tape, h.output, h.size, fun i hi _ => h.block i hi⟩
theorem cell_below {w w1 : World} (h : Below w.heap.size w w1) {a : Addr} {v : Value} (hc : w.cell? a = some v) : w1.cell? a = some v := (h.cell (World.block_lt_of_cell? w a hc)).trans hc
theorem block_below {w w1 : World} (h : Below w.heap.size w w1) {b : Nat} {o : Obj} (hc : w.heap[b]? = some o) : w1.heap[b]? = some o :=
  (h.block b (Array.getElem?_eq_some_iff.1 hc).1).trans hc
theorem lt_of_blk {w : World} {b : Nat} {o : Obj} (hc : w.heap[b]? = some o) : b < w.heap.size := (Array.getElem?_eq_some_iff.1 hc).1
theorem frozen_of_blk {w : World} {b : Nat} {c : Array Value} {t : TypeId} (hc : w.heap[b]? = some (.cells c t (0, 0))) (o : Nat) : w.frozen? ⟨b, o, none⟩ = false := by
  simp [World.frozen?, hc]
theorem bne_t {a b : Int} (h : a ≠ b) : (a != b) = true := by rw [bne_iff_ne]; exact h
theorem bne_f {a b : Int} (h : a = b) : (a != b) = false := by rw [h]; simp
theorem beq_t {a b : Int} (h : a = b) : (a == b) = true := by rw [h]; simp
theorem beq_f {a b : Int} (h : a ≠ b) : (a == b) = false := by rw [beq_eq_false_iff_ne]; exact h
theorem cell_of_blk {w : World} {b : Nat} {c : Array Value} {t : TypeId} {f : Nat × Nat} (hc : w.heap[b]? = some (.cells c t f)) (o : Nat) : w.cell? ⟨b, o, none⟩ = c[o]? := by
  simp [World.cell?, hc]
theorem set_blk {w : World} {b o : Nat} {c : Array Value} {t : TypeId} {f : Nat × Nat} (hc : w.heap[b]? = some (.cells c t f)) (u : Value) : (w.setCell ⟨b, o, none⟩ u).heap[b]? = some (.cells (c.setIfInBounds o u) t f) := by
  simp [World.setCell, Array.getElem?_modify, hc]
structure Mut (T : Nat → Prop) (w w' : World) : Prop where
  os : w'.os = w.os
  tape : w'.tape = w.tape
  output : w'.output = w.output
  size : w.heap.size ≤ w'.heap.size
  block : ∀ k, k < w.heap.size → ¬ T k → w'.heap[k]? = w.heap[k]?
theorem Mut.refl (T : Nat → Prop) (w : World) : Mut T w w := ⟨rfl, rfl, rfl, Nat.le_refl _, fun _ _ _ => rfl⟩
theorem Mut.trans {T T' : Nat → Prop} {w w1 w2 : World} (h : Mut T w w1) (k : Mut T' w1 w2) (hT : ∀ b, b < w.heap.size → T' b → T b) : Mut T w w2 :=
  ⟨k.os.trans h.os, k.tape.trans h.tape, k.output.trans h.output, Nat.le_trans h.size k.size, fun b hb hn =>
    (k.block b (Nat.lt_of_lt_of_le hb h.size) (fun ht => hn (hT b hb ht))).trans (h.block b hb hn)⟩
theorem Mut.of_below {w w1 : World} (h : Below w.heap.size w w1) (T : Nat → Prop) : Mut T w w1 := ⟨h.os, h.tape, h.output, h.size, fun b hb _ => h.block b hb⟩
theorem Mut.below {w w1 : World} (h : Mut (fun _ => False) w w1) : Below w.heap.size w w1 := ⟨h.os, h.tape, h.output, h.size, fun b hb => h.block b hb (fun h => h)⟩
theorem Mut.grown {T : Nat → Prop} {w w1 : World} {row : Option Nat} (hg : w.grownBy w1 row) (hT : ∀ b, row = some b → T b) : Mut T w w1 :=
  ⟨hg.os, hg.tape, hg.output, hg.size, fun b hb hn => hg.block b hb (fun e => hn (hT b e.symm))⟩
theorem Mut.setCell {T : Nat → Prop} {w w1 : World} (h : Mut T w w1) {p : Addr} (hp : p.block < w.heap.size → T p.block) (u : Value) : Mut T w (w1.setCell p u) :=
  ⟨h.os, h.tape, h.output, by simpa [World.setCell] using h.size, fun b hb hn => (Below.heap_setCell w1 p u b (fun e => hn (e ▸ hp (e ▸ hb)))).trans (h.block b hb hn)⟩
theorem Mut.alloc {T : Nat → Prop} {w w1 : World} (h : Mut T w w1) (o : Obj) : Mut T w (w1.alloc o) :=
  ⟨h.os, h.tape, h.output, Nat.le_trans h.size (by simp), fun b hb hn => (Below.heap_alloc w1 o b (Nat.lt_of_lt_of_le hb h.size)).trans (h.block b hb hn)⟩
theorem Mut.drewN {T : Nat → Prop} {w w1 : World} (h : Mut T w w1) (n : Nat) : Mut T w (w1.drewN n) := ⟨h.os, h.tape, h.output, h.size, h.block⟩
theorem Mut.drew {T : Nat → Prop} {w w1 : World} (h : Mut T w w1) : Mut T w w1.drew := ⟨h.os, h.tape, h.output, h.size, h.block⟩
theorem Mut.mono {T T' : Nat → Prop} {w w1 : World} (h : Mut T w w1) (hT : ∀ b, b < w.heap.size → T b → T' b) : Mut T' w w1 :=
  ⟨h.os, h.tape, h.output, h.size, fun b hb hn => h.block b hb (fun ht => hn (hT b hb ht))⟩
theorem Mut.blk {T : Nat → Prop} {w w1 : World} (h : Mut T w w1) {b : Nat} {o : Obj} (hc : w.heap[b]? = some o) (hn : ¬ T b) : w1.heap[b]? = some o :=
  (h.block b (lt_of_blk hc) hn).trans hc
theorem Mut.cell {T : Nat → Prop} {w w1 : World} (h : Mut T w w1) {a : Addr} {v : Value} (hc : w.cell? a = some v) (hn : ¬ T a.block) : w1.cell? a = some v :=
  (World.cell?_of_block (w := w) (h.block a.block (World.block_lt_of_cell? w a hc) hn)).trans hc
theorem ret1 {a a' : Value} (h1 : a = a') : Ending.returned a = .returned a' := by rw [h1]
theorem ret3 {a a' b b' c c' : Value} (h1 : a = a') (h2 : b = b') (h3 : c = c') : Ending.returned (.tuple #[a, b, c]) = .returned (.tuple #[a', b', c']) := by rw [h1, h2, h3]
theorem vint {k : IntKind} {a b : Int} (h : a = b) : Value.int k a = .int k b := by rw [h]
theorem vbool {a b : Bool} (h : a = b) : Value.bool a = .bool b := by rw [h]
theorem vstr {a b : ByteArray} (h : a = b) : Value.string a = .string b := by rw [h]
theorem add_plain (b o j : Nat) : (⟨b, o, none⟩ : Addr).add j = ⟨b, o + j, none⟩ := by unfold Addr.add; split <;> simp_all
structure ElemT (P : Program) (t e : TypeId) (sz bytes : Nat) : Prop where
  ht : P.underlying t = some (.slice e)
  hi : ∃ i z, P.info? e = some i ∧ i.zero = some z ∧ i.size = sz ∧ i.bytes = bytes ∧ z.cells.size = sz
theorem ElemT.of {P : Program} {t e : TypeId} {sz bytes : Nat} {z : Value} (ht : P.underlying t = some (.slice e)) (h : (P.info? e).map (fun i => (i.zero, i.size, i.bytes)) = some (some z, sz, bytes)) (hz : z.cells.size = sz) : ElemT P t e sz bytes := by
  obtain ⟨i, hi, hz0, hz1, hz2⟩ := info_parts h
  exact ⟨ht, i, z, hi, hz0, hz1, hz2, hz⟩
def Row (w : World) (S : Nat → Prop) (sz n : Nat) (v : Value) (cs : List Value) : Prop :=
  ∃ A c, v = .slice A n c ∧ n ≤ c ∧ c ≤ maxLen ∧ cs.length = n * sz ∧ (A = none → n = 0 ∧ c = 0) ∧
    (0 < n → ∃ b o, A = some ⟨b, o, none⟩ ∧ S b ∧ b < w.heap.size ∧ ∀ j u, cs[j]? = some u → w.cell? ⟨b, o + j, none⟩ = some u)
theorem Row.keep {w w' : World} {S S' : Nat → Prop} {sz n : Nat} {v : Value} {cs : List Value} (h : Row w S sz n v cs) (hk : ∀ b, b < w.heap.size → S b → w'.heap[b]? = w.heap[b]?) (hS : ∀ b, b < w.heap.size → S b → S' b) (hsz : w.heap.size ≤ w'.heap.size) : Row w' S' sz n v cs := by
  obtain ⟨A, c, hv, h1, h2, h3, h4, h5⟩ := h
  refine ⟨A, c, hv, h1, h2, h3, h4, fun hn => ?_⟩
  obtain ⟨b, o, hA, hSb, hlt, hc⟩ := h5 hn
  exact ⟨b, o, hA, hS b hlt hSb, Nat.lt_of_lt_of_le hlt hsz, fun j u hu => (World.cell?_of_block (w := w) (a := ⟨b, o + j, none⟩) (hk b hlt hSb)).trans (hc j u hu)⟩
theorem Row.below {w w' : World} {S : Nat → Prop} {sz n : Nat} {v : Value} {cs : List Value} (h : Row w S sz n v cs) (hb : Below w.heap.size w w') : Row w' S sz n v cs :=
  h.keep (fun b hlt _ => hb.block b hlt) (fun _ _ h => h) hb.size
theorem Row.weaken {w : World} {S S' : Nat → Prop} {sz n : Nat} {v : Value} {cs : List Value} (h : Row w S sz n v cs) (hS : ∀ b, b < w.heap.size → S b → S' b) : Row w S' sz n v cs :=
  h.keep (fun _ _ _ => rfl) hS (Nat.le_refl _)
theorem Row.nil (w : World) (S : Nat → Prop) (sz : Nat) : Row w S sz 0 (.slice none 0 0) [] :=
  ⟨none, 0, rfl, Nat.le_refl _, Nat.zero_le _, by simp, fun _ => ⟨rfl, rfl⟩, fun h => absurd h (by omega)⟩
theorem Row.len {w : World} {S : Nat → Prop} {sz n : Nat} {v : Value} {cs : List Value} (h : Row w S sz n v cs) : cs.length = n * sz := by
  obtain ⟨A, c, hv, h1, h2, h3, _⟩ := h; exact h3
theorem Row.of_own {w : World} {base : Nat} {e : TypeId} {sz n : Nat} {v : Value} {xs : List Value} (h : w.ownsRow base e sz v n xs) : Row w (fun b => base ≤ b ∧ v.ownBlock = some b) sz n v xs := by
  obtain ⟨h1, h2⟩ := h
  rcases h2 with ⟨rfl, rfl⟩ | ⟨g, cap, cur, rfl, hb, hh, hnc, hcm, hcs, htk⟩
  · exact ⟨none, 0, rfl, Nat.le_refl _, Nat.zero_le _, h1, fun _ => ⟨rfl, rfl⟩, fun h => absurd h (by omega)⟩
  · refine ⟨_, cap, rfl, hnc, hcm, h1, (fun h => by cases h), fun _ => ⟨g, 0, rfl, ⟨hb, rfl⟩, lt_of_blk hh, fun j u hu => ?_⟩⟩
    rw [Nat.zero_add, cell_of_blk hh, ← Array.getElem?_toList]
    rw [← htk, List.getElem?_take] at hu
    split at hu
    · exact hu
    · cases hu
theorem Row.open_ {w : World} {S : Nat → Prop} {sz n : Nat} {v : Value} {cs : List Value} (h : Row w S sz n v cs) : ∃ A c, v = .slice A n c ∧ n ≤ c ∧ c ≤ 9223372036854775807 := by
  obtain ⟨A, c, hv, h1, h2, _⟩ := h; exact ⟨A, c, hv, h1, by simpa [maxLen] using h2⟩
theorem Row.at_ {w : World} {S : Nat → Prop} {sz n c : Nat} {A : Option Addr} {cs : List Value} (h : Row w S sz n (.slice A n c) cs) (hn : 0 < n) :
    ∃ b o, A = some ⟨b, o, none⟩ ∧ S b ∧ b < w.heap.size ∧ ∀ i j u, cs[i * sz + j]? = some u → w.cell? ⟨b, o + i * sz + j, none⟩ = some u := by
  obtain ⟨A', c', hv, h1, h2, h3, h4, h5⟩ := h
  injection hv with e1 e2 e3
  subst e1
  obtain ⟨b, o, hA, hS, hlt, hc⟩ := h5 hn
  exact ⟨b, o, hA, hS, hlt, fun i j u hu => by rw [Nat.add_assoc]; exact hc _ u hu⟩
theorem wp_app {P : Program} {w0 W : World} {ops : Array Oper} {rest : List Oper} {o : Oper} {a : Act} {Q : Exit → Act → World → Prop} {t e : TypeId} {sz bytes : Nat} (E : ElemT P t e sz bytes) (hsz : 0 < sz)
    (hgd : o.guard = none) (s x : Operand) (ho : o.op = .call { callee := .builtin .append, args := #[s, x], argTypes := #[t, t] })
    (base : Nat) (v : Value) (n : Nat) (xs cs : List Value) (hs : a.eval s = v) (hx : a.eval x = .slice (some ⟨W.heap.size, 0, none⟩) 1 1) (hcs : cs.length = sz) (h1 : ∀ u ∈ cs, u.oneCell' = true)
    (HO : W.ownsRow base e sz v n xs) (HB : Below base w0 W) (hbase : base ≤ W.heap.size) (hl : n + 1 ≤ 140737488355328) (hl2 : (n + 1) * bytes ≤ 140737488355328)
    (h : ∀ v1 w1, w1.ownsRow base e sz v1 (n + 1) (xs ++ cs) → Below base w0 w1 → (W.alloc (.cells cs.toArray e)).grownBy w1 v.ownBlock → (v1.ownBlock = v.ownBlock ∨ ∃ b, v1.ownBlock = some b ∧ W.heap.size ≤ b) → wpList P ops Q rest (a.put o.dst v1) w1) :
    wpList P ops Q (o :: rest) a (W.alloc (.cells cs.toArray e)) := by
  obtain ⟨i0, z, hi, hz0, hz1, hz2, hzc⟩ := E.hi
  refine wpList_append_own_at (W.alloc (.cells cs.toArray e)) hgd s x t ho base e i0 z sz bytes E.ht hi hz0 hz1 hz2 hzc hsz v n xs hs (HO.alloc _) ⟨W.heap.size, 0, none⟩ 1 1 cs hx (by omega)
    (World.news_of_block (cs := cs.toArray) (t := e) (fr := (0, 0)) (heap_alloc_new W _)) h1 (by simp only [maxLen]; omega) hl2 (by simp; omega) ?_
  intro v1 w1 hown hg _ hat
  refine h v1 w1 hown ((HB.alloc hbase _).grown hg (by simp; omega) (fun k hk => (HO.lt k hk).1)) hg ?_
  rcases hat with hat | hat
  · exact .inl hat
  · exact .inr ⟨_, hat, by simp⟩
theorem own_nil (W : World) (base : Nat) (e : TypeId) (size : Nat) : W.ownsRow base e size (.slice none 0 0) 0 [] := ⟨by simp, .inl ⟨rfl, rfl⟩⟩
def toL (s : ByteArray) : List UInt8 := s.data.toList
def ofL (l : List UInt8) : ByteArray := ⟨l.toArray⟩
@[simp] theorem toL_ofL (l : List UInt8) : toL (ofL l) = l := by simp [toL, ofL]
@[simp] theorem ofL_toL (s : ByteArray) : ofL (toL s) = s := by simp [toL, ofL]
@[simp] theorem toL_append (a b : ByteArray) : toL (a ++ b) = toL a ++ toL b := by simp [toL]
theorem toL_inj {a b : ByteArray} (h : toL a = toL b) : a = b := by rw [← ofL_toL a, ← ofL_toL b, h]
@[simp] theorem toL_length (a : ByteArray) : (toL a).length = a.size := by simp [toL]
theorem toList_toL (s : ByteArray) : s.toList = toL s := ByteArray.toList_eq s
theorem emp_true {s : ByteArray} (h : s.size = 0) : s.toList.isEmpty = true := by
  rw [toList_toL, List.isEmpty_iff_length_eq_zero, toL_length, h]
theorem emp_false {s : ByteArray} (h : 0 < s.size) : s.toList.isEmpty = false := by
  have h1 : ¬ s.toList.isEmpty = true := by rw [toList_toL, List.isEmpty_iff_length_eq_zero, toL_length]; omega
  simpa using h1
theorem ofL_size (l : List UInt8) : (ofL l).size = l.length := by rw [← toL_length, toL_ofL]
def nums8 (xs : List Nat) : List Value := xs.map fun (x : Nat) => .int .u8 (x : Int)
theorem nums8_append (xs ys : List Nat) : nums8 (xs ++ ys) = nums8 xs ++ nums8 ys := by simp [nums8]
theorem nums8_length (xs : List Nat) : (nums8 xs).length = xs.length := by simp [nums8]
def ofN (xs : List Nat) : ByteArray := ofL (xs.map UInt8.ofNat)
theorem own_string {P : Program} {w : World} {base n : Nat} {e' src dst e : TypeId} {v : Value} {xs : List Nat} (hs : P.underlying src = some (.slice e)) (he : P.underlying e = some (.int .u8)) (hd : P.underlying dst = some .string)
    (h : w.ownsRow base e' 1 v n (nums8 xs)) : (convert src dst v).run P w = .ok (.string (ofN xs)) w := by
  have hl : xs.length = n := by have := h.1; simp [nums8] at this; exact this
  have e1 : ofN xs = strOfNums (xs.map fun (x : Nat) => (x : Int)) := by simp [ofN, ofL, strOfNums, Function.comp_def]
  rw [e1]
  rcases h.2 with ⟨rfl, rfl⟩ | ⟨g, cap, cur, rfl, _⟩
  · obtain rfl : xs = [] := List.eq_nil_of_length_eq_zero hl
    exact run_convert_bytes_nil w src e hs he 0 0 dst hd
  · refine run_convert_bytes_arg w src e hs he g 0 n cap _ (by simpa using hl) (fun i hi => ?_) dst hd
    have hc := h.cells (g := g) rfl i (.int .u8 (xs.getD i 0 : Nat)) (by simp [nums8, List.getElem?_eq_getElem (show i < xs.length by omega), List.getD_eq_getElem?_getD])
    rw [add_plain] at hc
    rw [hc]
    simp [List.getD_eq_getElem?_getD, List.getElem?_eq_getElem (show i < xs.length by omega)]
theorem lit_string {P : Program} {src dst e : TypeId} (hs : P.underlying src = some (.slice e)) (he : P.underlying e = some (.int .u8)) (hd : P.underlying dst = some .string) (W : World) (xs : List Nat) (n : Nat) (hl : xs.length = n) (hn : n ≤ 1000) :
    (convert src dst (.slice (some ⟨W.heap.size, 0, none⟩) n n)).run P (W.alloc (.cells (nums8 xs).toArray e)) = .ok (.string (ofN xs)) (W.alloc (.cells (nums8 xs).toArray e)) := by
  have h := World.ownsRow_lit (base := 0) (e := e) (size := 1) W (nums8 xs).toArray n (Nat.zero_le _) (by simp only [maxLen]; omega) (by simp [nums8_length, hl])
  exact own_string hs he hd (by simpa using h)
end Go.Proofs.Base
/-
  What the bytes of numbers and texts are (layer 1), as plain lists; no program.
-/
set_option linter.unusedVariables false
set_option linter.unusedSimpArgs false
namespace Go.Proofs.Base
open Go Go.RowKit
def uintN (v : Nat) : List Nat := if h : v < 128 then [v] else (v % 128 + 128) :: uintN (v / 128)
termination_by v
decreasing_by omega
theorem uintN_lt {v : Nat} (h : v < 128) : uintN v = [v] := by rw [uintN, dif_pos h]
theorem uintN_ge {v : Nat} (h : ¬ v < 128) : uintN v = (v % 128 + 128) :: uintN (v / 128) := by rw [uintN, dif_neg h]
theorem uintN_len : ∀ (k v : Nat), v < 128 ^ (k + 1) → (uintN v).length ≤ k + 1
  | 0, v, h => by rw [uintN_lt (by simpa using h)]; simp
  | k + 1, v, h => by
    by_cases hv : v < 128
    · rw [uintN_lt hv]; simp
    · rw [uintN_ge hv]
      have := uintN_len k (v / 128) (Nat.div_lt_of_lt_mul (by rw [Nat.pow_succ, Nat.mul_comm] at h; exact h))
      simp only [List.length_cons]
      omega
theorem uintN_len10 {v : Nat} (h : v < 18446744073709551616) : (uintN v).length ≤ 10 := uintN_len 9 v (Nat.lt_of_lt_of_le h (by decide))
theorem uintN_pos (v : Nat) : 0 < (uintN v).length := by
  by_cases hv : v < 128
  · rw [uintN_lt hv]; simp
  · rw [uintN_ge hv]; simp
def uintB (v : Nat) : ByteArray := ofN (uintN v)
theorem ofN_size (xs : List Nat) : (ofN xs).size = xs.length := by simp [ofN, ofL_size]
theorem toL_ofN (xs : List Nat) : toL (ofN xs) = xs.map UInt8.ofNat := by simp [ofN]
theorem uintB_size {v : Nat} (h : v < 18446744073709551616) : (uintB v).size ≤ 10 := by rw [uintB, ofN_size]; exact uintN_len10 h
def zig (v : Int) : Nat := if 0 ≤ v then (2 * v).toNat else (-2 * v - 1).toNat
theorem zig_lt {v : Int} (h0 : -9223372036854775808 ≤ v) (h1 : v ≤ 9223372036854775807) : zig v < 18446744073709551616 := by unfold zig; split <;> omega
def intB (v : Int) : ByteArray := uintB (zig v)
theorem intB_size {v : Int} (h0 : -9223372036854775808 ≤ v) (h1 : v ≤ 9223372036854775807) : (intB v).size ≤ 10 := uintB_size (zig_lt h0 h1)
def textB (s : ByteArray) : ByteArray := uintB s.size ++ s
end Go.Proofs.Base
/-
  What a number at the head of bytes is (layer 1); no program.
-/
set_option linter.unusedVariables false
set_option linter.unusedSimpArgs false
namespace Go.Proofs.Base
open Go Go.RowKit
def numGo : List UInt8 → Nat → Nat → Nat × Nat × Nat
  | [], _, _ => (0, 0, 2)
  | b :: r, i, v =>
    if (i = 9 ∧ 1 < b.toNat) ∨ (0 < i ∧ b.toNat = 0) then (0, 0, 3)
    else if b.toNat < 128 then (v + b.toNat % 128 * 128 ^ i, i + 1, 0)
    else numGo r (i + 1) (v + b.toNat % 128 * 128 ^ i)
def numM (l : List UInt8) : Nat × Nat × Nat := numGo l 0 0
theorem numGo_bad {b : UInt8} {r : List UInt8} {i v : Nat} (h : (i = 9 ∧ 1 < b.toNat) ∨ (0 < i ∧ b.toNat = 0)) : numGo (b :: r) i v = (0, 0, 3) := by rw [numGo, if_pos h]
theorem numGo_end {b : UInt8} {r : List UInt8} {i v : Nat} (h : ¬ ((i = 9 ∧ 1 < b.toNat) ∨ (0 < i ∧ b.toNat = 0))) (hb : b.toNat < 128) : numGo (b :: r) i v = (v + b.toNat % 128 * 128 ^ i, i + 1, 0) := by rw [numGo, if_neg h, if_pos hb]
theorem numGo_on {b : UInt8} {r : List UInt8} {i v : Nat} (h : ¬ ((i = 9 ∧ 1 < b.toNat) ∨ (0 < i ∧ b.toNat = 0))) (hb : ¬ b.toNat < 128) : numGo (b :: r) i v = numGo r (i + 1) (v + b.toNat % 128 * 128 ^ i) := by rw [numGo, if_neg h, if_neg hb]
theorem step_lt {v i b : Nat} (hv : v < 128 ^ i) (hb : b < 128) : v + b * 128 ^ i < 128 ^ (i + 1) := by
  have h1 : b * 128 ^ i ≤ 127 * 128 ^ i := Nat.mul_le_mul_right _ (by omega)
  rw [Nat.pow_succ]
  omega
theorem numGo_range : ∀ (l : List UInt8) (i v : Nat), i ≤ 9 → v < 128 ^ i → (numGo l i v).1 < 18446744073709551616 ∧ (numGo l i v).2.1 ≤ i + l.length ∧ (numGo l i v).2.1 ≤ 10
  | [], i, v, hi, hv => by simp [numGo]
  | b :: r, i, v, hi, hv => by
    by_cases h : (i = 9 ∧ 1 < b.toNat) ∨ (0 < i ∧ b.toNat = 0)
    · rw [numGo_bad h]; simp
    · by_cases hb : b.toNat < 128
      · rw [numGo_end h hb]
        refine ⟨?_, by simp <;> omega, by simp <;> omega⟩
        show v + b.toNat % 128 * 128 ^ i < _
        by_cases h9 : i = 9
        · subst h9
          have h1 : b.toNat % 128 * 128 ^ 9 ≤ 1 * 128 ^ 9 := Nat.mul_le_mul_right _ (by omega)
          have h2 : (128 : Nat) ^ 9 = 9223372036854775808 := by decide
          omega
        · have h1 := step_lt (b := b.toNat % 128) hv (by omega)
          have h2 : 128 ^ (i + 1) ≤ 128 ^ 9 := Nat.pow_le_pow_right (by omega) (by omega)
          have h3 : (128 : Nat) ^ 9 = 9223372036854775808 := by decide
          omega
      · rw [numGo_on h hb]
        have h1 := step_lt (b := b.toNat % 128) hv (by omega)
        obtain ⟨a1, a2, a3⟩ := numGo_range r (i + 1) (v + b.toNat % 128 * 128 ^ i) (by omega) h1
        exact ⟨a1, by simp; omega, a3⟩
theorem numM_range (l : List UInt8) : (numM l).1 < 18446744073709551616 ∧ (numM l).2.1 ≤ l.length ∧ (numM l).2.1 ≤ 10 := by
  have := numGo_range l 0 0 (by omega) (by simp)
  simpa [numM] using this
theorem toL_drop_cons {s : ByteArray} {k : Nat} (h : k < s.size) : (toL s).drop k = s[k] :: (toL s).drop (k + 1) := by
  rw [List.drop_eq_getElem_cons (by simpa using h)]
  rfl
def unzig (v : Nat) : Int := if v % 2 = 0 then (v / 2 : Nat) else -((v / 2 : Nat) : Int) - 1
end Go.Proofs.Base
namespace Go.Proofs.Base
open Go Go.RowKit
def takeM {α : Type} (z : α) (s : ByteArray) (e : Nat) (one : α × Nat × Nat) : α × ByteArray × Nat :=
  if e ≠ 0 then (z, s, e) else if one.2.2 ≠ 0 then (z, s, one.2.2) else (one.1, s.extract one.2.1 s.size, 0)
def byteOne (s : ByteArray) : Nat × Nat × Nat := if h : 0 < s.size then (s[0].toNat, 1, 0) else (0, 0, 2)
def intOne (s : ByteArray) : Int × Nat × Nat := (unzig (numM (toL s)).1, (numM (toL s)).2.1, (numM (toL s)).2.2)
def textOne (s : ByteArray) (most : Int) : ByteArray × Nat × Nat :=
  if (numM (toL s)).2.2 ≠ 0 then (ByteArray.empty, 0, (numM (toL s)).2.2)
  else if most < 0 ∨ most < (numM (toL s)).1 then (ByteArray.empty, 0, 13)
  else if s.size - (numM (toL s)).2.1 < (numM (toL s)).1 then (ByteArray.empty, 0, 2)
  else (s.extract (numM (toL s)).2.1 ((numM (toL s)).2.1 + (numM (toL s)).1), (numM (toL s)).2.1 + (numM (toL s)).1, 0)
def rdByte (s : ByteArray) (e : Nat) : Nat × ByteArray × Nat := takeM 0 s e (byteOne s)
def rdUint (s : ByteArray) (e : Nat) : Nat × ByteArray × Nat := takeM 0 s e (numM (toL s))
def rdInt (s : ByteArray) (e : Nat) : Int × ByteArray × Nat := takeM 0 s e (intOne s)
def rdText (most : Int) (s : ByteArray) (e : Nat) : ByteArray × ByteArray × Nat := takeM ByteArray.empty s e (textOne s most)
theorem takeM_wrong {α : Type} {z : α} {s : ByteArray} {e : Nat} {one : α × Nat × Nat} (h : e ≠ 0) : takeM z s e one = (z, s, e) := by rw [takeM, if_pos h]
theorem takeM_bad {α : Type} {z : α} {s : ByteArray} {one : α × Nat × Nat} (h : one.2.2 ≠ 0) : takeM z s 0 one = (z, s, one.2.2) := by rw [takeM, if_neg (by simp), if_pos h]
theorem takeM_ok {α : Type} {z : α} {s : ByteArray} {one : α × Nat × Nat} (h : one.2.2 = 0) : takeM z s 0 one = (one.1, s.extract one.2.1 s.size, 0) := by rw [takeM, if_neg (by simp), if_neg (by simp [h])]
theorem takeM_size {α : Type} (z : α) (s : ByteArray) (e : Nat) (one : α × Nat × Nat) : (takeM z s e one).2.1.size ≤ s.size := by
  unfold takeM
  split
  · exact Nat.le_refl _
  · split
    · exact Nat.le_refl _
    · simp
theorem byteOne_le {s : ByteArray} (h : (byteOne s).2.2 = 0) : (byteOne s).2.1 ≤ s.size := by
  unfold byteOne at *
  split <;> simp_all <;> omega
theorem textOne_le {s : ByteArray} {most : Int} (h : (textOne s most).2.2 = 0) : (textOne s most).2.1 ≤ s.size := by
  have h1 := numM_range (toL s)
  rw [toL_length] at h1
  unfold textOne at h ⊢
  by_cases a : (numM (toL s)).2.2 ≠ 0
  · rw [if_pos a] at h ⊢; exact Nat.zero_le _
  · rw [if_neg a] at h ⊢
    by_cases b : most < 0 ∨ most < (numM (toL s)).1
    · rw [if_pos b] at h ⊢; exact Nat.zero_le _
    · rw [if_neg b] at h ⊢
      by_cases c : s.size - (numM (toL s)).2.1 < (numM (toL s)).1
      · rw [if_pos c] at h ⊢; exact Nat.zero_le _
      · rw [if_neg c] at h ⊢
        show (numM (toL s)).2.1 + (numM (toL s)).1 ≤ s.size
        omega
end Go.Proofs.Base
/-
  The walks of wire's reader.
-/
set_option linter.unusedVariables false
set_option linter.unusedSimpArgs false
namespace Go.Proofs.YthhgfdejadbigaaDoor
open Go Go.RowKit Go.Proofs.Base
def Rdr (w : World) (g : Nat) (s : ByteArray) (e : Nat) : Prop := w.heap[g]? = some (.cells #[.string s, .int .i64 e] 95 (0, 0))
theorem Rdr.facts {w : World} {g : Nat} {s : ByteArray} {e : Nat} (h : Rdr w g s e) : w.cell? ⟨g, 0, none⟩ = some (.string s) ∧ w.cell? ⟨g, 1, none⟩ = some (.int .i64 e) ∧ w.frozen? ⟨g, 0, none⟩ = false ∧ w.frozen? ⟨g, 1, none⟩ = false ∧ g < w.heap.size :=
  ⟨cell_of_blk h 0, cell_of_blk h 1, frozen_of_blk h 0, frozen_of_blk h 1, lt_of_blk h⟩
theorem and127 (b : UInt8) : bits .and .u8 (b.toNat : Int) 127 = ((b.toNat % 128 : Nat) : Int) := by
  have h : ∀ m : Fin 256, bits .and .u8 ((m.val : Nat) : Int) 127 = ((m.val % 128 : Nat) : Int) := by decide +kernel
  exact h ⟨b.toNat, b.toNat_lt⟩
theorem or_step (v k : Nat) (b : UInt8) (hv : v < 128 ^ k) (hk : k ≤ 9) (hb : k = 9 → b.toNat ≤ 1) (m : Int) (hm : m = 2 ^ (7 * k)) :
    bits .or .u64 (v : Int) (IntKind.u64.wrap (IntKind.u64.wrap (bits .and .u8 (b.toNat : Int) 127) * m)) = ((v + b.toNat % 128 * 128 ^ k : Nat) : Int) := by
  subst hm
  have hw : ∀ x : Int, IntKind.u64.wrap x = x % 18446744073709551616 := fun x => by simp [IntKind.wrap, IntKind.bits, IntKind.signed]
  have e7 : (2 : Int) ^ (7 * k) = ((128 ^ k : Nat) : Int) := by rw [Int.pow_mul]; simp
  have hlt : b.toNat % 128 * 128 ^ k < 18446744073709551616 ∧ v < 18446744073709551616 := by
    have h3 : (128 : Nat) ^ 9 = 9223372036854775808 := by decide
    by_cases h9 : k = 9
    · subst h9
      have h1 : b.toNat % 128 * 128 ^ 9 ≤ 1 * 128 ^ 9 := Nat.mul_le_mul_right _ (by have := hb rfl; omega)
      omega
    · have h1 := step_lt (b := b.toNat % 128) hv (by omega)
      have h2 : 128 ^ (k + 1) ≤ 128 ^ 9 := Nat.pow_le_pow_right (by omega) (by omega)
      omega
  rw [and127, e7, hw, hw]
  have e1 : ((b.toNat % 128 : Nat) : Int) % 18446744073709551616 = ((b.toNat % 128 : Nat) : Int) := by omega
  rw [e1, ← Int.natCast_mul]
  have e2 : ((b.toNat % 128 * 128 ^ k : Nat) : Int) % 18446744073709551616 = ((b.toNat % 128 * 128 ^ k : Nat) : Int) := by
    generalize b.toNat % 128 * 128 ^ k = q at hlt ⊢
    omega
  rw [e2, u64_or_nat _ _ hlt.2 hlt.1]
  have e128 : 128 ^ k = 2 ^ (7 * k) := by rw [Nat.pow_mul]
  rw [e128, ← Nat.shiftLeft_eq, Nat.or_comm, Nat.add_comm, Nat.shiftLeft_add_eq_or_of_lt (by rw [← e128]; exact hv)]
set_option maxRecDepth 100000 in
set_option maxHeartbeats 1000000 in
theorem rd_number (g : Nat) (s : ByteArray) (e0 : Nat) (w : World) (hr : Rdr w g s e0) (hs : s.size ≤ 9223372036854775807) :
    Calls Tryd.prog 77 #[.pointer (some ⟨g, 0, none⟩)] w fun e w' => e = .returned (.tuple #[.int .u64 (numM (toL s)).1, .int .i64 (numM (toL s)).2.1, .int .i64 (numM (toL s)).2.2]) ∧ w = w' := by
  obtain ⟨c0, c1, f0, f1, hg⟩ := hr.facts
  have HM : Hid (numM (toL s) = numGo ((toL s).drop 0) 0 0) := Lib.hid rfl
  clear hr c1 f0 f1
  go_enter Tryd.func77, Tryd.ntmps77
  go_wp2_with fail
  go_loop [5, 6, 7, 13] (fun a _ _ i => ∃ (k v : Nat), k ≤ s.size ∧ k ≤ 9 ∧ i = .int .i64 k ∧ a = .int .u64 v ∧ v < 128 ^ k ∧ Hid (numM (toL s) = numGo ((toL s).drop k) k v)) (fun _ _ _ i => s.size - (intOf i).toNat)
  case atStart => exact ⟨0, 0, by omega, by omega, rfl, rfl, by simp, HM⟩
  case round =>
    obtain ⟨k, v, hk, hk9, rfl, rfl, hv, HN⟩ := hrel
    by_cases hlt : k < s.size
    · have hN := HN.out
      rw [toL_drop_cons hlt] at hN
      have HN2 := Lib.hid hN
      clear hN HN
      have hb := s[k].toNat_lt
      by_cases hbad : (k = 9 ∧ 1 < s[k].toNat) ∨ (0 < k ∧ s[k].toNat = 0)
      · have h9 := HN2.out
        rw [numGo_bad hbad] at h9
        have H9 := Lib.hid h9
        clear h9 HN2
        rcases hbad with ⟨rfl, h2⟩ | ⟨h1, h2⟩
        · have h2' : (1 : Int) < s[9].toNat := by omega
          go_wp2_with fail
          go_ret3
          exact ⟨by rw [H9.out]; rfl, rfl⟩
        · have h3 : ((s[k].toNat : Int) == 0) = true := by rw [h2]; rfl
          have h4 : ((k : Int) == 9) = true ∨ ((k : Int) == 9) = false := by cases ((k : Int) == 9) <;> simp
          have h5 : ¬ (1 : Int) < s[k].toNat := by omega
          clear h2
          rcases h4 with h4 | h4
          all_goals
            go_wp2_with fail
            go_ret3
            exact ⟨by rw [H9.out]; rfl, rfl⟩
      · have hbn : ¬ (k = 9 ∧ 1 < s[k].toNat) ∧ ¬ (0 < k ∧ s[k].toNat = 0) := ⟨fun h => hbad (.inl h), fun h => hbad (.inr h)⟩
        have Hb := Lib.hid hbad
        have hb9 : k = 9 → s[k].toNat ≤ 1 := by omega
        have Hb9 := Lib.hid hb9
        clear hbad hb9
        by_cases h128 : s[k].toNat < 128
        · have h9 := HN2.out
          rw [numGo_end Hb.out h128] at h9
          have H9 := Lib.hid h9
          clear h9 HN2
          go_wp2_with fail
          · obtain rfl : k = 9 := by omega
            go_ret3
            exact ⟨ret3 (by rw [H9.out]; exact vint (or_step v 9 s[9] hv hk9 Hb9.out _ (by decide))) (by rw [H9.out]; rfl) (by rw [H9.out]; rfl), rfl⟩
          all_goals
            go_ret3
            exact ⟨ret3 (by rw [H9.out]; exact vint (or_step v k s[k] hv hk9 Hb9.out _ rfl)) (by rw [H9.out]; exact vint (by simp)) (by rw [H9.out]; rfl), rfl⟩
        · have h9 := HN2.out
          rw [numGo_on Hb.out h128] at h9
          have H9 := Lib.hid h9
          clear h9 HN2
          have hk8 : k ≠ 9 := fun h => by have := Hb9.out h; omega
          go_wp2_with fail
          all_goals
            go_round
            case rel => exact ⟨k + 1, v + s[k].toNat % 128 * 128 ^ k, by omega, by omega, by go_num, vint (or_step v k s[k] hv hk9 Hb9.out _ rfl), step_lt hv (by omega), H9⟩
            case measure => simp [intOf]; omega
    · go_wp2_with fail
      go_ret3
      have h9 := HN.out
      rw [List.drop_eq_nil_of_le (by simp; omega)] at h9
      exact ⟨by rw [h9]; rfl, rfl⟩
theorem Rdr.set0 {w : World} {g : Nat} {s : ByteArray} {e : Nat} (h : Rdr w g s e) (s' : ByteArray) : Rdr (w.setCell ⟨g, 0, none⟩ (.string s')) g s' e := set_blk h _
theorem Rdr.set1 {w : World} {g : Nat} {s : ByteArray} {e : Nat} (h : Rdr w g s e) (e' : Nat) : Rdr (w.setCell ⟨g, 1, none⟩ (.int .i64 e')) g s e' := set_blk h _
theorem Rdr.alloc {w : World} {g : Nat} {s : ByteArray} {e : Nat} (h : Rdr w g s e) (o : Obj) : Rdr (w.alloc o) g s e := block_below ((Below.refl _ _).alloc (Nat.le_refl _) _) h
theorem mut0 (w : World) (g o : Nat) (v : Value) : Mut (fun b => b = g) w (w.setCell ⟨g, o, none⟩ v) := Mut.setCell (T := fun b => b = g) (Mut.refl _ w) (p := ⟨g, o, none⟩) (fun _ => rfl) v
set_option maxHeartbeats 1000000 in
theorem rd_byte1 (g : Nat) (s : ByteArray) (e0 : Nat) (w : World) (hr : Rdr w g s e0) (hs : s.size ≤ 9223372036854775807) :
    Calls Tryd.prog 74 #[.pointer (some ⟨g, 0, none⟩)] w fun e w' => e = .returned (.tuple #[.int .u8 (byteOne s).1, .int .i64 (byteOne s).2.1, .int .i64 (byteOne s).2.2]) ∧ w = w' := by
  obtain ⟨c0, c1, f0, f1, hg⟩ := hr.facts
  go_enter Tryd.func74, Tryd.ntmps74
  by_cases h : 0 < s.size
  · have he := emp_false h
    go_wp2
    go_ret3
    unfold byteOne
    rw [dif_pos h]
    exact ⟨rfl, rfl⟩
  · have he := emp_true (s := s) (by omega)
    go_wp2
    go_ret3
    unfold byteOne
    rw [dif_neg h]
    exact ⟨rfl, rfl⟩
set_option maxHeartbeats 1000000 in
theorem rd_Byte (g : Nat) (s : ByteArray) (e0 : Nat) (w : World) (hr : Rdr w g s e0) (hs : s.size ≤ 9223372036854775807) :
    Calls Tryd.prog 57 #[.pointer (some ⟨g, 0, none⟩)] w fun e w' => e = .returned (.int .u8 (rdByte s e0).1) ∧ Rdr w' g (rdByte s e0).2.1 (rdByte s e0).2.2 ∧ Mut (fun b => b = g) w w' := by
  have HC := Lib.hid (fun (w : World) (hr : Rdr w g s e0) => rd_byte1 g s e0 w hr hs)
  have hle : (byteOne s).2.2 = 0 → (byteOne s).2.1 ≤ s.size := byteOne_le
  unfold rdByte
  generalize byteOne s = one at *
  obtain ⟨c0, c1, f0, f1, hg⟩ := hr.facts
  have HR := Lib.hid hr
  clear hr
  by_cases h0 : e0 = 0
  · subst h0
    by_cases h1 : one.2.2 = 0
    · have hn := hle h1
      have hb := bne_f (a := (one.2.2 : Int)) (b := 0) (by omega)
      have H1 := Lib.hid h1
      clear h1 hle
      go_enter Tryd.func57, Tryd.ntmps57
      go_wp2_with (first | (go_at_call 73; go_in) | (go_at_call 74; refine (HC.out _ HR.out).mono ?_; rintro e w1 ⟨rfl, rfl⟩))
      go_ret
      rw [takeM_ok H1.out]
      exact ⟨rfl, HR.out.set0 _, mut0 _ _ _ _⟩
    · have hb := bne_t (a := (one.2.2 : Int)) (b := 0) (by omega)
      have H1 := Lib.hid h1
      clear h1 hle
      go_enter Tryd.func57, Tryd.ntmps57
      go_wp2_with (first | (go_at_call 73; go_in) | (go_at_call 74; refine (HC.out _ HR.out).mono ?_; rintro e w1 ⟨rfl, rfl⟩))
      go_ret
      rw [takeM_bad H1.out]
      exact ⟨rfl, HR.out.set1 _, mut0 _ _ _ _⟩
  · have hb := bne_t (a := (e0 : Int)) (b := 0) (by omega)
    have H0 := Lib.hid h0
    clear h0
    go_enter Tryd.func57, Tryd.ntmps57
    go_wp2_with (first | (go_at_call 73; go_in))
    go_ret
    rw [takeM_wrong H0.out]
    exact ⟨rfl, HR.out, Mut.refl _ _⟩
set_option maxHeartbeats 1000000 in
theorem rd_Uint (g : Nat) (s : ByteArray) (e0 : Nat) (w : World) (hr : Rdr w g s e0) (hs : s.size ≤ 9223372036854775807) :
    Calls Tryd.prog 64 #[.pointer (some ⟨g, 0, none⟩)] w fun e w' => e = .returned (.int .u64 (rdUint s e0).1) ∧ Rdr w' g (rdUint s e0).2.1 (rdUint s e0).2.2 ∧ Mut (fun b => b = g) w w' := by
  have HC := Lib.hid (fun (w : World) (hr : Rdr w g s e0) => rd_number g s e0 w hr hs)
  have hle : (numM (toL s)).2.2 = 0 → (numM (toL s)).2.1 ≤ s.size := fun _ => by have := numM_range (toL s); rw [toL_length] at this; omega
  unfold rdUint
  generalize numM (toL s) = one at *
  obtain ⟨c0, c1, f0, f1, hg⟩ := hr.facts
  have HR := Lib.hid hr
  clear hr
  by_cases h0 : e0 = 0
  · subst h0
    by_cases h1 : one.2.2 = 0
    · have hn := hle h1
      have hb := bne_f (a := (one.2.2 : Int)) (b := 0) (by omega)
      have H1 := Lib.hid h1
      clear h1 hle
      go_enter Tryd.func64, Tryd.ntmps64
      go_wp2_with (first | (go_at_call 80; go_in) | (go_at_call 77; refine (HC.out _ HR.out).mono ?_; rintro e w1 ⟨rfl, rfl⟩))
      go_ret
      rw [takeM_ok H1.out]
      exact ⟨rfl, HR.out.set0 _, mut0 _ _ _ _⟩
    · have hb := bne_t (a := (one.2.2 : Int)) (b := 0) (by omega)
      have H1 := Lib.hid h1
      clear h1 hle
      go_enter Tryd.func64, Tryd.ntmps64
      go_wp2_with (first | (go_at_call 80; go_in) | (go_at_call 77; refine (HC.out _ HR.out).mono ?_; rintro e w1 ⟨rfl, rfl⟩))
      go_ret
      rw [takeM_bad H1.out]
      exact ⟨rfl, HR.out.set1 _, mut0 _ _ _ _⟩
  · have hb := bne_t (a := (e0 : Int)) (b := 0) (by omega)
    have H0 := Lib.hid h0
    clear h0
    go_enter Tryd.func64, Tryd.ntmps64
    go_wp2_with (first | (go_at_call 80; go_in))
    go_ret
    rw [takeM_wrong H0.out]
    exact ⟨rfl, HR.out, Mut.refl _ _⟩
end Go.Proofs.YthhgfdejadbigaaDoor
/-
  The walks of wire's reader: numbers with a sign, texts, why it is wrong.
-/
set_option linter.unusedVariables false
set_option linter.unusedSimpArgs false
namespace Go.Proofs.YthhgfdejadbigaaDoor
open Go Go.RowKit Go.Proofs.Base
theorem xor_unzig (v : Nat) (hv : v < 18446744073709551616) (x : Int) (hx : x = wrap64 (-wrap64 (bits .and .u64 (v : Int) 1))) :
    bits .xor .i64 ((v : Int) / 2) x = unzig v := by
  subst hx
  have hw : ∀ x : Int, IntKind.i64.wrap x = (x + 9223372036854775808) % 18446744073709551616 - 9223372036854775808 := fun x => IntKind.wrap_i64 x
  have hb : ∀ a b : Int, bits .xor .i64 a b = IntKind.i64.wrap ((BitVec.ofInt 64 a ^^^ BitVec.ofInt 64 b).toNat : Int) := fun a b => rfl
  have e1 : bits .and .u64 (v : Int) 1 = ((v % 2 : Nat) : Int) := by
    have := u64_and_nat v 1 hv (by decide)
    rw [show ((1 : Nat) : Int) = 1 from rfl] at this
    rw [this, Nat.and_one_is_mod]
  rw [e1, hb, hw]
  unfold unzig
  have e2 : ((v : Int) / 2) = ((v / 2 : Nat) : Int) := by omega
  rw [e2]
  have hq : v / 2 < 9223372036854775808 := by omega
  by_cases h2 : v % 2 = 0
  · rw [h2, if_pos rfl]
    have e3 : wrap64 (-wrap64 ((0 : Nat) : Int)) = 0 := by unfold wrap64; omega
    have e4 : BitVec.ofInt 64 0 = 0#64 := by decide
    rw [e3, e4, BitVec.xor_zero, BitVec.toNat_ofInt]
    generalize v / 2 = q at hq
    omega
  · have h3 : v % 2 = 1 := by omega
    rw [h3, if_neg (by decide)]
    have e3 : wrap64 (-wrap64 ((1 : Nat) : Int)) = -1 := by unfold wrap64; omega
    have e4 : BitVec.ofInt 64 (-1) = BitVec.allOnes 64 := by decide
    rw [e3, e4, BitVec.xor_allOnes, BitVec.toNat_not, BitVec.toNat_ofInt]
    generalize v / 2 = q at hq
    omega
set_option maxHeartbeats 1000000 in
theorem rd_signed (g : Nat) (s : ByteArray) (e0 : Nat) (w : World) (hr : Rdr w g s e0) (hs : s.size ≤ 9223372036854775807) :
    Calls Tryd.prog 79 #[.pointer (some ⟨g, 0, none⟩)] w fun e w' => e = .returned (.tuple #[.int .i64 (intOne s).1, .int .i64 (intOne s).2.1, .int .i64 (intOne s).2.2]) ∧ w = w' := by
  have HC := Lib.hid (rd_number g s e0 w hr hs)
  have h1 := numM_range (toL s)
  unfold intOne
  generalize numM (toL s) = one at *
  clear hr
  go_enter Tryd.func79, Tryd.ntmps79
  go_wp2_with (go_at_call 77; refine HC.out.mono ?_; rintro e w1 ⟨rfl, rfl⟩)
  go_ret3
  exact ⟨ret3 (vint (xor_unzig _ h1.1 _ rfl)) rfl rfl, rfl⟩
set_option maxHeartbeats 1000000 in
theorem rd_Text1 (g B1 B2 : Nat) (s : ByteArray) (e0 : Nat) (most : Int) (w : World) (hr : Rdr w g s e0) (hs : s.size ≤ 9223372036854775807) (hc1 : w.cell? ⟨B1, 0, none⟩ = some (.pointer (some ⟨g, 0, none⟩))) (hc2 : w.cell? ⟨B2, 0, none⟩ = some (.int .i64 most)) (hm0 : -9223372036854775808 ≤ most) (hm : most ≤ 9223372036854775807) :
    Calls Tryd.prog 76 #[.pointer (some ⟨B1, 0, none⟩), .pointer (some ⟨B2, 0, none⟩)] w fun e w' => e = .returned (.tuple #[.string (textOne s most).1, .int .i64 (textOne s most).2.1, .int .i64 (textOne s most).2.2]) ∧ w = w' := by
  obtain ⟨c0, c1, f0, f1, hg⟩ := hr.facts
  have HC := Lib.hid (rd_number g s e0 w hr hs)
  have h1 := numM_range (toL s)
  rw [toL_length] at h1
  unfold textOne
  generalize numM (toL s) = one at *
  clear hr c1 f0 f1
  by_cases h2 : one.2.2 = 0
  · have hb := bne_f (a := (one.2.2 : Int)) (b := 0) (by omega)
    rw [if_neg (by omega : ¬ one.2.2 ≠ 0)]
    by_cases h3 : most < 0
    · rw [if_pos (.inl h3)]
      have H2 := Lib.hid h2
      clear h2
      go_enter Tryd.func76, Tryd.ntmps76
      go_wp2_with (go_at_call 77; refine HC.out.mono ?_; rintro e w1 ⟨rfl, rfl⟩)
      go_ret3
      exact ⟨rfl, rfl⟩
    · by_cases h4 : most < one.1
      · rw [if_pos (.inr h4)]
        have H2 := Lib.hid h2
        clear h2
        go_enter Tryd.func76, Tryd.ntmps76
        go_wp2_with (go_at_call 77; refine HC.out.mono ?_; rintro e w1 ⟨rfl, rfl⟩)
        go_ret3
        exact ⟨rfl, rfl⟩
      · rw [if_neg (by omega : ¬ (most < 0 ∨ most < one.1))]
        by_cases h5 : s.size - one.2.1 < one.1
        · rw [if_pos h5]
          have H2 := Lib.hid h2
          clear h2
          go_enter Tryd.func76, Tryd.ntmps76
          go_wp2_with (go_at_call 77; refine HC.out.mono ?_; rintro e w1 ⟨rfl, rfl⟩)
          go_ret3
          exact ⟨rfl, rfl⟩
        · rw [if_neg h5]
          have H2 := Lib.hid h2
          clear h2
          go_enter Tryd.func76, Tryd.ntmps76
          go_wp2_with (go_at_call 77; refine HC.out.mono ?_; rintro e w1 ⟨rfl, rfl⟩)
          go_ret3
          exact ⟨ret3 rfl (vint (by simp)) rfl, rfl⟩
  · have hb := bne_t (a := (one.2.2 : Int)) (b := 0) (by omega)
    rw [if_pos h2]
    have H2 := Lib.hid h2
    clear h2
    go_enter Tryd.func76, Tryd.ntmps76
    go_wp2_with (go_at_call 77; refine HC.out.mono ?_; rintro e w1 ⟨rfl, rfl⟩)
    go_ret3
    exact ⟨rfl, rfl⟩
set_option maxHeartbeats 1000000 in
theorem rd_Int (g : Nat) (s : ByteArray) (e0 : Nat) (w : World) (hr : Rdr w g s e0) (hs : s.size ≤ 9223372036854775807) :
    Calls Tryd.prog 59 #[.pointer (some ⟨g, 0, none⟩)] w fun e w' => e = .returned (.int .i64 (rdInt s e0).1) ∧ Rdr w' g (rdInt s e0).2.1 (rdInt s e0).2.2 ∧ Mut (fun b => b = g) w w' := by
  have HC := Lib.hid (fun (w : World) (hr : Rdr w g s e0) => rd_signed g s e0 w hr hs)
  have hle : (intOne s).2.2 = 0 → (intOne s).2.1 ≤ s.size := fun _ => by have := numM_range (toL s); rw [toL_length] at this; unfold intOne; show (numM (toL s)).2.1 ≤ _; omega
  unfold rdInt
  generalize intOne s = one at *
  obtain ⟨c0, c1, f0, f1, hg⟩ := hr.facts
  have HR := Lib.hid hr
  clear hr
  by_cases h0 : e0 = 0
  · subst h0
    by_cases h1 : one.2.2 = 0
    · have hn := hle h1
      have hb := bne_f (a := (one.2.2 : Int)) (b := 0) (by omega)
      have H1 := Lib.hid h1
      clear h1 hle
      go_enter Tryd.func59, Tryd.ntmps59
      go_wp2_with (first | (go_at_call 78; go_in) | (go_at_call 79; refine (HC.out _ HR.out).mono ?_; rintro e w1 ⟨rfl, rfl⟩))
      go_ret
      rw [takeM_ok H1.out]
      exact ⟨rfl, HR.out.set0 _, mut0 _ _ _ _⟩
    · have hb := bne_t (a := (one.2.2 : Int)) (b := 0) (by omega)
      have H1 := Lib.hid h1
      clear h1 hle
      go_enter Tryd.func59, Tryd.ntmps59
      go_wp2_with (first | (go_at_call 78; go_in) | (go_at_call 79; refine (HC.out _ HR.out).mono ?_; rintro e w1 ⟨rfl, rfl⟩))
      go_ret
      rw [takeM_bad H1.out]
      exact ⟨rfl, HR.out.set1 _, mut0 _ _ _ _⟩
  · have hb := bne_t (a := (e0 : Int)) (b := 0) (by omega)
    have H0 := Lib.hid h0
    clear h0
    go_enter Tryd.func59, Tryd.ntmps59
    go_wp2_with (first | (go_at_call 78; go_in))
    go_ret
    rw [takeM_wrong H0.out]
    exact ⟨rfl, HR.out, Mut.refl _ _⟩
set_option maxHeartbeats 1000000 in
theorem rd_Text (g : Nat) (s : ByteArray) (e0 : Nat) (most : Int) (w : World) (hr : Rdr w g s e0) (hs : s.size ≤ 9223372036854775807) (hm0 : -9223372036854775808 ≤ most) (hm : most ≤ 9223372036854775807) :
    Calls Tryd.prog 58 #[.pointer (some ⟨g, 0, none⟩), .int .i64 most] w fun e w' => e = .returned (.string (rdText most s e0).1) ∧ Rdr w' g (rdText most s e0).2.1 (rdText most s e0).2.2 ∧ Mut (fun b => b = g) w w' := by
  have hb2 : Below w.heap.size w ((w.alloc (.cells #[.pointer (some ⟨g, 0, none⟩)] 48)).alloc (.cells #[.int .i64 most] 3)) := ((Below.refl _ _).alloc (Nat.le_refl _) _).alloc (by simp) _
  have hr2 : Rdr ((w.alloc (.cells #[.pointer (some ⟨g, 0, none⟩)] 48)).alloc (.cells #[.int .i64 most] 3)) g s e0 := block_below hb2 hr
  have HC2 := Lib.hid (rd_Text1 g w.heap.size (w.heap.size + 1) s e0 most _ hr2 hs (by simp) (by simp) hm0 hm)
  have hle : (textOne s most).2.2 = 0 → (textOne s most).2.1 ≤ s.size := textOne_le
  unfold rdText
  generalize textOne s most = one at *
  obtain ⟨c0, c1, f0, f1, hg⟩ := hr.facts
  have HR := Lib.hid hr
  have HR2 := Lib.hid hr2
  have HB2 := Lib.hid hb2
  clear hr hr2 hb2
  by_cases h0 : e0 = 0
  · subst h0
    by_cases h1 : one.2.2 = 0
    · have hn := hle h1
      have hb := bne_f (a := (one.2.2 : Int)) (b := 0) (by omega)
      have H1 := Lib.hid h1
      clear h1 hle
      go_enter Tryd.func58, Tryd.ntmps58
      go_wp2_with (first | (go_at_call 75; go_in) | (go_at_call 76; refine HC2.out.mono ?_; rintro e w1 ⟨rfl, rfl⟩))
      go_ret
      rw [takeM_ok H1.out]
      exact ⟨rfl, ((HR.out.set0 _).alloc _).alloc _, ((mut0 _ _ _ _).alloc _).alloc _⟩
    · have hb := bne_t (a := (one.2.2 : Int)) (b := 0) (by omega)
      have H1 := Lib.hid h1
      clear h1 hle
      go_enter Tryd.func58, Tryd.ntmps58
      go_wp2_with (first | (go_at_call 75; go_in) | (go_at_call 76; refine HC2.out.mono ?_; rintro e w1 ⟨rfl, rfl⟩))
      go_ret
      rw [takeM_bad H1.out]
      exact ⟨rfl, ((HR.out.set1 _).alloc _).alloc _, ((mut0 _ _ _ _).alloc _).alloc _⟩
  · have hb := bne_t (a := (e0 : Int)) (b := 0) (by omega)
    have H0 := Lib.hid h0
    clear h0
    go_enter Tryd.func58, Tryd.ntmps58
    go_wp2_with (first | (go_at_call 75; go_in))
    go_ret
    rw [takeM_wrong H0.out]
    exact ⟨rfl, HR2.out, Mut.of_below HB2.out _⟩
set_option maxHeartbeats 1000000 in
theorem rd_Err (g : Nat) (s : ByteArray) (e0 : Nat) (w : World) (hr : Rdr w g s e0) :
    Calls Tryd.prog 60 #[.pointer (some ⟨g, 0, none⟩)] w fun e w' => e = .returned (.int .i64 e0) ∧ w = w' := by
  obtain ⟨c0, c1, f0, f1, hg⟩ := hr.facts
  go_enter Tryd.func60, Tryd.ntmps60
  go_wp2
  go_ret
  exact ⟨rfl, rfl⟩
set_option maxHeartbeats 1000000 in
theorem wire_Read (s : ByteArray) (w : World) :
    Calls Tryd.prog 31 #[.string s] w fun e w' => e = .returned (.pointer (some ⟨w.heap.size, 0, none⟩)) ∧ Rdr w' w.heap.size s 0 ∧ Below w.heap.size w w' := by
  go_enter Tryd.func31, Tryd.ntmps31
  go_wp2
  go_ret
  exact ⟨rfl, heap_alloc_new w _, (Below.refl _ _).alloc (Nat.le_refl _) _⟩
end Go.Proofs.YthhgfdejadbigaaDoor
/-
  Values and variables (layer 9), as plain functions; no program.
-/
set_option linter.unusedVariables false
set_option linter.unusedSimpArgs false
namespace Go.Proofs.Base
open Go Go.RowKit
def i64 (n : Int) : Prop := -9223372036854775808 ≤ n ∧ n ≤ 9223372036854775807
def u64 (n : Int) : Prop := 0 ≤ n ∧ n ≤ 18446744073709551615
def okS (s : ByteArray) : Prop := s.size ≤ 140737488351232
structure GVal where
  k : Int
  n : Int
  s : ByteArray
structure GVar where
  name : ByteArray
  v : GVal
@[ext] theorem GVal.ext {a b : GVal} (h1 : a.k = b.k) (h2 : a.n = b.n) (h3 : a.s = b.s) : a = b := by cases a; cases b; simp_all
@[ext] theorem GVar.ext {a b : GVar} (h1 : a.name = b.name) (h2 : a.v = b.v) : a = b := by cases a; cases b; simp_all
def GVal.wf (v : GVal) : Prop := i64 v.k ∧ i64 v.n ∧ okS v.s
def GVar.wf (v : GVar) : Prop := okS v.name ∧ v.v.wf
def GVal.cells (v : GVal) : List Value := [.int .i64 v.k, .int .i64 v.n, .string v.s]
def GVar.cells (v : GVar) : List Value := [.string v.name, .int .i64 v.v.k, .int .i64 v.v.n, .string v.v.s]
def GVar.val (v : GVar) : Value := .agg #[.string v.name, .int .i64 v.v.k, .int .i64 v.v.n, .string v.v.s]
def GVal.val (v : GVal) : Value := .agg #[.int .i64 v.k, .int .i64 v.n, .string v.s]
def varCells (l : List GVar) : List Value := l.flatMap GVar.cells
def zeroV : GVal := ⟨0, 0, ByteArray.empty⟩
def mayV (k n : Int) (s : ByteArray) : Bool :=
  if k = 3 then decide (n = 0) && decide (s.size ≤ 1024)
  else if k = 2 then (decide (n = 0) || decide (n = 1)) && decide (s.size = 0)
  else if k = 1 then decide (s.size = 0) else false
def GVal.may (v : GVal) : Bool := mayV v.k v.n v.s
def nameB (c : UInt8) : Bool := (decide (97 ≤ c.toNat) && decide (c.toNat ≤ 122)) || (decide (48 ≤ c.toNat) && decide (c.toNat ≤ 57)) || decide (c.toNat = 95)
def letterB (c : UInt8) : Bool := decide (97 ≤ c.toNat) && decide (c.toNat ≤ 122)
def words : List (List UInt8) := [[97, 110, 100], [111, 114], [110, 111, 116], [116, 114, 117, 101], [102, 97, 108, 115, 101], [108, 101, 110]]
def named (s : ByteArray) : Bool :=
  match toL s with
  | [] => false
  | c :: r => decide (s.size ≤ 32) && letterB c && r.all nameB && !words.contains (c :: r)
def wordBs : List ByteArray := words.map ofL
theorem named_nil {s : ByteArray} (h : ¬ 0 < s.size) : named s = false := by
  have : toL s = [] := List.eq_nil_of_length_eq_zero (by rw [toL_length]; omega)
  unfold named; rw [this]
theorem named_cons {s : ByteArray} (h : 0 < s.size) : named s = (decide (s.size ≤ 32) && letterB s[0] && ((toL s).drop 1).all nameB && !(wordBs.any fun y => s.toList == y.toList)) := by
  have h1 : toL s = s[0] :: (toL s).drop 1 := by have := toL_drop_cons (s := s) (k := 0) h; simpa using this
  have h2 : words.contains (toL s) = wordBs.any fun y => s.toList == y.toList := by
    rw [toList_toL, wordBs, List.any_map]
    rw [List.contains_eq_any_beq]
    apply congrArg (fun f => words.any f)
    funext l
    simp [toList_toL]
  unfold named
  rw [← h2]
  generalize (toL s).drop 1 = r at *
  rw [h1]
def valB (k n : Int) (s : ByteArray) : ByteArray := if mayV k n s then ofN [k.toNat] ++ (if k = 3 then textB s else intB n) else ByteArray.empty
def GVal.bytes (v : GVal) : ByteArray := valB v.k v.n v.s
def lessS (a b : ByteArray) : Bool := Op.bytesLess a.toList b.toList
def rightFrom : Option ByteArray → List GVar → Bool
  | _, [] => true
  | p, x :: r => named x.name && x.v.may && (match p with | none => true | some q => lessS q x.name) && rightFrom (some x.name) r
def rightV (l : List GVar) : Bool := decide (l.length ≤ 16) && rightFrom none l
theorem varCells_at {l : List GVar} {i : Nat} (h : i < l.length) : (varCells l)[i * 4 + 0]? = some (.string l[i].name) ∧ (varCells l)[i * 4 + 1]? = some (.int .i64 l[i].v.k) ∧ (varCells l)[i * 4 + 2]? = some (.int .i64 l[i].v.n) ∧ (varCells l)[i * 4 + 3]? = some (.string l[i].v.s) := by
  induction l generalizing i with
  | nil => simp at h
  | cons x r ih =>
    cases i with
    | zero => simp [varCells, GVar.cells]
    | succ i =>
      have h' : i < r.length := by simpa using h
      have e : ∀ j, (varCells (x :: r))[(i + 1) * 4 + j]? = (varCells r)[i * 4 + j]? := fun j => by
        have e1 : varCells (x :: r) = x.cells ++ varCells r := rfl
        have e2 : x.cells.length = 4 := rfl
        rw [e1, List.getElem?_append_right (by omega), e2]
        congr 1
        omega
      simp only [e, List.getElem_cons_succ]
      exact ih h'
theorem varCells_len (l : List GVar) : (varCells l).length = l.length * 4 := by
  induction l with
  | nil => rfl
  | cons x r ih =>
    have e1 : varCells (x :: r) = x.cells ++ varCells r := rfl
    have e2 : x.cells.length = 4 := rfl
    rw [e1, List.length_append, e2, ih, List.length_cons]
    omega
theorem mayV_k {k n : Int} {s : ByteArray} (h : mayV k n s = true) : (k = 1 ∨ k = 2 ∨ k = 3) ∧ s.size ≤ 1024 := by
  unfold mayV at h
  by_cases h3 : k = 3
  · rw [if_pos h3] at h
    simp only [Bool.and_eq_true, decide_eq_true_eq] at h
    exact ⟨.inr (.inr h3), h.2⟩
  · rw [if_neg h3] at h
    by_cases h2 : k = 2
    · rw [if_pos h2] at h
      simp only [Bool.and_eq_true, decide_eq_true_eq] at h
      exact ⟨.inr (.inl h2), by omega⟩
    · rw [if_neg h2] at h
      by_cases h1 : k = 1
      · rw [if_pos h1] at h
        simp only [decide_eq_true_eq] at h
        exact ⟨.inl h1, by omega⟩
      · rw [if_neg h1] at h; cases h
def varsCat : List GVar → ByteArray
  | [] => ByteArray.empty
  | x :: r => (textB x.name ++ x.v.bytes) ++ varsCat r
def varsB (l : List GVar) : ByteArray := if rightV l then uintB l.length ++ varsCat l else ByteArray.empty
theorem app_assoc (a b c : ByteArray) : a ++ b ++ c = a ++ (b ++ c) := toL_inj (by simp)
theorem app_empty (a : ByteArray) : a ++ ByteArray.empty = a := toL_inj (by rw [toL_append]; show toL a ++ [] = _; simp)
theorem empty_app (a : ByteArray) : ByteArray.empty ++ a = a := toL_inj (by rw [toL_append]; show [] ++ toL a = _; simp)
theorem app_size (a b : ByteArray) : (a ++ b).size = a.size + b.size := ByteArray.size_append
theorem valB_size {k n : Int} {s : ByteArray} (hn : i64 n) (h : mayV k n s = true) : (valB k n s).size ≤ 1100 := by
  obtain ⟨_, hs⟩ := mayV_k h
  unfold valB
  rw [if_pos h, app_size, ofN_size]
  split
  · have := uintB_size (v := s.size) (by omega)
    rw [textB, app_size]
    simp
    omega
  · have := intB_size hn.1 hn.2
    simp
    omega
theorem textB_size {s : ByteArray} (h : s.size ≤ 140737488351232) : (textB s).size ≤ s.size + 10 := by
  have := uintB_size (v := s.size) (by omega)
  rw [textB, app_size]
  omega
theorem named_size {s : ByteArray} (h : named s = true) : s.size ≤ 32 ∧ 0 < s.size := by
  by_cases h0 : 0 < s.size
  · rw [named_cons h0] at h
    simp only [Bool.and_eq_true, decide_eq_true_eq] at h
    exact ⟨h.1.1.1, h0⟩
  · rw [named_nil h0] at h; cases h
theorem rightFrom_all : ∀ (p : Option ByteArray) (l : List GVar), rightFrom p l = true → ∀ x ∈ l, named x.name = true ∧ x.v.may = true
  | _, [], _, x, hx => by cases hx
  | p, y :: r, h, x, hx => by
    simp only [rightFrom, Bool.and_eq_true] at h
    rcases List.mem_cons.1 hx with rfl | hx
    · exact ⟨h.1.1.1, h.1.1.2⟩
    · exact rightFrom_all _ r h.2 x hx
theorem rightV_all {l : List GVar} (h : rightV l = true) : l.length ≤ 16 ∧ ∀ x ∈ l, named x.name = true ∧ x.v.may = true := by
  unfold rightV at h
  simp only [Bool.and_eq_true, decide_eq_true_eq] at h
  exact ⟨h.1, rightFrom_all _ l h.2⟩
def takeRaw (s : ByteArray) (e : Nat) : GVal × ByteArray × Nat :=
  if (rdByte s e).1 = 3 then (⟨3, 0, (rdText 1024 (rdByte s e).2.1 (rdByte s e).2.2).1⟩, (rdText 1024 (rdByte s e).2.1 (rdByte s e).2.2).2)
  else (⟨(rdByte s e).1, (rdInt (rdByte s e).2.1 (rdByte s e).2.2).1, ByteArray.empty⟩, (rdInt (rdByte s e).2.1 (rdByte s e).2.2).2)
def takeOk (s : ByteArray) (e : Nat) : Bool := decide ((takeRaw s e).2.2 = 0) && (takeRaw s e).1.may
def takeV (s : ByteArray) (e : Nat) : GVal := if takeOk s e then (takeRaw s e).1 else zeroV
theorem rdByte_size (s : ByteArray) (e : Nat) : (rdByte s e).2.1.size ≤ s.size := takeM_size _ _ _ _
theorem rdUint_size (s : ByteArray) (e : Nat) : (rdUint s e).2.1.size ≤ s.size := takeM_size _ _ _ _
theorem rdInt_size (s : ByteArray) (e : Nat) : (rdInt s e).2.1.size ≤ s.size := takeM_size _ _ _ _
theorem rdText_size (m : Int) (s : ByteArray) (e : Nat) : (rdText m s e).2.1.size ≤ s.size := takeM_size _ _ _ _
theorem takeRaw_size (s : ByteArray) (e : Nat) : (takeRaw s e).2.1.size ≤ s.size := by
  have := rdByte_size s e
  unfold takeRaw
  split
  · exact Nat.le_trans (rdText_size _ _ _) this
  · exact Nat.le_trans (rdInt_size _ _) this
theorem rdByte_lt (s : ByteArray) (e : Nat) : (rdByte s e).1 < 256 := by
  unfold rdByte takeM
  split
  · show 0 < 256; omega
  · split
    · show 0 < 256; omega
    · show (byteOne s).1 < 256
      unfold byteOne
      split
      · exact UInt8.toNat_lt _
      · show 0 < 256; omega
theorem set_blk3 {w : World} {b : Nat} {x0 x1 x2 : Value} {t : TypeId} {f : Nat × Nat} (h : w.heap[b]? = some (.cells #[x0, x1, x2] t f)) (y0 y1 y2 : Value) :
    (((w.setCell ⟨b, 0, none⟩ y0).setCell ⟨b, 1, none⟩ y1).setCell ⟨b, 2, none⟩ y2).heap[b]? = some (.cells #[y0, y1, y2] t f) := set_blk (set_blk (set_blk h y0) y1) y2
def takeGo : Nat → ByteArray → Nat → List GVar → Option (List GVar) × ByteArray × Nat
  | 0, s, e, acc => (some acc, s, e)
  | m + 1, s, e, acc =>
    if takeOk (rdText 32 s e).2.1 (rdText 32 s e).2.2 then takeGo m (takeRaw (rdText 32 s e).2.1 (rdText 32 s e).2.2).2.1 (takeRaw (rdText 32 s e).2.1 (rdText 32 s e).2.2).2.2 (acc ++ [⟨(rdText 32 s e).1, takeV (rdText 32 s e).2.1 (rdText 32 s e).2.2⟩])
    else (none, (takeRaw (rdText 32 s e).2.1 (rdText 32 s e).2.2).2)
def takeFin : Option (List GVar) × ByteArray × Nat → Option (List GVar) × ByteArray × Nat
  | (none, s, e) => (none, s, e)
  | (some l, s, e) => if e = 0 ∧ rightV l = true then (some l, s, e) else (none, s, e)
def takeVars (s : ByteArray) (e : Nat) : Option (List GVar) × ByteArray × Nat :=
  if 16 < (rdUint s e).1 then (none, (rdUint s e).2) else takeFin (takeGo (rdUint s e).1 (rdUint s e).2.1 (rdUint s e).2.2 [])
theorem varCells_append (a b : List GVar) : varCells (a ++ b) = varCells a ++ varCells b := by simp [varCells]
theorem unzig_i64 {v : Nat} (h : v < 18446744073709551616) : i64 (unzig v) := by
  unfold unzig i64
  split <;> omega
theorem rdInt_i64 (s : ByteArray) (e : Nat) : i64 (rdInt s e).1 := by
  unfold rdInt takeM
  split
  · show i64 0; unfold i64; omega
  · split
    · show i64 0; unfold i64; omega
    · exact unzig_i64 (numM_range _).1
theorem rdUint_lt (s : ByteArray) (e : Nat) : (rdUint s e).1 < 18446744073709551616 := by
  unfold rdUint takeM
  split
  · show 0 < _; omega
  · split
    · show 0 < _; omega
    · exact (numM_range _).1
end Go.Proofs.Base
/-
  The walks of wire's writers: Uint, Int, Text.
-/
set_option linter.unusedVariables false
set_option linter.unusedSimpArgs false
namespace Go.Proofs.YthhgfdejadbigaaDoor
open Go Go.RowKit Go.Proofs.Base
theorem elBytes : ElemT Tryd.prog 62 5 1 1 := .of Tryd.underlying62 (z := .int .u8 0) (by kernel_rfl) rfl
theorem or128 (x : Int) (h0 : 0 ≤ x) (h1 : x < 256) : bits .or .u8 x 128 = x % 128 + 128 := by
  obtain ⟨n, rfl⟩ := Int.eq_ofNat_of_zero_le h0
  have hn : n < 256 := by omega
  have : ∀ m : Fin 256, bits .or .u8 ((m.val : Nat) : Int) 128 = ((m.val : Nat) : Int) % 128 + 128 := by decide +kernel
  exact this ⟨n, hn⟩
set_option maxRecDepth 100000 in
set_option maxHeartbeats 1000000 in
theorem wire_Uint (v : Int) (w : World) (h0 : 0 ≤ v) (h1 : v ≤ 18446744073709551615) :
    Calls Tryd.prog 55 #[.int .u64 v] w fun e w' => e = .returned (.string (uintB v.toNat)) ∧ Below w.heap.size w w' := by
  have H1 := Lib.hid h1
  have hlen : (uintN v.toNat).length ≤ 10 := uintN_len10 (by omega)
  have Hlen := Lib.hid hlen
  clear h1 hlen
  go_enter Tryd.func55, Tryd.ntmps55
  go_wp2_with fail
  go_loopw [0, 3] (fun a b wr => ∃ (u : Nat) (xs : List Nat), a = .int .u64 u ∧ (u : Int) ≤ v ∧ Hid (xs ++ uintN u = uintN v.toNat) ∧ wr.ownsRow w.heap.size 5 1 b xs.length (nums8 xs) ∧ Below w.heap.size w wr) (fun a _ _ => (intOf a).toNat)
  case atStart => exact ⟨v.toNat, [], by rw [Int.toNat_of_nonneg h0], by omega, Lib.hid rfl, own_nil _ _ _ _, Below.refl _ _⟩
  case round =>
    obtain ⟨u, xs, rfl, hu, HX, HO, HB⟩ := hrel
    have hl2 : xs.length + (uintN u).length ≤ 10 := by have := congrArg List.length HX.out; have h9 := Hlen.out; rw [List.length_append] at this; omega
    have hp := uintN_pos u
    by_cases hlt : 127 < u
    · have hlt' : (127 : Int) < u := by omega
      go_wp2_with (at_builtin; refine wp_app elBytes (by decide) rfl (.tmp 6) (.tmp 10) rfl w.heap.size _ xs.length (nums8 xs) [_] rfl rfl rfl (by simp [Value.oneCell']) HO HB HB.size (by omega) (by omega) ?_; intro v1 w1 HO1 HB1 hg1 hat1)
      go_roundw
      case rel =>
        have e1 : bits .or .u8 ((u : Int) % 256) 128 = ((u % 128 + 128 : Nat) : Int) := by rw [or128 _ (by omega) (by omega)]; omega
        have e2 : nums8 xs ++ [Value.int .u8 (bits .or .u8 ((u : Int) % 256) 128)] = nums8 (xs ++ [u % 128 + 128]) := by rw [e1, nums8_append]; rfl
        rw [e2] at HO1
        refine ⟨u / 128, xs ++ [u % 128 + 128], by go_num, by omega, ?_, by simpa using HO1, HB1⟩
        have h9 := HX.out
        rw [uintN_ge (by omega)] at h9
        exact Lib.hid (by rw [← h9]; simp)
      case measure => simp [intOf]; omega
    · have hlt' : ¬ (127 : Int) < u := by omega
      go_wp2_with (at_builtin; refine wp_app elBytes (by decide) rfl (.tmp 14) (.tmp 17) rfl w.heap.size _ xs.length (nums8 xs) [_] rfl rfl rfl (by simp [Value.oneCell']) HO HB HB.size (by omega) (by omega) ?_)
      intro v1 w1 HO1 HB1 hg1 hat1
      have hcv := own_string (P := Tryd.prog) Tryd.underlying62 Tryd.underlying5 Tryd.underlying9 (xs := xs ++ [u]) (by rw [nums8_append]; exact HO1)
      go_wp2
      go_ret
      have h9 := HX.out
      rw [uintN_lt (by omega)] at h9
      exact ⟨by rw [h9]; rfl, HB1⟩
theorem xor_zig (v : Int) (h0 : -9223372036854775808 ≤ v) (h1 : v ≤ 9223372036854775807) :
    bits .xor .u64 (IntKind.u64.wrap (IntKind.u64.wrap v * 2)) (IntKind.u64.wrap (v / 9223372036854775808)) = (zig v : Int) := by
  have hw : ∀ x : Int, IntKind.u64.wrap x = x % 18446744073709551616 := fun x => by simp [IntKind.wrap, IntKind.bits, IntKind.signed]
  have hb : ∀ a b : Int, bits .xor .u64 a b = IntKind.u64.wrap ((BitVec.ofInt 64 a ^^^ BitVec.ofInt 64 b).toNat : Int) := fun a b => rfl
  rw [hb]
  unfold zig
  by_cases hv : 0 ≤ v
  · have e1 : v / 9223372036854775808 = 0 := by omega
    have e2 : IntKind.u64.wrap (IntKind.u64.wrap v * 2) = 2 * v := by rw [hw, hw]; omega
    rw [e1, e2, if_pos hv, hw, hw]
    have e3 : BitVec.ofInt 64 (0 % 18446744073709551616) = 0#64 := by decide
    rw [e3, BitVec.xor_zero, BitVec.toNat_ofInt]
    omega
  · have e1 : v / 9223372036854775808 = -1 := by omega
    have e2 : IntKind.u64.wrap (IntKind.u64.wrap v * 2) = 2 * v + 18446744073709551616 := by rw [hw, hw]; omega
    rw [e1, e2, if_neg hv, hw, hw]
    have e3 : BitVec.ofInt 64 (-1 % 18446744073709551616) = BitVec.allOnes 64 := by decide
    rw [e3, BitVec.xor_allOnes, BitVec.toNat_not, BitVec.toNat_ofInt]
    omega
set_option maxHeartbeats 1000000 in
theorem wire_Int (v : Int) (w : World) (h0 : -9223372036854775808 ≤ v) (h1 : v ≤ 9223372036854775807) :
    Calls Tryd.prog 36 #[.int .i64 v] w fun e w' => e = .returned (.string (intB v)) ∧ Below w.heap.size w w' := by
  have hz := zig_lt h0 h1
  go_enter Tryd.func36, Tryd.ntmps36
  go_wp2_with fail
  rw [xor_zig v h0 h1]
  refine (wire_Uint _ _ (by omega) (by omega)).mono ?_
  rintro e w1 ⟨rfl, hb1⟩
  go_wp2
  go_ret
  exact ⟨by simp [intB], hb1⟩
set_option maxHeartbeats 1000000 in
theorem wire_Text (s : ByteArray) (w : World) (h1 : s.size ≤ 140737488351232) :
    Calls Tryd.prog 35 #[.string s] w fun e w' => e = .returned (.string (textB s)) ∧ Below w.heap.size w w' := by
  have hu := uintB_size (v := s.size) (by omega)
  have hsz : ¬ 9223372036854775807 < (uintB s.size).size + s.size := by omega
  go_enter Tryd.func35, Tryd.ntmps35
  go_wp2_with (go_at_call 55; refine (wire_Uint _ _ (by omega) (by omega)).mono ?_; rintro e w1 ⟨rfl, hb1⟩)
  go_ret
  exact ⟨rfl, hb1⟩
end Go.Proofs.YthhgfdejadbigaaDoor
/-
  The walks of value: May, Named.
-/
set_option linter.unusedVariables false
set_option linter.unusedSimpArgs false
namespace Go.Proofs.YthhgfdejadbigaaDoor
open Go Go.RowKit Go.Proofs.Base
set_option maxHeartbeats 1000000 in
theorem val_May (k n : Int) (s : ByteArray) (w : World) :
    Calls Tryd.prog 22 #[.agg #[.int .i64 k, .int .i64 n, .string s]] w fun e w' => e = .returned (.bool (mayV k n s)) ∧ Below w.heap.size w w' := by
  have hdone : Below w.heap.size w (w.alloc (.cells #[.int .i64 k, .int .i64 n, .string s] 23)) := (Below.refl _ _).alloc (Nat.le_refl _) _
  have HD := Lib.hid hdone
  clear hdone
  have hs0 : s.toList.isEmpty = decide (s.size = 0) := by
    by_cases h : s.size = 0
    · rw [emp_true h]; simp [h]
    · rw [emp_false (by omega)]; simp [h]
  have HS := Lib.hid hs0
  clear hs0
  by_cases h3 : k = 3
  · subst h3
    have hm : mayV 3 n s = (decide (n = 0) && decide (s.size ≤ 1024)) := by simp [mayV]
    have HM := Lib.hid hm
    clear hm
    by_cases hn : n = 0
    · subst hn
      go_enter Tryd.func22, Tryd.ntmps22
      go_wp2
      go_ret
      exact ⟨by rw [HM.out]; exact ret1 (vbool (by simp; omega)), HD⟩
    · have hb := beq_f hn
      have HN := Lib.hid hn
      clear hn
      go_enter Tryd.func22, Tryd.ntmps22
      go_wp2
      go_ret
      exact ⟨by rw [HM.out]; exact ret1 (vbool (by simp [HN.out])), HD⟩
  · by_cases h2 : k = 2
    · subst h2
      have hm : mayV 2 n s = ((decide (n = 0) || decide (n = 1)) && decide (s.size = 0)) := by simp [mayV]
      have HM := Lib.hid hm
      clear hm h3
      by_cases hn : n = 0 ∨ n = 1
      · rcases hn with rfl | rfl
        all_goals
          go_enter Tryd.func22, Tryd.ntmps22
          go_wp2
          go_ret
          exact ⟨by rw [HM.out]; exact ret1 (vbool (by simp [HS.out])), HD⟩
      · have hb := bne_t (fun h => hn (.inl h) : n ≠ 0)
        have hb1 := bne_t (fun h => hn (.inr h) : n ≠ 1)
        have HN := Lib.hid hn
        clear hn
        go_enter Tryd.func22, Tryd.ntmps22
        go_wp2
        go_ret
        exact ⟨by rw [HM.out]; exact ret1 (vbool (by have := HN.out; simp; omega)), HD⟩
    · by_cases h1 : k = 1
      · subst h1
        have hm : mayV 1 n s = decide (s.size = 0) := by simp [mayV]
        have HM := Lib.hid hm
        clear hm h3 h2
        go_enter Tryd.func22, Tryd.ntmps22
        go_wp2
        go_ret
        exact ⟨by rw [HM.out]; exact ret1 (vbool (by simp [HS.out])), HD⟩
      · have hm : mayV k n s = false := by simp [mayV, h1, h2, h3]
        have b1 := beq_f h1
        have b2 := beq_f h2
        have b3 := beq_f h3
        have HM := Lib.hid hm
        clear hm h1 h2 h3
        go_enter Tryd.func22, Tryd.ntmps22
        go_wp2
        go_ret
        exact ⟨by rw [HM.out]; rfl, HD⟩
def idxFrom {α : Type} (p : α → Bool) : List α → Nat → Int
  | [], _ => -1
  | x :: r, i => if p x then (i : Int) else idxFrom p r (i + 1)
theorem idxFrom_any {α : Type} (p : α → Bool) : ∀ (l : List α) (i : Nat), decide (0 ≤ idxFrom p l i) = l.any p
  | [], i => by simp [idxFrom]
  | x :: r, i => by
    by_cases h : p x = true
    · simp [idxFrom, h]
    · simp only [idxFrom, h, Bool.false_eq_true, if_false, List.any_cons, Bool.false_or]
      exact idxFrom_any p r (i + 1)
theorem strs_new (w : World) (e : TypeId) (xs : List ByteArray) : ∀ i u, xs[i]? = some u → (w.alloc (.cells (xs.map Value.string).toArray e)).cell? ⟨w.heap.size, 0 + i, none⟩ = some (.string u) := fun i u hu => by
  rw [Nat.zero_add, cell_of_blk (heap_alloc_new w _)]
  simp [hu]
set_option maxHeartbeats 1000000 in
theorem sl_Index_str (b o n c : Nat) (xs : List ByteArray) (x : ByteArray) (w : World) (hl : xs.length = n) (hn : n ≤ 9223372036854775807) (hc : ∀ i u, xs[i]? = some u → w.cell? ⟨b, o + i, none⟩ = some (.string u)) :
    Calls Tryd.prog 72 #[.slice (some ⟨b, o, none⟩) n c, .string x] w fun e w' => e = .returned (.int .i64 (idxFrom (fun y => x.toList == y.toList) xs 0)) ∧ w = w' := by
  have HI : Hid (idxFrom (fun y : ByteArray => x.toList == y.toList) xs 0 = idxFrom (fun y => x.toList == y.toList) (xs.drop 0) 0) := Lib.hid rfl
  have Hl := Lib.hid hl
  have Hc := Lib.hid hc
  clear hl hc
  go_enter Tryd.func72, Tryd.ntmps72
  go_wp2_with fail
  go_loop [5, 8] (fun _ i => ∃ k : Nat, k ≤ n ∧ i = .int .i64 k ∧ Hid (idxFrom (fun y : ByteArray => x.toList == y.toList) xs 0 = idxFrom (fun y => x.toList == y.toList) (xs.drop k) k)) (fun _ i => n - (intOf i).toNat)
  case atStart => exact ⟨0, Nat.zero_le _, rfl, HI⟩
  case round =>
    obtain ⟨k, hk, rfl, HN⟩ := hrel
    by_cases hlt : k < n
    · have hkl : k < xs.length := by rw [Hl.out]; exact hlt
      have hN := HN.out
      rw [List.drop_eq_getElem_cons hkl] at hN
      have hx := Hc.out k xs[k] (List.getElem?_eq_getElem hkl)
      generalize xs[k] = y at *
      clear hkl
      by_cases he : (x.toList == y.toList) = true
      · simp only [idxFrom, he, if_true] at hN
        have HN2 := Lib.hid hN
        clear hN HN
        go_wp2
        go_ret
        exact ⟨by rw [HN2.out]; rfl, rfl⟩
      · have he' : (x.toList == y.toList) = false := by simpa using he
        clear he
        simp only [idxFrom, he', Bool.false_eq_true, if_false] at hN
        have HN2 := Lib.hid hN
        clear hN HN
        go_wp2
        go_round
        case rel => exact ⟨k + 1, by omega, by go_num, HN2⟩
        case measure => simp [intOf]; omega
    · go_wp2
      go_ret
      have h9 := HN.out
      rw [List.drop_eq_nil_of_le (by rw [Hl.out]; omega)] at h9
      exact ⟨by rw [h9]; rfl, rfl⟩
set_option maxHeartbeats 1000000 in
theorem sl_Contains_str (b o n c : Nat) (xs : List ByteArray) (x : ByteArray) (w : World) (hl : xs.length = n) (hn : n ≤ 9223372036854775807) (hc : ∀ i u, xs[i]? = some u → w.cell? ⟨b, o + i, none⟩ = some (.string u)) :
    Calls Tryd.prog 50 #[.slice (some ⟨b, o, none⟩) n c, .string x] w fun e w' => e = .returned (.bool (xs.any fun y => x.toList == y.toList)) ∧ w = w' := by
  have HC := Lib.hid (sl_Index_str b o n c xs x w hl hn hc)
  rw [← idxFrom_any _ _ 0]
  generalize idxFrom (fun y : ByteArray => x.toList == y.toList) xs 0 = r at *
  clear hl hc hn
  go_enter Tryd.func50, Tryd.ntmps50
  go_wp2_with (go_at_call 72; refine HC.out.mono ?_; rintro e w1 ⟨rfl, rfl⟩)
  go_ret
  exact ⟨rfl, rfl⟩
set_option maxHeartbeats 1000000 in
theorem val_Named (s : ByteArray) (w : World) (hs : s.size ≤ 9223372036854775807) :
    Calls Tryd.prog 23 #[.string s] w fun e w' => e = .returned (.bool (named s)) ∧ Below w.heap.size w w' := by
  by_cases h0 : 0 < s.size
  · have hN := named_cons h0
    by_cases h32 : s.size ≤ 32
    · by_cases hlet : 97 ≤ s[0].toNat ∧ s[0].toNat ≤ 122
      · have hm : named s = (((toL s).drop 0).all nameB && !(wordBs.any fun y => s.toList == y.toList)) := by
          have l1 : letterB s[0] = true := by unfold letterB; simp; omega
          have l2 : nameB s[0] = true := by unfold nameB; simp; omega
          rw [hN, toL_drop_cons h0, List.all_cons, l2]
          simp [h32, l1]
        have HM := Lib.hid hm
        clear hm hN
        have hc := fun (w : World) => sl_Contains_str w.heap.size 0 6 6 wordBs s (w.alloc (.cells (wordBs.map Value.string).toArray 9)) rfl (by omega) (strs_new w _ _)
        have HC := Lib.hid hc
        clear hc
        obtain ⟨hl1, hl2⟩ := hlet
        have hl1' : (97 : Int) ≤ s[0].toNat := by omega
        have hl2' : (s[0].toNat : Int) ≤ 122 := by omega
        clear hl1 hl2
        go_enter Tryd.func23, Tryd.ntmps23
        go_wp2_with fail
        clear hl1' hl2' h32
        go_loop [3, 4, 25] (fun _ _ i => ∃ k : Nat, k ≤ s.size ∧ i = .int .i64 k ∧ Hid (named s = (((toL s).drop k).all nameB && !(wordBs.any fun y => s.toList == y.toList)))) (fun _ _ i => s.size - (intOf i).toNat)
        case atStart => exact ⟨0, Nat.zero_le _, rfl, HM⟩
        case round =>
          obtain ⟨k, hk, rfl, HK⟩ := hrel
          by_cases hlt : k < s.size
          · have hq := HK.out
            rw [toL_drop_cons hlt, List.all_cons] at hq
            have HQ := Lib.hid hq
            clear hq HK
            have hb := s[k].toNat_lt
            by_cases hn : nameB s[k] = true
            · have hq := HQ.out
              rw [hn, Bool.true_and] at hq
              have HQ2 := Lib.hid hq
              clear hq HQ
              have h3 : (97 ≤ s[k].toNat ∧ s[k].toNat ≤ 122) ∨ (48 ≤ s[k].toNat ∧ s[k].toNat ≤ 57) ∨ s[k].toNat = 95 := by unfold nameB at hn; simp at hn; omega
              clear hn
              by_cases h95 : s[k].toNat = 95
              · have hb95 := bne_f (a := (s[k].toNat : Int)) (b := 95) (by omega)
                have h1 : (s[k].toNat : Int) < 97 := by omega
                have h2 : ¬ (s[k].toNat : Int) < 48 := by omega
                have h4 : (57 : Int) < (s[k].toNat : Int) := by omega
                clear h3 h95
                go_wp2_with fail
                go_round
                case rel => exact ⟨k + 1, by omega, by go_num, HQ2⟩
                case measure => simp [intOf]; omega
              · have h4 : (97 ≤ s[k].toNat ∧ s[k].toNat ≤ 122) ∨ (48 ≤ s[k].toNat ∧ s[k].toNat ≤ 57) := by omega
                clear h3 h95
                rcases h4 with ⟨h1, h2⟩ | ⟨h1, h2⟩
                · have h3 : ¬ (s[k].toNat : Int) < 97 := by omega
                  have h4 : ¬ (122 : Int) < (s[k].toNat : Int) := by omega
                  clear h1 h2
                  go_wp2_with fail
                  go_round
                  case rel => exact ⟨k + 1, by omega, by go_num, HQ2⟩
                  case measure => simp [intOf]; omega
                · have h3 : (s[k].toNat : Int) < 97 := by omega
                  have h4 : ¬ (s[k].toNat : Int) < 48 := by omega
                  have h5 : ¬ (57 : Int) < (s[k].toNat : Int) := by omega
                  clear h1 h2
                  go_wp2_with fail
                  go_round
                  case rel => exact ⟨k + 1, by omega, by go_num, HQ2⟩
                  case measure => simp [intOf]; omega
            · have hm : named s = false := by rw [HQ.out]; simp [hn]
              have HM2 := Lib.hid hm
              clear hm HQ HM
              have h3 : ¬ (97 ≤ s[k].toNat ∧ s[k].toNat ≤ 122) ∧ ¬ (48 ≤ s[k].toNat ∧ s[k].toNat ≤ 57) ∧ ¬ s[k].toNat = 95 := by unfold nameB at hn; simp at hn; omega
              clear hn
              have hb95 := bne_t (a := (s[k].toNat : Int)) (b := 95) (by omega)
              have h4 : (s[k].toNat : Int) < 48 ∨ (57 < (s[k].toNat : Int) ∧ (s[k].toNat : Int) < 97) ∨ 122 < (s[k].toNat : Int) := by omega
              clear h3
              rcases h4 with h4 | ⟨h4, h5⟩ | h4
              · have h6 : (s[k].toNat : Int) < 97 := by omega
                go_wp2_with fail
                go_ret
                exact ⟨by rw [HM2.out]; rfl, Below.refl _ _⟩
              · have h6 : ¬ (s[k].toNat : Int) < 48 := by omega
                go_wp2_with fail
                go_ret
                exact ⟨by rw [HM2.out]; rfl, Below.refl _ _⟩
              · have h6 : ¬ (s[k].toNat : Int) < 97 := by omega
                have h7 : ¬ (s[k].toNat : Int) < 48 := by omega
                have h8 : (57 : Int) < (s[k].toNat : Int) := by omega
                go_wp2_with fail
                go_ret
                exact ⟨by rw [HM2.out]; rfl, Below.refl _ _⟩
          · have hm : named s = !(wordBs.any fun y => s.toList == y.toList) := by rw [HK.out, List.drop_eq_nil_of_le (by simp; omega)]; rfl
            have HM2 := Lib.hid hm
            clear hm HK HM
            go_wp2_with (go_at_call 50; refine (HC.out _).mono ?_; rintro e w1 ⟨rfl, rfl⟩)
            go_ret
            exact ⟨by rw [HM2.out]; rfl, (Below.refl _ _).alloc (Nat.le_refl _) _⟩
      · have hm : named s = false := by
          rw [hN]
          have : letterB s[0] = false := by unfold letterB; simp; omega
          simp [this]
        have HM := Lib.hid hm
        have hle : (s[0].toNat : Int) < 97 ∨ ¬ (s[0].toNat : Int) < 97 ∧ 122 < (s[0].toNat : Int) := by omega
        clear hm hN hlet
        rcases hle with hle | ⟨hl1, hl2⟩
        all_goals
          go_enter Tryd.func23, Tryd.ntmps23
          go_wp2_with fail
          go_ret
          exact ⟨by rw [HM.out]; rfl, Below.refl _ _⟩
    · have hm : named s = false := by rw [hN]; simp [h32]
      have HM := Lib.hid hm
      clear hm hN
      go_enter Tryd.func23, Tryd.ntmps23
      go_wp2_with fail
      go_ret
      exact ⟨by rw [HM.out]; rfl, Below.refl _ _⟩
  · have hm := named_nil h0
    have HM := Lib.hid hm
    clear hm
    go_enter Tryd.func23, Tryd.ntmps23
    go_wp2_with fail
    go_ret
    exact ⟨by rw [HM.out]; rfl, Below.refl _ _⟩
end Go.Proofs.YthhgfdejadbigaaDoor
/-
  The walks of value: Bytes, Right.
-/
set_option linter.unusedVariables false
set_option linter.unusedSimpArgs false
namespace Go.Proofs.YthhgfdejadbigaaDoor
open Go Go.RowKit Go.Proofs.Base
open Go.Sort (grow)
set_option maxRecDepth 100000 in
set_option maxHeartbeats 1000000 in
theorem val_Bytes (k n : Int) (s : ByteArray) (w : World) (hk : i64 k) (hn : i64 n) (hs : okS s) :
    Calls Tryd.prog 12 #[.agg #[.int .i64 k, .int .i64 n, .string s]] w fun e w' => e = .returned (.string (valB k n s)) ∧ Below w.heap.size w w' := by
  have hcv : ∀ W : World, (convert 62 9 (.slice (some ⟨W.heap.size, 0, none⟩) 1 1)).run Tryd.prog (W.alloc (.cells #[.int .u8 (k % 256)] 5)) = .ok (.string (ofN [(k % 256).toNat])) (W.alloc (.cells #[.int .u8 (k % 256)] 5)) := fun W => by
    have h := lit_string (P := Tryd.prog) Tryd.underlying62 Tryd.underlying5 Tryd.underlying9 W [(k % 256).toNat] 1 rfl (by omega)
    have e : nums8 [(k % 256).toNat] = [.int .u8 (k % 256)] := by simp [nums8]; omega
    rw [e] at h
    exact h
  have hcv := hcv (w.alloc (.cells #[.int .i64 k, .int .i64 n, .string s] 23))
  rw [World.size_alloc] at hcv
  have hM := fun W => val_May k n s W
  have hbb : Below w.heap.size w ((w.alloc (.cells #[.int .i64 k, .int .i64 n, .string s] 23)).alloc (.cells #[.int .u8 (k % 256)] 5)) := ((Below.refl _ _).alloc (Nat.le_refl _) _).alloc (by simp) _
  have HB := Lib.hid hbb
  clear hbb
  by_cases hm : mayV k n s = true
  · obtain ⟨hk3, hs1⟩ := mayV_k hm
    have hv : valB k n s = ofN [k.toNat] ++ (if k = 3 then textB s else intB n) := by rw [valB, if_pos hm]
    have ek : (k % 256).toNat = k.toNat := by omega
    rw [ek] at hcv
    simp only [hm] at hM
    have HM := Lib.hid hM
    clear hM hm ek
    by_cases h3 : k = 3
    · rw [if_pos h3] at hv
      have h3b := beq_t h3
      have HV := Lib.hid hv
      have hsz : ¬ 9223372036854775807 < (ofN [k.toNat]).size + (textB s).size := by
        have := uintB_size (v := s.size) (by omega)
        rw [ofN_size, textB, ByteArray.size_append]
        simp
        omega
      clear hv hk3 h3
      go_enter Tryd.func12, Tryd.ntmps12
      go_wp2_with (first | (go_at_call 22; refine (HM.out _).mono ?_; rintro e w1 ⟨rfl, hb1⟩; have hc1 := (bcell hb1).1; have hz1 := hb1.size; simp only [World.size_alloc] at hc1 hz1) | (go_at_call 35; refine (wire_Text _ _ (by omega)).mono ?_; rintro e w2 ⟨rfl, hb2⟩))
      go_ret
      exact ⟨by rw [HV.out]; rfl, below2 (below2 HB.out hb1) hb2⟩
    · rw [if_neg h3] at hv
      have h3b := beq_f h3
      have HV := Lib.hid hv
      have hsz : ¬ 9223372036854775807 < (ofN [k.toNat]).size + (intB n).size := by
        have := intB_size hn.1 hn.2
        rw [ofN_size]
        simp
        omega
      clear hv hk3 h3
      go_enter Tryd.func12, Tryd.ntmps12
      go_wp2_with (first | (go_at_call 22; refine (HM.out _).mono ?_; rintro e w1 ⟨rfl, hb1⟩; have hc1 := (bcell hb1).1; have hz1 := hb1.size; simp only [World.size_alloc] at hc1 hz1) | (go_at_call 36; refine (wire_Int _ _ hn.1 hn.2).mono ?_; rintro e w2 ⟨rfl, hb2⟩))
      go_ret
      exact ⟨by rw [HV.out]; rfl, below2 (below2 HB.out hb1) hb2⟩
  · have hm : mayV k n s = false := by simpa using hm
    have hv : valB k n s = ByteArray.empty := by rw [valB, hm]; rfl
    simp only [hm] at hM
    have HM := Lib.hid hM
    have HV := Lib.hid hv
    clear hM hm hv
    go_enter Tryd.func12, Tryd.ntmps12
    go_wp2_with (go_at_call 22; refine (HM.out _).mono ?_; rintro e w1 ⟨rfl, hb1⟩)
    go_ret
    exact ⟨by rw [HV.out]; rfl, below2 HB.out hb1⟩
set_option maxHeartbeats 1000000 in
theorem val_Right (S : Nat → Prop) (l : List GVar) (n : Nat) (v : Value) (w : World) (hl : l.length = n) (hr : Row w S 4 n v (varCells l)) (hw : ∀ x ∈ l, x.wf) :
    Calls Tryd.prog 21 #[v] w fun e w' => e = .returned (.bool (rightV l)) ∧ Below w.heap.size w w' := by
  obtain ⟨A, c, rfl, hnc, hc⟩ := hr.open_
  by_cases h16 : n ≤ 16
  · have hm : rightV l = rightFrom none (l.drop 0) := by simp [rightV, hl, h16]
    have HM := Lib.hid hm
    have Hl := Lib.hid hl
    have Hr := Lib.hid hr
    have Hw := Lib.hid hw
    clear hm hl hr hw
    go_enter Tryd.func21, Tryd.ntmps21
    have hd : decide ((16 : Int) < n) = false := by simp; omega
    go_wp2_with fail
    go_loopw [3, 4, 10] (fun _ _ i wr => ∃ k : Nat, k ≤ n ∧ i = .int .i64 k ∧ Hid (rightV l = rightFrom (if k = 0 then none else (l[k - 1]?).map GVar.name) (l.drop k)) ∧ Below w.heap.size w wr) (fun _ _ i _ => n - (intOf i).toNat)
    case atStart => exact ⟨0, Nat.zero_le _, rfl, HM, Below.refl _ _⟩
    case round =>
      obtain ⟨k, hk, rfl, HK, HB⟩ := hrel
      by_cases hlt : k < n
      · have hkl : k < l.length := by rw [Hl.out]; exact hlt
        obtain ⟨b, o, rfl, hSb, hbl, hcell⟩ := Hr.out.at_ (by omega)
        obtain ⟨e0, e1, e2, e3⟩ := varCells_at hkl
        have c0 := (HB.cell (p := ⟨b, o + k * 4 + 0, none⟩) hbl).trans (hcell k 0 _ e0)
        have c1 := (HB.cell (p := ⟨b, o + k * 4 + 1, none⟩) hbl).trans (hcell k 1 _ e1)
        have c2 := (HB.cell (p := ⟨b, o + k * 4 + 2, none⟩) hbl).trans (hcell k 2 _ e2)
        have c3 := (HB.cell (p := ⟨b, o + k * 4 + 3, none⟩) hbl).trans (hcell k 3 _ e3)
        rw [Nat.add_zero] at c0
        have hwx := Hw.out _ (List.getElem_mem hkl)
        have hq := HK.out
        rw [List.drop_eq_getElem_cons hkl] at hq
        have hp1 : 0 < k → ∃ y, l[k - 1]? = some y ∧ w.cell? ⟨b, o + (k - 1) * 4, none⟩ = some (.string y.name) := fun h => by
          have h1 : k - 1 < l.length := by omega
          exact ⟨l[k - 1], List.getElem?_eq_getElem h1, by have := hcell (k - 1) 0 _ (varCells_at h1).1; simpa using this⟩
        have hx := List.getElem?_eq_getElem hkl
        generalize l[k] = x at *
        have HX := Lib.hid hx
        clear hx
        have HQ := Lib.hid hq
        have HCell := Lib.hid hcell
        have HP1 := Lib.hid hp1
        clear hq HK hcell hp1 e0 e1 e2 e3 hkl
        by_cases hN : named x.name = true
        · by_cases hM : mayV x.v.k x.v.n x.v.s = true
          · rcases Nat.eq_zero_or_pos k with hk0 | hk0
            · have hd0 : decide ((0 : Int) < k) = false := by simp; omega
              have hd1 : decide (0 < k) = false := by simp; omega
              have HK0 := Lib.hid hk0
              have hq2 : rightV l = rightFrom (if k + 1 = 0 then none else (l[k + 1 - 1]?).map GVar.name) (l.drop (k + 1)) := by
                have h0 : l[k]? = some x := HX.out
                rw [HQ.out, if_pos hk0, if_neg (by omega), Nat.add_sub_cancel, h0]; simp [rightFrom, hN, GVal.may, hM]
              have HQ2 := Lib.hid hq2
              clear hq2 HQ HM HX HP1 hk0
              have cN := fun d os => Calls.regrown_of (val_Named x.name (grow (redrawn (wr.alloc (.cells #[.string x.name, .int .i64 x.v.k, .int .i64 x.v.n, .string x.v.s] 60)) d) os) (by have := hwx.1; unfold okS at this; omega))
              simp only [hN] at cN
              have cM := fun d os => Calls.regrown_of (val_May x.v.k x.v.n x.v.s (grow (redrawn (wr.alloc (.cells #[.string x.name, .int .i64 x.v.k, .int .i64 x.v.n, .string x.v.s] 60)) d) os))
              simp only [hM] at cM
              have kx0 := cell_regrown (w := (wr.alloc (.cells #[.string x.name, .int .i64 x.v.k, .int .i64 x.v.n, .string x.v.s] 60))) (a := ⟨wr.heap.size, 0, none⟩) (v := .string x.name) (by simp)
              have kx1 := cell_regrown (w := (wr.alloc (.cells #[.string x.name, .int .i64 x.v.k, .int .i64 x.v.n, .string x.v.s] 60))) (a := ⟨wr.heap.size, 1, none⟩) (v := .int .i64 x.v.k) (by simp)
              have kx2 := cell_regrown (w := (wr.alloc (.cells #[.string x.name, .int .i64 x.v.k, .int .i64 x.v.n, .string x.v.s] 60))) (a := ⟨wr.heap.size, 2, none⟩) (v := .int .i64 x.v.n) (by simp)
              have kx3 := cell_regrown (w := (wr.alloc (.cells #[.string x.name, .int .i64 x.v.k, .int .i64 x.v.n, .string x.v.s] 60))) (a := ⟨wr.heap.size, 3, none⟩) (v := .string x.v.s) (by simp)
              go_wp2_with fail
              refine wp_region_quiet_below (by kernel_rfl) (by kernel_rfl) ?_
              repeat (first | go_big_quiet_step ((first | exact cN _ _ | exact cM _ _)) | quiet_step ((first | exact cN _ _ | exact cM _ _)))
              refine wpQuiet_nil ?_
              intro _ hw'
              obtain ⟨⟨dq, osq⟩, hw''⟩ := hw'
              subst hw''
              have hbq := below_regrown (wr.alloc (.cells #[.string x.name, .int .i64 x.v.k, .int .i64 x.v.n, .string x.v.s] 60)) dq osq
              have HB2 : Below w.heap.size w (grow (redrawn (wr.alloc (.cells #[.string x.name, .int .i64 x.v.k, .int .i64 x.v.n, .string x.v.s] 60)) dq) osq) := below2 (below_alloc HB _) hbq
              go_wp2_with fail
              go_roundw
              case rel => exact ⟨k + 1, by omega, by go_num, HQ2, HB2⟩
              case measure => simp [intOf]; omega
            · obtain ⟨y, hy, cp⟩ := HP1.out hk0
              have cp := (HB.cell (p := ⟨b, o + (k - 1) * 4, none⟩) hbl).trans cp
              have hp9 : (if k = 0 then none else (l[k - 1]?).map GVar.name) = some y.name := by rw [if_neg (by omega), hy]; rfl
              have HP9 := Lib.hid hp9
              clear hp9 hy
              by_cases hL : lessS y.name x.name = true
              · have hq2 : rightV l = rightFrom (if k + 1 = 0 then none else (l[k + 1 - 1]?).map GVar.name) (l.drop (k + 1)) := by
                  have h0 : l[k]? = some x := HX.out
                  rw [HQ.out, HP9.out]; simp [rightFrom, hN, GVal.may, hM, h0, hL]
                have HQ2 := Lib.hid hq2
                unfold lessS at hL
                clear hq2 HQ HM HX HP1 HP9
                have cN := fun d os => Calls.regrown_of (val_Named x.name (grow (redrawn (wr.alloc (.cells #[.string x.name, .int .i64 x.v.k, .int .i64 x.v.n, .string x.v.s] 60)) d) os) (by have := hwx.1; unfold okS at this; omega))
                simp only [hN] at cN
                have cM := fun d os => Calls.regrown_of (val_May x.v.k x.v.n x.v.s (grow (redrawn (wr.alloc (.cells #[.string x.name, .int .i64 x.v.k, .int .i64 x.v.n, .string x.v.s] 60)) d) os))
                simp only [hM] at cM
                have kx0 := cell_regrown (w := (wr.alloc (.cells #[.string x.name, .int .i64 x.v.k, .int .i64 x.v.n, .string x.v.s] 60))) (a := ⟨wr.heap.size, 0, none⟩) (v := .string x.name) (by simp)
                have kx1 := cell_regrown (w := (wr.alloc (.cells #[.string x.name, .int .i64 x.v.k, .int .i64 x.v.n, .string x.v.s] 60))) (a := ⟨wr.heap.size, 1, none⟩) (v := .int .i64 x.v.k) (by simp)
                have kx2 := cell_regrown (w := (wr.alloc (.cells #[.string x.name, .int .i64 x.v.k, .int .i64 x.v.n, .string x.v.s] 60))) (a := ⟨wr.heap.size, 2, none⟩) (v := .int .i64 x.v.n) (by simp)
                have kx3 := cell_regrown (w := (wr.alloc (.cells #[.string x.name, .int .i64 x.v.k, .int .i64 x.v.n, .string x.v.s] 60))) (a := ⟨wr.heap.size, 3, none⟩) (v := .string x.v.s) (by simp)
                have kp := cell_regrown (w := (wr.alloc (.cells #[.string x.name, .int .i64 x.v.k, .int .i64 x.v.n, .string x.v.s] 60))) (a := ⟨b, o + (k - 1) * 4, none⟩) (v := .string y.name) (by rw [World.cell?_alloc_lt _ _ _ (by have := HB.size; show b < _; omega)]; exact cp)
                go_wp2_with fail
                refine wp_region_quiet_below (by kernel_rfl) (by kernel_rfl) ?_
                repeat (first | go_big_quiet_step ((first | exact cN _ _ | exact cM _ _)) | quiet_step ((first | exact cN _ _ | exact cM _ _)))
                refine wpQuiet_nil ?_
                intro _ hw'
                obtain ⟨⟨dq, osq⟩, hw''⟩ := hw'
                subst hw''
                have hbq := below_regrown (wr.alloc (.cells #[.string x.name, .int .i64 x.v.k, .int .i64 x.v.n, .string x.v.s] 60)) dq osq
                have HB2 : Below w.heap.size w (grow (redrawn (wr.alloc (.cells #[.string x.name, .int .i64 x.v.k, .int .i64 x.v.n, .string x.v.s] 60)) dq) osq) := below2 (below_alloc HB _) hbq
                go_wp2_with fail
                go_roundw
                case rel => exact ⟨k + 1, by omega, by go_num, HQ2, HB2⟩
                case measure => simp [intOf]; omega
              · have hL : lessS y.name x.name = false := by simpa using hL
                have hm : rightV l = false := by rw [HQ.out, HP9.out]; simp [rightFrom, hL]
                have HM2 := Lib.hid hm
                unfold lessS at hL
                clear hm HQ HM HX HP1 HP9
                have cN := fun d os => Calls.regrown_of (val_Named x.name (grow (redrawn (wr.alloc (.cells #[.string x.name, .int .i64 x.v.k, .int .i64 x.v.n, .string x.v.s] 60)) d) os) (by have := hwx.1; unfold okS at this; omega))
                simp only [hN] at cN
                have cM := fun d os => Calls.regrown_of (val_May x.v.k x.v.n x.v.s (grow (redrawn (wr.alloc (.cells #[.string x.name, .int .i64 x.v.k, .int .i64 x.v.n, .string x.v.s] 60)) d) os))
                simp only [hM] at cM
                have kx0 := cell_regrown (w := (wr.alloc (.cells #[.string x.name, .int .i64 x.v.k, .int .i64 x.v.n, .string x.v.s] 60))) (a := ⟨wr.heap.size, 0, none⟩) (v := .string x.name) (by simp)
                have kx1 := cell_regrown (w := (wr.alloc (.cells #[.string x.name, .int .i64 x.v.k, .int .i64 x.v.n, .string x.v.s] 60))) (a := ⟨wr.heap.size, 1, none⟩) (v := .int .i64 x.v.k) (by simp)
                have kx2 := cell_regrown (w := (wr.alloc (.cells #[.string x.name, .int .i64 x.v.k, .int .i64 x.v.n, .string x.v.s] 60))) (a := ⟨wr.heap.size, 2, none⟩) (v := .int .i64 x.v.n) (by simp)
                have kx3 := cell_regrown (w := (wr.alloc (.cells #[.string x.name, .int .i64 x.v.k, .int .i64 x.v.n, .string x.v.s] 60))) (a := ⟨wr.heap.size, 3, none⟩) (v := .string x.v.s) (by simp)
                have kp := cell_regrown (w := (wr.alloc (.cells #[.string x.name, .int .i64 x.v.k, .int .i64 x.v.n, .string x.v.s] 60))) (a := ⟨b, o + (k - 1) * 4, none⟩) (v := .string y.name) (by rw [World.cell?_alloc_lt _ _ _ (by have := HB.size; show b < _; omega)]; exact cp)
                go_wp2_with fail
                refine wp_region_quiet_below (by kernel_rfl) (by kernel_rfl) ?_
                repeat (first | go_big_quiet_step ((first | exact cN _ _ | exact cM _ _)) | quiet_step ((first | exact cN _ _ | exact cM _ _)))
                refine wpQuiet_nil ?_
                intro _ hw'
                obtain ⟨⟨dq, osq⟩, hw''⟩ := hw'
                subst hw''
                have hbq := below_regrown (wr.alloc (.cells #[.string x.name, .int .i64 x.v.k, .int .i64 x.v.n, .string x.v.s] 60)) dq osq
                have HB2 : Below w.heap.size w (grow (redrawn (wr.alloc (.cells #[.string x.name, .int .i64 x.v.k, .int .i64 x.v.n, .string x.v.s] 60)) dq) osq) := below2 (below_alloc HB _) hbq
                go_wp2_with fail
                go_ret
                exact ⟨by rw [HM2.out]; rfl, HB2⟩
          · have hM : mayV x.v.k x.v.n x.v.s = false := by simpa using hM
            have hm : rightV l = false := by rw [HQ.out]; simp [rightFrom, GVal.may, hM]
            have HM2 := Lib.hid hm
            clear hm HQ HM
            have cN := fun d os => Calls.regrown_of (val_Named x.name (grow (redrawn (wr.alloc (.cells #[.string x.name, .int .i64 x.v.k, .int .i64 x.v.n, .string x.v.s] 60)) d) os) (by have := hwx.1; unfold okS at this; omega))
            simp only [hN] at cN
            have cM := fun d os => Calls.regrown_of (val_May x.v.k x.v.n x.v.s (grow (redrawn (wr.alloc (.cells #[.string x.name, .int .i64 x.v.k, .int .i64 x.v.n, .string x.v.s] 60)) d) os))
            simp only [hM] at cM
            have kx0 := cell_regrown (w := (wr.alloc (.cells #[.string x.name, .int .i64 x.v.k, .int .i64 x.v.n, .string x.v.s] 60))) (a := ⟨wr.heap.size, 0, none⟩) (v := .string x.name) (by simp)
            have kx1 := cell_regrown (w := (wr.alloc (.cells #[.string x.name, .int .i64 x.v.k, .int .i64 x.v.n, .string x.v.s] 60))) (a := ⟨wr.heap.size, 1, none⟩) (v := .int .i64 x.v.k) (by simp)
            have kx2 := cell_regrown (w := (wr.alloc (.cells #[.string x.name, .int .i64 x.v.k, .int .i64 x.v.n, .string x.v.s] 60))) (a := ⟨wr.heap.size, 2, none⟩) (v := .int .i64 x.v.n) (by simp)
            have kx3 := cell_regrown (w := (wr.alloc (.cells #[.string x.name, .int .i64 x.v.k, .int .i64 x.v.n, .string x.v.s] 60))) (a := ⟨wr.heap.size, 3, none⟩) (v := .string x.v.s) (by simp)
            go_wp2_with fail
            refine wp_region_quiet_below (by kernel_rfl) (by kernel_rfl) ?_
            repeat (first | go_big_quiet_step ((first | exact cN _ _ | exact cM _ _)) | quiet_step ((first | exact cN _ _ | exact cM _ _)))
            refine wpQuiet_nil ?_
            intro _ hw'
            obtain ⟨⟨dq, osq⟩, hw''⟩ := hw'
            subst hw''
            have hbq := below_regrown (wr.alloc (.cells #[.string x.name, .int .i64 x.v.k, .int .i64 x.v.n, .string x.v.s] 60)) dq osq
            have HB2 : Below w.heap.size w (grow (redrawn (wr.alloc (.cells #[.string x.name, .int .i64 x.v.k, .int .i64 x.v.n, .string x.v.s] 60)) dq) osq) := below2 (below_alloc HB _) hbq
            go_wp2_with fail
            go_ret
            exact ⟨by rw [HM2.out]; rfl, HB2⟩
        · have hN : named x.name = false := by simpa using hN
          have hm : rightV l = false := by rw [HQ.out]; simp [rightFrom, hN]
          have HM2 := Lib.hid hm
          clear hm HQ HM
          have cN := fun d os => Calls.regrown_of (val_Named x.name (grow (redrawn (wr.alloc (.cells #[.string x.name, .int .i64 x.v.k, .int .i64 x.v.n, .string x.v.s] 60)) d) os) (by have := hwx.1; unfold okS at this; omega))
          simp only [hN] at cN
          have kx0 := cell_regrown (w := (wr.alloc (.cells #[.string x.name, .int .i64 x.v.k, .int .i64 x.v.n, .string x.v.s] 60))) (a := ⟨wr.heap.size, 0, none⟩) (v := .string x.name) (by simp)
          have kx1 := cell_regrown (w := (wr.alloc (.cells #[.string x.name, .int .i64 x.v.k, .int .i64 x.v.n, .string x.v.s] 60))) (a := ⟨wr.heap.size, 1, none⟩) (v := .int .i64 x.v.k) (by simp)
          have kx2 := cell_regrown (w := (wr.alloc (.cells #[.string x.name, .int .i64 x.v.k, .int .i64 x.v.n, .string x.v.s] 60))) (a := ⟨wr.heap.size, 2, none⟩) (v := .int .i64 x.v.n) (by simp)
          have kx3 := cell_regrown (w := (wr.alloc (.cells #[.string x.name, .int .i64 x.v.k, .int .i64 x.v.n, .string x.v.s] 60))) (a := ⟨wr.heap.size, 3, none⟩) (v := .string x.v.s) (by simp)
          go_wp2_with fail
          refine wp_region_quiet_below (by kernel_rfl) (by kernel_rfl) ?_
          repeat (first | go_big_quiet_step (exact cN _ _) | quiet_step (exact cN _ _))
          refine wpQuiet_nil ?_
          intro _ hw'
          obtain ⟨⟨dq, osq⟩, hw''⟩ := hw'
          subst hw''
          have hbq := below_regrown (wr.alloc (.cells #[.string x.name, .int .i64 x.v.k, .int .i64 x.v.n, .string x.v.s] 60)) dq osq
          have HB2 : Below w.heap.size w (grow (redrawn (wr.alloc (.cells #[.string x.name, .int .i64 x.v.k, .int .i64 x.v.n, .string x.v.s] 60)) dq) osq) := below2 (below_alloc HB _) hbq
          go_wp2_with fail
          go_ret
          exact ⟨by rw [HM2.out]; rfl, HB2⟩
      · go_wp2_with fail
        go_ret
        have h9 := HK.out
        rw [List.drop_eq_nil_of_le (by rw [Hl.out]; omega)] at h9
        exact ⟨by rw [h9]; rfl, HB⟩
  · have hm : rightV l = false := by simp [rightV, hl, h16]
    have HM := Lib.hid hm
    clear hm hl hr hw
    go_enter Tryd.func21, Tryd.ntmps21
    go_wp2_with fail
    go_ret
    exact ⟨by rw [HM.out]; rfl, Below.refl _ _⟩
end Go.Proofs.YthhgfdejadbigaaDoor
/-
  Variables that are read at whatever address (a slice that came in), and value.Get over them.
-/
set_option linter.unusedVariables false
set_option linter.unusedSimpArgs false
namespace Go.Proofs.Base
open Go Go.RowKit
theorem add_block (ad : Addr) (m : Nat) : (ad.add m).block = ad.block := by unfold Addr.add; split <;> rfl
def ReadsV (w : World) (A : Option Addr) (l : List GVar) : Prop :=
  ∀ k (h : k < l.length), ∃ ad, A = some ad ∧ ad.block < w.heap.size ∧ w.cell? (ad.add (k * 4)) = some (.string l[k].name) ∧ w.cell? ⟨(ad.add (k * 4)).block, (ad.add (k * 4)).off + 1, none⟩ = some (.int .i64 l[k].v.k) ∧
    w.cell? ⟨(ad.add (k * 4)).block, (ad.add (k * 4)).off + 2, none⟩ = some (.int .i64 l[k].v.n) ∧ w.cell? ⟨(ad.add (k * 4)).block, (ad.add (k * 4)).off + 3, none⟩ = some (.string l[k].v.s)
theorem ReadsV.below {w w' : World} {A : Option Addr} {l : List GVar} (h : ReadsV w A l) (hb : Below w.heap.size w w') : ReadsV w' A l := by
  intro k hk
  obtain ⟨ad, hA, hlt, c0, c1, c2, c3⟩ := h k hk
  have e := add_block ad (k * 4)
  exact ⟨ad, hA, Nat.lt_of_lt_of_le hlt hb.size, (hb.cell (p := ad.add (k * 4)) (by rw [e]; exact hlt)).trans c0, (hb.cell (p := ⟨(ad.add (k * 4)).block, (ad.add (k * 4)).off + 1, none⟩) (by show (ad.add (k * 4)).block < _; rw [e]; exact hlt)).trans c1,
    (hb.cell (p := ⟨(ad.add (k * 4)).block, (ad.add (k * 4)).off + 2, none⟩) (by show (ad.add (k * 4)).block < _; rw [e]; exact hlt)).trans c2, (hb.cell (p := ⟨(ad.add (k * 4)).block, (ad.add (k * 4)).off + 3, none⟩) (by show (ad.add (k * 4)).block < _; rw [e]; exact hlt)).trans c3⟩
def idxGo (name : ByteArray) : List GVar → Nat → Int
  | [], _ => -1
  | x :: r, i => if (x.name.toList == name.toList) = true then (i : Int) else idxGo name r (i + 1)
def getV (name : ByteArray) (l : List GVar) : Option GVal := (l.find? fun x => x.name.toList == name.toList).map (·.v)
theorem idxGo_spec (name : ByteArray) : ∀ (l : List GVar) (i : Nat), (idxGo name l i = -1 ∧ getV name l = none) ∨ (∃ j, ∃ h : j < l.length, idxGo name l i = ((i + j : Nat) : Int) ∧ getV name l = some l[j].v)
  | [], i => .inl ⟨rfl, rfl⟩
  | x :: r, i => by
    unfold idxGo getV
    by_cases h : (x.name.toList == name.toList) = true
    · rw [if_pos h]
      exact .inr ⟨0, by simp, rfl, by simp [h]⟩
    · rw [if_neg h, List.find?_cons_of_neg (p := fun y : GVar => y.name.toList == name.toList) (a := x) h]
      rcases idxGo_spec name r (i + 1) with ⟨h1, h2⟩ | ⟨j, hj, h1, h2⟩
      · exact .inl ⟨h1, h2⟩
      · refine .inr ⟨j + 1, by simpa using hj, ?_, h2⟩
        rw [h1]; congr 1; omega
end Go.Proofs.Base
/-
  The walk of value.Right over variables at whatever address. Printed by genrightg.py.
-/
set_option linter.unusedVariables false
set_option linter.unusedSimpArgs false
namespace Go.Proofs.YthhgfdejadbigaaDoor
open Go Go.RowKit Go.Proofs.Base
open Go.Sort (grow)
set_option maxHeartbeats 1000000 in
theorem val_RightG (A : Option Addr) (n c : Nat) (l : List GVar) (w : World) (hl : l.length = n) (hnc : n ≤ c) (hc : n ≤ 9223372036854775807) (hr : ReadsV w A l) (hw : ∀ x ∈ l, x.wf) :
    Calls Tryd.prog 21 #[.slice A n c] w fun e w' => e = .returned (.bool (rightV l)) ∧ Below w.heap.size w w' := by
  by_cases h16 : n ≤ 16
  · have hm : rightV l = rightFrom none (l.drop 0) := by simp [rightV, hl, h16]
    have HM := Lib.hid hm
    have Hl := Lib.hid hl
    have Hr := Lib.hid hr
    have Hw := Lib.hid hw
    clear hm hl hr hw
    go_enter Tryd.func21, Tryd.ntmps21
    have hd : decide ((16 : Int) < n) = false := by simp; omega
    go_wp2_with fail
    go_loopw [3, 4, 10] (fun _ _ i wr => ∃ k : Nat, k ≤ n ∧ i = .int .i64 k ∧ Hid (rightV l = rightFrom (if k = 0 then none else (l[k - 1]?).map GVar.name) (l.drop k)) ∧ Below w.heap.size w wr) (fun _ _ i _ => n - (intOf i).toNat)
    case atStart => exact ⟨0, Nat.zero_le _, rfl, HM, Below.refl _ _⟩
    case round =>
      obtain ⟨k, hk, rfl, HK, HB⟩ := hrel
      by_cases hlt : k < n
      · have hkl : k < l.length := by rw [Hl.out]; exact hlt
        obtain ⟨ad, rfl, hbl, c0, c1, c2, c3⟩ := Hr.out.below HB k hkl
        have hwx := Hw.out _ (List.getElem_mem hkl)
        have hq := HK.out
        rw [List.drop_eq_getElem_cons hkl] at hq
        have hp1 : 0 < k → ∃ y, l[k - 1]? = some y ∧ wr.cell? (ad.add ((k - 1) * 4)) = some (.string y.name) := fun h => by
          have h1 : k - 1 < l.length := by omega
          obtain ⟨ad', e, _, d0, _⟩ := Hr.out.below HB (k - 1) h1
          injection e with e
          subst e
          exact ⟨l[k - 1], List.getElem?_eq_getElem h1, d0⟩
        have hx := List.getElem?_eq_getElem hkl
        generalize l[k] = x at *
        have HX := Lib.hid hx
        clear hx
        have HQ := Lib.hid hq
        have HP1 := Lib.hid hp1
        clear hq HK hp1 hkl
        by_cases hN : named x.name = true
        · by_cases hM : mayV x.v.k x.v.n x.v.s = true
          · rcases Nat.eq_zero_or_pos k with hk0 | hk0
            · have hd0 : decide ((0 : Int) < k) = false := by simp; omega
              have hd1 : decide (0 < k) = false := by simp; omega
              have HK0 := Lib.hid hk0
              have hq2 : rightV l = rightFrom (if k + 1 = 0 then none else (l[k + 1 - 1]?).map GVar.name) (l.drop (k + 1)) := by
                have h0 : l[k]? = some x := HX.out
                rw [HQ.out, if_pos hk0, if_neg (by omega), Nat.add_sub_cancel, h0]; simp [rightFrom, hN, GVal.may, hM]
              have HQ2 := Lib.hid hq2
              clear hq2 HQ HM HX HP1 hk0
              have cN := fun d os => Calls.regrown_of (val_Named x.name (grow (redrawn (wr.alloc (.cells #[.string x.name, .int .i64 x.v.k, .int .i64 x.v.n, .string x.v.s] 60)) d) os) (by have := hwx.1; unfold okS at this; omega))
              simp only [hN] at cN
              have cM := fun d os => Calls.regrown_of (val_May x.v.k x.v.n x.v.s (grow (redrawn (wr.alloc (.cells #[.string x.name, .int .i64 x.v.k, .int .i64 x.v.n, .string x.v.s] 60)) d) os))
              simp only [hM] at cM
              have kx0 := cell_regrown (w := (wr.alloc (.cells #[.string x.name, .int .i64 x.v.k, .int .i64 x.v.n, .string x.v.s] 60))) (a := ⟨wr.heap.size, 0, none⟩) (v := .string x.name) (by simp)
              have kx1 := cell_regrown (w := (wr.alloc (.cells #[.string x.name, .int .i64 x.v.k, .int .i64 x.v.n, .string x.v.s] 60))) (a := ⟨wr.heap.size, 1, none⟩) (v := .int .i64 x.v.k) (by simp)
              have kx2 := cell_regrown (w := (wr.alloc (.cells #[.string x.name, .int .i64 x.v.k, .int .i64 x.v.n, .string x.v.s] 60))) (a := ⟨wr.heap.size, 2, none⟩) (v := .int .i64 x.v.n) (by simp)
              have kx3 := cell_regrown (w := (wr.alloc (.cells #[.string x.name, .int .i64 x.v.k, .int .i64 x.v.n, .string x.v.s] 60))) (a := ⟨wr.heap.size, 3, none⟩) (v := .string x.v.s) (by simp)
              go_wp2_with fail
              refine wp_region_quiet_below (by kernel_rfl) (by kernel_rfl) ?_
              repeat (first | go_big_quiet_step ((first | exact cN _ _ | exact cM _ _)) | quiet_step ((first | exact cN _ _ | exact cM _ _)))
              refine wpQuiet_nil ?_
              intro _ hw'
              obtain ⟨⟨dq, osq⟩, hw''⟩ := hw'
              subst hw''
              have hbq := below_regrown (wr.alloc (.cells #[.string x.name, .int .i64 x.v.k, .int .i64 x.v.n, .string x.v.s] 60)) dq osq
              have HB2 : Below w.heap.size w (grow (redrawn (wr.alloc (.cells #[.string x.name, .int .i64 x.v.k, .int .i64 x.v.n, .string x.v.s] 60)) dq) osq) := below2 (below_alloc HB _) hbq
              go_wp2_with fail
              go_roundw
              case rel => exact ⟨k + 1, by omega, by go_num, HQ2, HB2⟩
              case measure => simp [intOf]; omega
            · obtain ⟨y, hy, cp⟩ := HP1.out hk0
              have hp9 : (if k = 0 then none else (l[k - 1]?).map GVar.name) = some y.name := by rw [if_neg (by omega), hy]; rfl
              have HP9 := Lib.hid hp9
              clear hp9 hy
              by_cases hL : lessS y.name x.name = true
              · have hq2 : rightV l = rightFrom (if k + 1 = 0 then none else (l[k + 1 - 1]?).map GVar.name) (l.drop (k + 1)) := by
                  have h0 : l[k]? = some x := HX.out
                  rw [HQ.out, HP9.out]; simp [rightFrom, hN, GVal.may, hM, h0, hL]
                have HQ2 := Lib.hid hq2
                unfold lessS at hL
                clear hq2 HQ HM HX HP1 HP9
                have cN := fun d os => Calls.regrown_of (val_Named x.name (grow (redrawn (wr.alloc (.cells #[.string x.name, .int .i64 x.v.k, .int .i64 x.v.n, .string x.v.s] 60)) d) os) (by have := hwx.1; unfold okS at this; omega))
                simp only [hN] at cN
                have cM := fun d os => Calls.regrown_of (val_May x.v.k x.v.n x.v.s (grow (redrawn (wr.alloc (.cells #[.string x.name, .int .i64 x.v.k, .int .i64 x.v.n, .string x.v.s] 60)) d) os))
                simp only [hM] at cM
                have kx0 := cell_regrown (w := (wr.alloc (.cells #[.string x.name, .int .i64 x.v.k, .int .i64 x.v.n, .string x.v.s] 60))) (a := ⟨wr.heap.size, 0, none⟩) (v := .string x.name) (by simp)
                have kx1 := cell_regrown (w := (wr.alloc (.cells #[.string x.name, .int .i64 x.v.k, .int .i64 x.v.n, .string x.v.s] 60))) (a := ⟨wr.heap.size, 1, none⟩) (v := .int .i64 x.v.k) (by simp)
                have kx2 := cell_regrown (w := (wr.alloc (.cells #[.string x.name, .int .i64 x.v.k, .int .i64 x.v.n, .string x.v.s] 60))) (a := ⟨wr.heap.size, 2, none⟩) (v := .int .i64 x.v.n) (by simp)
                have kx3 := cell_regrown (w := (wr.alloc (.cells #[.string x.name, .int .i64 x.v.k, .int .i64 x.v.n, .string x.v.s] 60))) (a := ⟨wr.heap.size, 3, none⟩) (v := .string x.v.s) (by simp)
                have kp := cell_regrown (w := (wr.alloc (.cells #[.string x.name, .int .i64 x.v.k, .int .i64 x.v.n, .string x.v.s] 60))) (a := ad.add ((k - 1) * 4)) (v := .string y.name) (cell_below ((Below.refl _ _).alloc (Nat.le_refl _) _) cp)
                go_wp2_with fail
                refine wp_region_quiet_below (by kernel_rfl) (by kernel_rfl) ?_
                repeat (first | go_big_quiet_step ((first | exact cN _ _ | exact cM _ _)) | quiet_step ((first | exact cN _ _ | exact cM _ _)))
                refine wpQuiet_nil ?_
                intro _ hw'
                obtain ⟨⟨dq, osq⟩, hw''⟩ := hw'
                subst hw''
                have hbq := below_regrown (wr.alloc (.cells #[.string x.name, .int .i64 x.v.k, .int .i64 x.v.n, .string x.v.s] 60)) dq osq
                have HB2 : Below w.heap.size w (grow (redrawn (wr.alloc (.cells #[.string x.name, .int .i64 x.v.k, .int .i64 x.v.n, .string x.v.s] 60)) dq) osq) := below2 (below_alloc HB _) hbq
                go_wp2_with fail
                go_roundw
                case rel => exact ⟨k + 1, by omega, by go_num, HQ2, HB2⟩
                case measure => simp [intOf]; omega
              · have hL : lessS y.name x.name = false := by simpa using hL
                have hm : rightV l = false := by rw [HQ.out, HP9.out]; simp [rightFrom, hL]
                have HM2 := Lib.hid hm
                unfold lessS at hL
                clear hm HQ HM HX HP1 HP9
                have cN := fun d os => Calls.regrown_of (val_Named x.name (grow (redrawn (wr.alloc (.cells #[.string x.name, .int .i64 x.v.k, .int .i64 x.v.n, .string x.v.s] 60)) d) os) (by have := hwx.1; unfold okS at this; omega))
                simp only [hN] at cN
                have cM := fun d os => Calls.regrown_of (val_May x.v.k x.v.n x.v.s (grow (redrawn (wr.alloc (.cells #[.string x.name, .int .i64 x.v.k, .int .i64 x.v.n, .string x.v.s] 60)) d) os))
                simp only [hM] at cM
                have kx0 := cell_regrown (w := (wr.alloc (.cells #[.string x.name, .int .i64 x.v.k, .int .i64 x.v.n, .string x.v.s] 60))) (a := ⟨wr.heap.size, 0, none⟩) (v := .string x.name) (by simp)
                have kx1 := cell_regrown (w := (wr.alloc (.cells #[.string x.name, .int .i64 x.v.k, .int .i64 x.v.n, .string x.v.s] 60))) (a := ⟨wr.heap.size, 1, none⟩) (v := .int .i64 x.v.k) (by simp)
                have kx2 := cell_regrown (w := (wr.alloc (.cells #[.string x.name, .int .i64 x.v.k, .int .i64 x.v.n, .string x.v.s] 60))) (a := ⟨wr.heap.size, 2, none⟩) (v := .int .i64 x.v.n) (by simp)
                have kx3 := cell_regrown (w := (wr.alloc (.cells #[.string x.name, .int .i64 x.v.k, .int .i64 x.v.n, .string x.v.s] 60))) (a := ⟨wr.heap.size, 3, none⟩) (v := .string x.v.s) (by simp)
                have kp := cell_regrown (w := (wr.alloc (.cells #[.string x.name, .int .i64 x.v.k, .int .i64 x.v.n, .string x.v.s] 60))) (a := ad.add ((k - 1) * 4)) (v := .string y.name) (cell_below ((Below.refl _ _).alloc (Nat.le_refl _) _) cp)
                go_wp2_with fail
                refine wp_region_quiet_below (by kernel_rfl) (by kernel_rfl) ?_
                repeat (first | go_big_quiet_step ((first | exact cN _ _ | exact cM _ _)) | quiet_step ((first | exact cN _ _ | exact cM _ _)))
                refine wpQuiet_nil ?_
                intro _ hw'
                obtain ⟨⟨dq, osq⟩, hw''⟩ := hw'
                subst hw''
                have hbq := below_regrown (wr.alloc (.cells #[.string x.name, .int .i64 x.v.k, .int .i64 x.v.n, .string x.v.s] 60)) dq osq
                have HB2 : Below w.heap.size w (grow (redrawn (wr.alloc (.cells #[.string x.name, .int .i64 x.v.k, .int .i64 x.v.n, .string x.v.s] 60)) dq) osq) := below2 (below_alloc HB _) hbq
                go_wp2_with fail
                go_ret
                exact ⟨by rw [HM2.out]; rfl, HB2⟩
          · have hM : mayV x.v.k x.v.n x.v.s = false := by simpa using hM
            have hm : rightV l = false := by rw [HQ.out]; simp [rightFrom, GVal.may, hM]
            have HM2 := Lib.hid hm
            clear hm HQ HM
            have cN := fun d os => Calls.regrown_of (val_Named x.name (grow (redrawn (wr.alloc (.cells #[.string x.name, .int .i64 x.v.k, .int .i64 x.v.n, .string x.v.s] 60)) d) os) (by have := hwx.1; unfold okS at this; omega))
            simp only [hN] at cN
            have cM := fun d os => Calls.regrown_of (val_May x.v.k x.v.n x.v.s (grow (redrawn (wr.alloc (.cells #[.string x.name, .int .i64 x.v.k, .int .i64 x.v.n, .string x.v.s] 60)) d) os))
            simp only [hM] at cM
            have kx0 := cell_regrown (w := (wr.alloc (.cells #[.string x.name, .int .i64 x.v.k, .int .i64 x.v.n, .string x.v.s] 60))) (a := ⟨wr.heap.size, 0, none⟩) (v := .string x.name) (by simp)
            have kx1 := cell_regrown (w := (wr.alloc (.cells #[.string x.name, .int .i64 x.v.k, .int .i64 x.v.n, .string x.v.s] 60))) (a := ⟨wr.heap.size, 1, none⟩) (v := .int .i64 x.v.k) (by simp)
            have kx2 := cell_regrown (w := (wr.alloc (.cells #[.string x.name, .int .i64 x.v.k, .int .i64 x.v.n, .string x.v.s] 60))) (a := ⟨wr.heap.size, 2, none⟩) (v := .int .i64 x.v.n) (by simp)
            have kx3 := cell_regrown (w := (wr.alloc (.cells #[.string x.name, .int .i64 x.v.k, .int .i64 x.v.n, .string x.v.s] 60))) (a := ⟨wr.heap.size, 3, none⟩) (v := .string x.v.s) (by simp)
            go_wp2_with fail
            refine wp_region_quiet_below (by kernel_rfl) (by kernel_rfl) ?_
            repeat (first | go_big_quiet_step ((first | exact cN _ _ | exact cM _ _)) | quiet_step ((first | exact cN _ _ | exact cM _ _)))
            refine wpQuiet_nil ?_
            intro _ hw'
            obtain ⟨⟨dq, osq⟩, hw''⟩ := hw'
            subst hw''
            have hbq := below_regrown (wr.alloc (.cells #[.string x.name, .int .i64 x.v.k, .int .i64 x.v.n, .string x.v.s] 60)) dq osq
            have HB2 : Below w.heap.size w (grow (redrawn (wr.alloc (.cells #[.string x.name, .int .i64 x.v.k, .int .i64 x.v.n, .string x.v.s] 60)) dq) osq) := below2 (below_alloc HB _) hbq
            go_wp2_with fail
            go_ret
            exact ⟨by rw [HM2.out]; rfl, HB2⟩
        · have hN : named x.name = false := by simpa using hN
          have hm : rightV l = false := by rw [HQ.out]; simp [rightFrom, hN]
          have HM2 := Lib.hid hm
          clear hm HQ HM
          have cN := fun d os => Calls.regrown_of (val_Named x.name (grow (redrawn (wr.alloc (.cells #[.string x.name, .int .i64 x.v.k, .int .i64 x.v.n, .string x.v.s] 60)) d) os) (by have := hwx.1; unfold okS at this; omega))
          simp only [hN] at cN
          have kx0 := cell_regrown (w := (wr.alloc (.cells #[.string x.name, .int .i64 x.v.k, .int .i64 x.v.n, .string x.v.s] 60))) (a := ⟨wr.heap.size, 0, none⟩) (v := .string x.name) (by simp)
          have kx1 := cell_regrown (w := (wr.alloc (.cells #[.string x.name, .int .i64 x.v.k, .int .i64 x.v.n, .string x.v.s] 60))) (a := ⟨wr.heap.size, 1, none⟩) (v := .int .i64 x.v.k) (by simp)
          have kx2 := cell_regrown (w := (wr.alloc (.cells #[.string x.name, .int .i64 x.v.k, .int .i64 x.v.n, .string x.v.s] 60))) (a := ⟨wr.heap.size, 2, none⟩) (v := .int .i64 x.v.n) (by simp)
          have kx3 := cell_regrown (w := (wr.alloc (.cells #[.string x.name, .int .i64 x.v.k, .int .i64 x.v.n, .string x.v.s] 60))) (a := ⟨wr.heap.size, 3, none⟩) (v := .string x.v.s) (by simp)
          go_wp2_with fail
          refine wp_region_quiet_below (by kernel_rfl) (by kernel_rfl) ?_
          repeat (first | go_big_quiet_step (exact cN _ _) | quiet_step (exact cN _ _))
          refine wpQuiet_nil ?_
          intro _ hw'
          obtain ⟨⟨dq, osq⟩, hw''⟩ := hw'
          subst hw''
          have hbq := below_regrown (wr.alloc (.cells #[.string x.name, .int .i64 x.v.k, .int .i64 x.v.n, .string x.v.s] 60)) dq osq
          have HB2 : Below w.heap.size w (grow (redrawn (wr.alloc (.cells #[.string x.name, .int .i64 x.v.k, .int .i64 x.v.n, .string x.v.s] 60)) dq) osq) := below2 (below_alloc HB _) hbq
          go_wp2_with fail
          go_ret
          exact ⟨by rw [HM2.out]; rfl, HB2⟩
      · go_wp2_with fail
        go_ret
        have h9 := HK.out
        rw [List.drop_eq_nil_of_le (by rw [Hl.out]; omega)] at h9
        exact ⟨by rw [h9]; rfl, HB⟩
  · have hm : rightV l = false := by simp [rightV, hl, h16]
    have HM := Lib.hid hm
    clear hm hl hr hw
    go_enter Tryd.func21, Tryd.ntmps21
    go_wp2_with fail
    go_ret
    exact ⟨by rw [HM.out]; rfl, Below.refl _ _⟩
end Go.Proofs.YthhgfdejadbigaaDoor
/-
  A region that draws its order: quiet operations, then one last one that waits for all of them: walked in the order of the text.
-/
set_option linter.unusedVariables false
set_option linter.unusedSimpArgs false
namespace Go.Proofs.Base
open Go Go.RowKit
open Go.Sort (grow grow_empty)
def backB (l : List Oper) : Bool := (List.range l.length).all fun i => match l[i]? with
  | some o => o.after.all fun e => !Region.binds .any e || decide (e.on < i)
  | none => true
theorem backB_spec {l : List Oper} (h : backB l = true) {i : Nat} {o : Oper} (hi : l[i]? = some o) : ∀ e ∈ o.after, Region.binds .any e = true → e.on < i := by
  intro e he hb
  have hlt : i < l.length := (List.getElem?_eq_some_iff.1 hi).1
  have h1 := List.all_eq_true.1 h i (List.mem_range.2 hlt)
  simp only [hi] at h1
  have h2 := Array.all_eq_true_iff_forall_mem.1 h1 e he
  simp only [hb, Bool.not_true, Bool.false_or, decide_eq_true_eq] at h2
  exact h2
section
variable {P : Program} {l : List Oper} {t : Oper} {Q : Exit → Act → World → Prop} {C : World → Prop} {Q1 : Act → Prop}
def Agree (n : Nat) (lst lsa : Array Bool) : Prop := lsa.size = n ∧ lst.size = n + 1 ∧ ∀ j, j < n → ∀ d, lst.getD j d = lsa.getD j d
theorem ready_agree (hb : backB (l ++ [t]) = true) {lst lsa : Array Bool} (ha : Agree l.length lst lsa) {i : Nat} (hi : i < l.length) :
    i ∈ Region.ready .any (l ++ [t]).toArray lst ↔ i ∈ Region.ready .any l.toArray lsa := by
  rw [mem_ready, mem_ready, ha.2.2 i hi]
  have e1 : (l ++ [t]).toArray[i]? = l.toArray[i]? := by simp [List.getElem?_append_left hi]
  rw [e1]
  constructor
  · rintro ⟨h0, o, ho, h⟩
    refine ⟨h0, o, ho, fun e he hbd => ?_⟩
    have hlt := backB_spec hb (i := i) (o := o) (by simpa [List.getElem?_append_left hi] using ho) e he hbd
    rw [← ha.2.2 e.on (by omega)]
    exact h e he hbd
  · rintro ⟨h0, o, ho, h⟩
    refine ⟨h0, o, ho, fun e he hbd => ?_⟩
    have hlt := backB_spec hb (i := i) (o := o) (by simpa [List.getElem?_append_left hi] using ho) e he hbd
    rw [ha.2.2 e.on (by omega)]
    exact h e he hbd
theorem some_ready (hb : backB (l ++ [t]) = true) {lsa : Array Bool} (hs : lsa.size = l.length) : ∀ (i : Nat), i < l.length → lsa.getD i true = false → ∃ j, j < l.length ∧ j ∈ Region.ready .any l.toArray lsa := by
  intro i
  induction i using Nat.strongRecOn with
  | _ i ih =>
    intro hi hun
    by_cases hall : ∀ j, j < i → lsa.getD j false = true
    · refine ⟨i, hi, ?_⟩
      rw [mem_ready]
      refine ⟨hun, l[i], by simp [hi], fun e he hbd => ?_⟩
      have hlt := backB_spec hb (i := i) (o := l[i]) (by simp [List.getElem?_append_left hi]) e he hbd
      exact hall e.on hlt
    · obtain ⟨j, hj⟩ := Classical.not_forall.1 hall
      obtain ⟨hji, hj2⟩ := Classical.not_imp.1 hj
      have hf : lsa.getD j false = false := by simpa using hj2
      exact ih j hji (by omega) (getD_in (by omega) hf)
theorem set_agree {n : Nat} {lst lsa : Array Bool} (ha : Agree n lst lsa) (i : Nat) : Agree n (lst.setIfInBounds i true) (lsa.setIfInBounds i true) := by
  refine ⟨by simp [ha.1], by simp [ha.2.1], fun j hj d => ?_⟩
  by_cases hij : i = j
  · subst hij
    have h1 : i < lst.size := by rw [ha.2.1]; omega
    have h2 : i < lsa.size := by rw [ha.1]; exact hj
    simp [h1, h2]
  · rw [getD_set_ne d hij, getD_set_ne d hij]
    exact ha.2.2 j hj d
theorem all_done (hb : backB (l ++ [t]) = true) {lst : Array Bool} (hsz : lst.size = l.length + 1) (hall : ∀ j, j < l.length → lst.getD j false = true) (hn : lst.getD l.length true = false) {a : Act} {W : World}
    (h : wpList P (l ++ [t]).toArray Q [t] a W) (m : Nat) : wpAny P .any (l ++ [t]).toArray Q (m + 1) lst a W := by
  have hr : ∀ i, i ∈ Region.ready .any (l ++ [t]).toArray lst ↔ i = l.length := by
    intro i
    constructor
    · intro hi
      obtain ⟨h0, o, ho, _⟩ := mem_ready.1 hi
      have hlt : i < l.length + 1 := by have := (Array.getElem?_eq_some_iff.1 ho).1; simpa using this
      rcases Nat.lt_or_ge i l.length with h1 | h1
      · have := hall i h1
        rw [getD_both h0] at this
        cases this
      · omega
    · rintro rfl
      rw [mem_ready]
      refine ⟨hn, t, by simp, fun e he hbd => hall e.on ?_⟩
      exact backB_spec hb (i := l.length) (o := t) (by simp) e he hbd
  have hfin : ∀ i, i ∉ Region.ready .any (l ++ [t]).toArray (lst.setIfInBounds l.length true) := by
    intro i hi
    obtain ⟨h0, o, ho, _⟩ := mem_ready.1 hi
    have hlt : i < l.length + 1 := by have := (Array.getElem?_eq_some_iff.1 ho).1; simpa using this
    by_cases h1 : i = l.length
    · subst h1
      have h2 : l.length < lst.size := by omega
      simp [h2] at h0
    · rw [getD_set_ne true (Ne.symm h1)] at h0
      have := hall i (by omega)
      rw [getD_both h0] at this
      cases this
  have hnil : Region.ready .any (l ++ [t]).toArray (lst.setIfInBounds l.length true) = [] := List.eq_nil_iff_forall_not_mem.2 hfin
  have hK : ∀ a W, Q .normal a W → wpAny P .any (l ++ [t]).toArray Q m (lst.setIfInBounds l.length true) a W := by
    intro a W hq
    cases m with
    | zero => exact ⟨hnil, hq⟩
    | succ m => exact ⟨fun _ => hq, fun i hi => absurd hi (hfin i)⟩
  refine ⟨fun h0 => ?_, fun i hi => ?_⟩
  · have := (hr l.length).2 rfl
    rw [h0] at this
    cases this
  · rw [(hr i).1 hi]
    have e1 : (l ++ [t]).toArray[l.length]? = some t := by simp
    unfold wpOp
    simp only [e1]
    unfold wpList at h
    by_cases hw : Region.wanted t (yielded (l ++ [t]).toArray a.tmps) = true
    · rw [if_pos hw] at h ⊢
      rcases h with h | h
      · exact .inl (Oper.wp_mono (fun a W hq => hK a W hq) h)
      · exact .inr h
    · rw [if_neg hw] at h ⊢
      exact hK _ _ h
theorem yielded_app {a : Array Value} {o : Oper} (hg : ∀ g b, o.guard = some (g, b) → g < l.length) : Region.wanted o (yielded (l ++ [t]).toArray a) = Region.wanted o (yielded l.toArray a) := by
  unfold Region.wanted
  cases h : o.guard with
  | none => rfl
  | some p =>
    obtain ⟨g, b⟩ := p
    have := hg g b h
    simp only [yielded]
    have e : (l ++ [t]).toArray[g]? = l.toArray[g]? := by simp [List.getElem?_append_left this]
    rw [e]
def guardB (l : List Oper) : Bool := l.all fun o => match o.guard with
  | some (g, _) => decide (g < l.length)
  | none => true
theorem tail_any (hb : backB (l ++ [t]) = true) (hg : guardB l = true) (hs : Region.sinkB .any (l ++ [t]).toArray l.length = true) (hc : Region.chainB .any (l ++ [t]).toArray l.length = true)
    (hQ : ∀ a W, C W → Q1 a → wpList P (l ++ [t]).toArray Q [t] a W) : ∀ (f : Nat) (lst lsa : Array Bool) (a : Act) (W : World), HeadInv .any (l ++ [t]).toArray l.length lst → Agree l.length lst lsa → C W →
    wpAnyQ P .any l.toArray C Q1 f lsa a → wpAny P .any (l ++ [t]).toArray Q (f + 1) lst a W := by
  have hn : l.length < (l ++ [t]).toArray.size := by simp
  have htl : ∀ lst, HeadInv .any (l ++ [t]).toArray l.length lst → lst.getD l.length true = false := fun lst inv => inv.tail l.length (Nat.le_refl _) hn
  have hdone : ∀ (lst lsa : Array Bool), Agree l.length lst lsa → Region.ready .any l.toArray lsa = [] → ∀ j, j < l.length → lst.getD j false = true := by
    intro lst lsa ha hr j hj
    cases h : lst.getD j false with
    | true => rfl
    | false =>
      rw [ha.2.2 j hj] at h
      obtain ⟨k, _, hk⟩ := some_ready hb ha.1 j hj (getD_in (by rw [ha.1]; exact hj) h)
      rw [hr] at hk
      cases hk
  intro f
  induction f with
  | zero =>
    intro lst lsa a W inv ha hC h
    exact all_done hb (by rw [ha.2.1]) (hdone lst lsa ha h.1) (htl lst inv) (hQ a W hC h.2) 0
  | succ f ih =>
    intro lst lsa a W inv ha hC h
    by_cases hr : Region.ready .any l.toArray lsa = []
    · exact all_done hb (by rw [ha.2.1]) (hdone lst lsa ha hr) (htl lst inv) (hQ a W hC (h.1 hr)) (f + 1)
    · obtain ⟨k, hk⟩ := List.exists_mem_of_ne_nil _ hr
      have hkl : k < l.length := by
        obtain ⟨_, o, ho, _⟩ := mem_ready.1 hk
        have := (Array.getElem?_eq_some_iff.1 ho).1
        simpa using this
      have hk' := (ready_agree hb ha hkl).2 hk
      refine ⟨fun h0 => (by rw [h0] at hk'; cases hk'), fun i hi => ?_⟩
      have hil : i < l.length := by
        rcases Nat.lt_or_ge i l.length with h1 | h1
        · exact h1
        · exact absurd hi (tail_waits hs hc hn inv _ k rfl hkl (mem_ready.1 hk').1 i h1)
      have hq := h.2 i ((ready_agree hb ha hil).1 hi)
      have e1 : (l ++ [t]).toArray[i]? = some l[i] := by simp [List.getElem?_append_left hil]
      have e2 : l.toArray[i]? = some l[i] := by simp [hil]
      have hgi : ∀ g b, l[i].guard = some (g, b) → g < l.length := by
        intro g b hgb
        have h1 := List.all_eq_true.1 hg l[i] (List.getElem_mem hil)
        rw [hgb] at h1
        simpa using h1
      have hq' : qOp P (l ++ [t]).toArray C i (wpAnyQ P .any l.toArray C Q1 f (lsa.setIfInBounds i true)) a := by
        unfold qOp at hq ⊢
        simp only [e1, e2] at hq ⊢
        rw [yielded_app hgi]
        exact hq
      exact wpOp_of_qOp hC (fun a' W' hC' hK => ih _ _ a' W' (inv.set hi hil) (set_agree ha i) hC' hK) hq'
theorem wp_region_quiet_tail {id : Nat} {a : Act} {w : World} (l : List Oper) (t : Oper) (hm : P.follows .mixedOrders = true) (hB : Region.lexB .any l.toArray = true) (hb : backB (l ++ [t]) = true) (hg : guardB l = true)
    (hs : Region.sinkB .any (l ++ [t]).toArray l.length = true) (hc : Region.chainB .any (l ++ [t]).toArray l.length = true)
    (h : wpQuiet P l.toArray (fun w' => ∃ p : Regrown, w' = grow (redrawn w p.d) p.os) (fun a' => ∀ w', (∃ p : Regrown, w' = grow (redrawn w p.d) p.os) → wpList P (l ++ [t]).toArray Q [t] a' w') l a) :
    (Code.region id (l ++ [t]).toArray true).wp P Q a w := by
  have hC : (fun w' : World => ∃ p : Regrown, w' = grow (redrawn w p.d) p.os) { w with drawn := w.drawn + 1 } := ⟨⟨w.drawn + 1, #[]⟩, by rw [grow_empty]; rfl⟩
  simp only [Region.lexB, Bool.and_eq_true] at hB
  refine wp_region_any hm ?_
  have h1 := wpAnyQ_lex (C := fun w' : World => ∃ p : Regrown, w' = grow (redrawn w p.d) p.os) (md := .any) hB.1 l 0 (Array.replicate l.length false) a (by simp) (by simpa using hB.2) h
  have h2 := tail_any (P := P) (Q := Q) (C := fun w' : World => ∃ p : Regrown, w' = grow (redrawn w p.d) p.os) (Q1 := fun a' => ∀ w', (∃ p : Regrown, w' = grow (redrawn w p.d) p.os) → wpList P (l ++ [t]).toArray Q [t] a' w') hb hg hs hc (fun a W hC hq => hq W hC) l.length (Array.replicate (l.length + 1) false) (Array.replicate l.length false) a _
    ⟨by simp, (fun j oj hj hl => by rw [getD_replicate_false] at hl; cases hl), (fun t h1 h2 => by
      have h3 : t < l.length + 1 := by simpa using h2
      simp [h3])⟩
    ⟨by simp, by simp, (fun j hj d => by
      have h3 : j < l.length + 1 := by omega
      simp [hj, h3])⟩ hC h1
  simpa using h2
end
end Go.Proofs.Base
/-
  strings.Builder: a builder of the call's own, written and read.
-/
set_option linter.unusedVariables false
set_option linter.unusedSimpArgs false
namespace Go.Proofs.YthhgfdejadbigaaDoor
open Go Go.RowKit Go.Proofs.Base Go.Shelf
def lays169_ren : Go.Shelf.Ren := ⟨fun | 169 => 41 | n => n, fun | 70 => 67 | 9 => 9 | 0 => 0 | 72 => 69 | 37 => 62 | 127 => 97 | 3 => 3 | 5 => 5 | n => n, fun | n => n⟩
theorem lays169 : Go.Proofs.Lays.n169 Tryd.prog lays169_ren := {
  mixed := by kernel_rfl
  f169 := Tryd.func41.trans (congrArg some (by kernel_rfl))
  t0 := Tryd.underlying0
  a0 := Tryd.isAgg0
  z0 := Tryd.sizeOf0
  v0 := Tryd.zeroValue0
  t3 := Tryd.underlying3
  a3 := Tryd.isAgg3
  z3 := Tryd.sizeOf3
  v3 := Tryd.zeroValue3
  t9 := Tryd.underlying9
  a9 := Tryd.isAgg9
  z9 := Tryd.sizeOf9
  v9 := Tryd.zeroValue9
  t37 := Tryd.underlying62
  a37 := Tryd.isAgg62
  z37 := Tryd.sizeOf62
  v37 := Tryd.zeroValue62
  t70 := Tryd.underlying67
  a70 := Tryd.isAgg67
  z70 := Tryd.sizeOf67
  v70 := Tryd.zeroValue67
  t72 := Tryd.underlying69
  a72 := Tryd.isAgg69
  z72 := Tryd.sizeOf69
  v72 := Tryd.zeroValue69
  t127 := Tryd.underlying97
  a127 := Tryd.isAgg97
  z127 := Tryd.sizeOf97
  v127 := Tryd.zeroValue97 }
theorem extra169 : Builder.Extra Tryd.prog lays169_ren := {
  sizeBuilder := by kernel_rfl
  liesBuilder := by kernel_rfl
  t5 := Tryd.underlying5
  a5 := Tryd.isAgg5
  z5 := Tryd.sizeOf5
  v5 := Tryd.zeroValue5
  infoByte := by kernel_rfl
  cellsByte := by kernel_rfl
  sizeByte := by kernel_rfl
  neB5 := by decide }
def Bld (w : World) (B b : Nat) (s : ByteArray) : Prop := Lib.IsBuilder 69 5 B b (Lib.strCells s) w
def bldT (w : World) (b k : Nat) : Prop := k = b ∨ ∃ c f, w.heap[k]? = some (.cells c 5 f)
theorem Bld.new (w : World) : Bld (w.alloc (.cells #[.pointer none, .slice none 0 0] 69)) w.heap.size w.heap.size ByteArray.empty := Lib.fresh_isBuilder 69 5 w
theorem Bld.kept {w w' : World} {B b : Nat} {s : ByteArray} (h : Bld w B b s) (hb : Below w.heap.size w w') : Bld w' B b s := by
  have key : ∀ p, Lib.BuilderAt 69 5 B b p (Lib.strCells s) w → Lib.BuilderAt 69 5 B b p (Lib.strCells s) w' := by
    rintro p ⟨hB, v, hbk, hown, hne⟩
    exact ⟨hB, v, block_below hb hbk, hown.kept (grown_of_below hb none) (by cases v.ownBlock <;> simp), hne⟩
  rcases h with h | h
  · exact .inl (key _ h)
  · exact .inr (key _ h)
theorem Bld.lt {w : World} {B b : Nat} {s : ByteArray} (h : Bld w B b s) : B ≤ b ∧ b < w.heap.size := by
  rcases h with ⟨hB, v, hbk, _⟩ | ⟨hB, v, hbk, _⟩
  · exact ⟨hB, lt_of_blk hbk⟩
  · exact ⟨hB, lt_of_blk hbk⟩
set_option maxRecDepth 100000 in
set_option maxHeartbeats 1000000 in
theorem bld_check (B b : Nat) (bs : List Value) (w : World) (h : Lib.IsBuilder 69 5 B b bs w) :
    Calls Tryd.prog 68 #[.pointer (some ⟨b, 0, none⟩)] w fun e w' => e = .returned (.tuple #[]) ∧ Lib.BuilderAt 69 5 B b (.pointer (some ⟨b, 0, none⟩)) bs w' ∧ Below B w w' ∧ Mut (fun k => k = b) w w' := by
  have hsz : (Tryd.prog.info? 69).map (fun i => i.size) = some 2 := by kernel_rfl
  obtain ⟨j, hj, hjs⟩ := Option.map_eq_some_iff.1 hsz
  rcases h with h | h
  · have h0 := h.cell0
    have hsh := h.shape
    have hfz := h.frozen0
    have H := Lib.hid h
    clear h
    go_enter Tryd.func68, Tryd.ntmps68
    go_wp2
    rw [Lib.run_to_unsafe w ⟨b, 0, none⟩ Tryd.underlying67 Tryd.underlying116 hj (by rw [hjs]; decide) hsh (Nat.zero_lt_succ 1)]
    simp only [Result.andThen]
    rw [Oper.upon_value]
    go_wp2
    rw [run_callFunc_extern Tryd.func86 (by kernel_rfl) (by kernel_rfl) (by kernel_rfl) (e := Extern.AbiNoEscape.same) (by kernel_rfl)]
    rw [Lib.run_noEscape]
    simp only [Result.andThen]
    rw [Oper.upon_value]
    go_wp2
    rw [Lib.run_from_unsafe w ⟨b, 0, none⟩ Tryd.underlying116 Tryd.underlying67 hj hsh extra169.liesBuilder]
    simp only [Result.andThen]
    rw [Oper.upon_value]
    go_wp2
    go_end0
    exact ⟨rfl, H.out.used _, (Below.refl B w).setCell (p := ⟨b, 0, none⟩) H.out.1 _, Mut.setCell (T := fun k => k = b) (Mut.refl _ w) (p := ⟨b, 0, none⟩) (fun _ => rfl) _⟩
  · have h0 := h.cell0
    have H := Lib.hid h
    clear h
    go_enter Tryd.func68, Tryd.ntmps68
    go_wp2
    rw [Lib.run_neq_ptr_same w _ Tryd.underlying67 hj]
    go_wp2
    go_end0
    exact ⟨rfl, H.out, Below.refl B _, Mut.refl _ _⟩
set_option maxRecDepth 100000 in
set_option maxHeartbeats 2000000 in
theorem bld_WriteString (B b : Nat) (s t : ByteArray) (w : World) (h : Bld w B b s) (hlen : s.size + t.size ≤ 140737488355328) (hBw : B ≤ w.heap.size) :
    Calls Tryd.prog 40 #[.pointer (some ⟨b, 0, none⟩), .string t] w fun e w' => e = .returned (.tuple #[.int .i64 t.size, .nilIface]) ∧ Bld w' B b (s ++ t) ∧ Below B w w' ∧ Mut (bldT w b) w w' := by
  obtain ⟨i0, hi, hz0, hz1, hz2⟩ := info_parts extra169.infoByte
  have hl : (Lib.strCells s).length = s.size := Lib.strCells_length s
  have hcat : Lib.strCells (s ++ t) = Lib.strCells s ++ Lib.strCells t := by simp [Lib.strCells]
  have Hcat := Lib.hid hcat
  have Hl := Lib.hid hl
  clear hcat hl
  go_enter Tryd.func40, Tryd.ntmps40
  go_wp2_with (go_at_call 68; refine (bld_check B b _ _ h).mono ?_)
  rintro e w1 ⟨rfl, h1, hb1, hm1⟩
  obtain ⟨hB, v, hbk, hown, hne⟩ := h1
  have c0 : w1.cell? ⟨b, 0, none⟩ = some (.pointer (some ⟨b, 0, none⟩)) := by rw [Lib.cell_of_heap hbk]; rfl
  have c1 : w1.cell? ⟨b, 1, none⟩ = some v := by rw [Lib.cell_of_heap hbk]; rfl
  go_wp2_with (at_builtin; refine Lib.wpList_append_own_string _ rfl _ _ 62 9 rfl B 5 i0 Tryd.underlying62 Tryd.underlying9 hi hz0 hz1 hz2 _ _ _ rfl hown t rfl ?c3 ?c4 ?c5 ?_)
  case c3 => rw [Hl.out]; unfold maxLen; omega
  case c4 => rw [Hl.out]; omega
  case c5 => have := hb1.size; omega
  intro v' w2 hown' hgrow _
  have hlt : b < w1.heap.size := lt_of_blk hbk
  have hb2 : w2.heap[b]? = some (.cells #[.pointer (some ⟨b, 0, none⟩), v] 69 (0, 0)) := by
    rw [hgrow.block b hlt (fun e => hne e.symm)]
    exact hbk
  have d0 : w2.cell? ⟨b, 0, none⟩ = some (.pointer (some ⟨b, 0, none⟩)) := by rw [Lib.cell_of_heap hb2]; rfl
  have d1 : w2.cell? ⟨b, 1, none⟩ = some v := by rw [Lib.cell_of_heap hb2]; rfl
  have f1 : w2.frozen? ⟨b, 1, none⟩ = false := Lib.frozen_of_heap hb2 1
  have hblk : ∀ k, v.ownBlock = some k → k < w.heap.size → bldT w b k := by
    intro k hk hkw
    rcases hown.2 with ⟨rfl, _⟩ | ⟨g, cap, cur, rfl, _, hh, _⟩
    · cases hk
    · have : g = k := by simpa [Value.ownBlock] using hk
      subst this
      by_cases hgb : g = b
      · exact .inl hgb
      · exact .inr ⟨cur, (0, 0), by rw [← hm1.block g hkw hgb]; exact hh⟩
  obtain ⟨ao, n', cap, rfl⟩ : ∃ ao n' cap, v' = .slice ao n' cap := by
    rcases hown'.2 with ⟨hv, _⟩ | ⟨g, cap, cur, hv, _⟩
    · exact ⟨_, _, _, hv⟩
    · exact ⟨_, _, _, hv⟩
  have M1 : Mut (bldT w b) w w2 := (hm1.mono (fun k _ hk => .inl hk)).trans (T' := fun k => v.ownBlock = some k) (Mut.grown hgrow (fun k hk => hk)) (fun k hk h => hblk k h hk)
  have HM1 := Lib.hid M1
  clear hblk M1
  go_wp2
  go_ret2
  refine ⟨rfl, ?_, ?_, HM1.out.setCell (p := ⟨b, 1, none⟩) (fun _ => .inl rfl) _⟩
  · refine .inr (Lib.BuilderAt.put (T := 69) (e := 5) hB hb2 (bs' := Lib.strCells (s ++ t)) ?_ extra169.neB5)
    rw [Hcat.out]
    simpa [Lib.strCells_length] using hown'
  · exact (hb1.grown hgrow (by have := hb1.size; omega) (fun k hk => (hown.lt k hk).1)).setCell (p := ⟨b, 1, none⟩) hB _
theorem bld_String (B b : Nat) (s : ByteArray) (w : World) (h : Bld w B b s) (hBw : B ≤ w.heap.size) :
    Calls Tryd.prog 41 #[.pointer (some ⟨b, 0, none⟩)] w fun e w' => e = .returned (.string s) ∧ Below B w w' := by
  have := Any.Builder_String_any lays169 extra169 B b (toL s) w h hBw
  exact this
end Go.Proofs.YthhgfdejadbigaaDoor
/-
  The walk of value.VarsBytes over variables at whatever address. Turned out of XValC by program (see wip/tools/genvarsg.py).
-/
set_option linter.unusedVariables false
set_option linter.unusedSimpArgs false
namespace Go.Proofs.YthhgfdejadbigaaDoor
open Go Go.RowKit Go.Proofs.Base
open Go.Sort (grow)
set_option maxRecDepth 100000 in
set_option maxHeartbeats 2000000 in
theorem val_VarsBytesG (A : Option Addr) (n c : Nat) (l : List GVar) (w : World) (hl : l.length = n) (hnc : n ≤ c) (hr : ReadsV w A l) (hw : ∀ x ∈ l, x.wf)
    (hR0 : ∀ W, Below w.heap.size w W → Calls Tryd.prog 21 #[.slice A n c] W fun e w' => e = .returned (.bool (rightV l)) ∧ Below W.heap.size W w') :
    Calls Tryd.prog 27 #[.slice A n c] w fun e w' => e = .returned (.string (varsB l)) ∧ Below w.heap.size w w' := by
  have hR := hR0 w (Below.refl _ _)
  clear hR0
  by_cases hm : rightV l = true
  · obtain ⟨h16, hall⟩ := rightV_all hm
    rw [hl] at h16
    have hv : varsB l = uintB n ++ varsCat (l.drop 0) := by unfold varsB; rw [if_pos hm, hl]; rfl
    simp only [hm] at hR
    have HV := Lib.hid hv
    have HR := Lib.hid hR
    have Hl := Lib.hid hl
    have Hr := Lib.hid hr
    have Hw := Lib.hid hw
    have Hall := Lib.hid hall
    have hu := uintB_size (v := n) (by omega)
    clear hv hR hl hr hw hall hm
    go_enter Tryd.func27, Tryd.ntmps27
    go_wp2_with (first | (go_at_call 21; refine HR.out.mono ?_; rintro e w1 ⟨rfl, hb1⟩) | (go_at_call 55; refine (wire_Uint _ _ (by omega) (by omega)).mono ?_; rintro e w2 ⟨rfl, hb2⟩))
    refine (bld_WriteString w1.heap.size w1.heap.size ByteArray.empty (uintB n) w2 ((Bld.new w1).kept hb2) (by rw [show ByteArray.empty.size = 0 from rfl]; omega) (by have := hb2.size; simp at this; omega)).mono ?_
    rintro e w3 ⟨rfl, hB3, hb3, hm3⟩
    have hbl3 : Below w.heap.size w w3 := by
      have h1 := below2 (below_alloc hb1 (.cells #[.pointer none, .slice none 0 0] 69)) hb2
      exact h1.trans (hb3.mono hb1.size)
    rw [empty_app] at hB3
    have hbs := hb1.size
    generalize w1.heap.size = b0 at *
    clear hm3 hb3 hb2 hb1
    go_wp2_with fail
    go_loopw [5, 16] (fun _ i wr => ∃ (k : Nat) (acc : ByteArray), k ≤ n ∧ i = .int .i64 k ∧ Bld wr b0 b0 acc ∧ acc.size ≤ 10 + k * 2000 ∧ Hid (varsB l = acc ++ varsCat (l.drop k)) ∧ Below w.heap.size w wr) (fun _ i _ => n - (intOf i).toNat)
    case atStart => exact ⟨0, uintB n, Nat.zero_le _, rfl, hB3, by omega, HV, hbl3⟩
    case round =>
      clear hB3 hbl3
      obtain ⟨k, acc, hk, rfl, hA, hacc, HK, HB⟩ := hrel
      by_cases hlt : k < n
      · have hkl : k < l.length := by rw [Hl.out]; exact hlt
        obtain ⟨ad, rfl, _, c0, c1, c2, c3⟩ := Hr.out.below HB k hkl
        have hwx := Hw.out _ (List.getElem_mem hkl)
        have hax := Hall.out _ (List.getElem_mem hkl)
        have hq := HK.out
        rw [List.drop_eq_getElem_cons hkl] at hq
        generalize l[k] = x at *
        obtain ⟨hwn, hwk, hwi, hws⟩ := hwx
        obtain ⟨hxn, hxm⟩ := hax
        have hn32 := (named_size hxn).1
        have ht1 := textB_size (s := x.name) (by omega)
        have ht2 : (valB x.v.k x.v.n x.v.s).size ≤ 1100 := valB_size hwi hxm
        have hsz : ¬ 9223372036854775807 < (textB x.name).size + (valB x.v.k x.v.n x.v.s).size := by omega
        have hq2 : varsB l = (acc ++ (textB x.name ++ valB x.v.k x.v.n x.v.s)) ++ varsCat (l.drop (k + 1)) := by rw [hq, app_assoc]; rfl
        have HQ := Lib.hid hq2
        have HWn := Lib.hid hwn
        have HWk := Lib.hid hwk
        have HWi := Lib.hid hwi
        have HWs := Lib.hid hws
        have HA := Lib.hid hA
        clear hq hq2 HK hkl hxn hxm hwn hwk hwi hws hA
        have cT := fun d os => Calls.regrown_of (wire_Text x.name (grow (redrawn (wr.alloc (.cells #[.string x.name, .int .i64 x.v.k, .int .i64 x.v.n, .string x.v.s] 60)) d) os) (by omega))
        have cB := fun d os => Calls.regrown_of (val_Bytes x.v.k x.v.n x.v.s (grow (redrawn (wr.alloc (.cells #[.string x.name, .int .i64 x.v.k, .int .i64 x.v.n, .string x.v.s] 60)) d) os) HWk.out HWi.out HWs.out)
        have kx0 := cell_regrown (w := (wr.alloc (.cells #[.string x.name, .int .i64 x.v.k, .int .i64 x.v.n, .string x.v.s] 60))) (a := ⟨wr.heap.size, 0, none⟩) (v := .string x.name) (by simp)
        have kx1 := cell_regrown (w := (wr.alloc (.cells #[.string x.name, .int .i64 x.v.k, .int .i64 x.v.n, .string x.v.s] 60))) (a := ⟨wr.heap.size, 1, none⟩) (v := .int .i64 x.v.k) (by simp)
        have kx2 := cell_regrown (w := (wr.alloc (.cells #[.string x.name, .int .i64 x.v.k, .int .i64 x.v.n, .string x.v.s] 60))) (a := ⟨wr.heap.size, 2, none⟩) (v := .int .i64 x.v.n) (by simp)
        have kx3 := cell_regrown (w := (wr.alloc (.cells #[.string x.name, .int .i64 x.v.k, .int .i64 x.v.n, .string x.v.s] 60))) (a := ⟨wr.heap.size, 3, none⟩) (v := .string x.v.s) (by simp)
        go_wp2_with fail
        refine wp_region_quiet_tail [_, _, _, _, _, _, _] _ (by kernel_rfl) (by kernel_rfl) (by kernel_rfl) (by kernel_rfl) (by kernel_rfl) (by kernel_rfl) ?_
        repeat (first | go_big_quiet_step (first | exact cT _ _ | exact cB _ _) | quiet_step (first | exact cT _ _ | exact cB _ _))
        refine wpQuiet_nil ?_
        intro _ hw'
        obtain ⟨⟨dq, osq⟩, hw''⟩ := hw'
        subst hw''
        have hbq := below_regrown (wr.alloc (.cells #[.string x.name, .int .i64 x.v.k, .int .i64 x.v.n, .string x.v.s] 60)) dq osq
        have HB2 : Below w.heap.size w (grow (redrawn (wr.alloc (.cells #[.string x.name, .int .i64 x.v.k, .int .i64 x.v.n, .string x.v.s] 60)) dq) osq) := below2 (below_alloc HB _) hbq
        have hA2 : Bld (grow (redrawn (wr.alloc (.cells #[.string x.name, .int .i64 x.v.k, .int .i64 x.v.n, .string x.v.s] 60)) dq) osq) b0 b0 acc := (HA.out.kept ((Below.refl _ _).alloc (Nat.le_refl _) _)).kept hbq
        have hszW := hA2.lt
        go_wp2_with (go_at_call 40; refine (bld_WriteString b0 b0 acc _ _ hA2 (by rw [app_size]; omega) (by omega)).mono ?_; rintro e w4 ⟨rfl, hB4, hb4, hm4⟩)
        go_roundw
        case rel => exact ⟨k + 1, _, by omega, by go_num, hB4, by rw [app_size, app_size]; omega, HQ, HB2.trans (hb4.mono hbs)⟩
        case measure => simp [intOf]; omega
      · have hA' := hA.lt
        have hf := HK.out
        rw [List.drop_eq_nil_of_le (by rw [Hl.out]; omega)] at hf
        have HF := Lib.hid hf
        clear hf HK
        go_wp2_with (go_at_call 41; refine (bld_String b0 b0 acc _ hA (by omega)).mono ?_; rintro e w4 ⟨rfl, hb4⟩)
        go_ret
        exact ⟨by rw [HF.out]; exact ret1 (vstr (app_empty _).symm), HB.trans (hb4.mono hbs)⟩
  · have hm : rightV l = false := by simpa using hm
    have hv : varsB l = ByteArray.empty := by unfold varsB; rw [hm]; rfl
    simp only [hm] at hR
    have HV := Lib.hid hv
    have HR := Lib.hid hR
    clear hv hR hl hr hw hm
    go_enter Tryd.func27, Tryd.ntmps27
    go_wp2_with (go_at_call 21; refine HR.out.mono ?_; rintro e w1 ⟨rfl, hb1⟩)
    go_ret
    exact ⟨by rw [HV.out]; rfl, hb1⟩
end Go.Proofs.YthhgfdejadbigaaDoor
/-
  The walk of value.Get.
-/
set_option linter.unusedVariables false
set_option linter.unusedSimpArgs false
namespace Go.Proofs.YthhgfdejadbigaaDoor
open Go Go.RowKit Go.Proofs.Base
open Go.Sort (grow)
theorem blk_new0 (w : World) (o : Obj) {n : Nat} (h : n = w.heap.size) : (w.alloc o).heap[n]? = some o := by
  subst h
  exact heap_alloc_new w o
theorem get_is (B : Nat) (name : ByteArray) (x : GVar) (w : World) (hB : w.cell? ⟨B, 0, none⟩ = some (.string name)) :
    Calls Tryd.prog 49 #[.agg #[.string x.name, .int .i64 x.v.k, .int .i64 x.v.n, .string x.v.s], .pointer (some ⟨B, 0, none⟩)] w fun e w' => e = .returned (.bool (x.name.toList == name.toList)) ∧ Below w.heap.size w w' := by
  have hlt := World.block_lt_of_cell? w _ hB
  have hc : (w.alloc (.cells #[.string x.name, .int .i64 x.v.k, .int .i64 x.v.n, .string x.v.s] 60)).cell? ⟨B, 0, none⟩ = some (.string name) := (((Below.refl w.heap.size w).alloc (Nat.le_refl _) _).cell (p := ⟨B, 0, none⟩) hlt).trans hB
  go_enter Tryd.func49, Tryd.ntmps49
  go_wp2
  go_ret
  exact ⟨rfl, (Below.refl _ _).alloc (Nat.le_refl _) _⟩
set_option maxRecDepth 100000 in
set_option maxHeartbeats 1000000 in
theorem get_index (A : Option Addr) (n c B : Nat) (name : ByteArray) (l : List GVar) (w : World) (hl : l.length = n) (hnc : n ≤ c) (hn : n ≤ 9223372036854775807) (hr : ReadsV w A l) (hB : w.cell? ⟨B, 0, none⟩ = some (.string name)) :
    Calls Tryd.prog 48 #[.slice A n c, .func (.func 49) #[] #[.pointer (some ⟨B, 0, none⟩)]] w fun e w' => e = .returned (.int .i64 (idxGo name l 0)) ∧ Below w.heap.size w w' := by
  have HR := Lib.hid hr
  have HL := Lib.hid hl
  have HB := Lib.hid hB
  have hlt := World.block_lt_of_cell? w _ hB
  clear hr hl hB
  go_enter Tryd.func48, Tryd.ntmps48
  go_wp2_with fail
  go_loopw [5, 8] (fun _ i wr => ∃ k : Nat, k ≤ n ∧ i = .int .i64 k ∧ Hid (idxGo name l 0 = idxGo name (l.drop k) k) ∧ Below w.heap.size w wr) (fun _ i _ => n - (intOf i).toNat)
  case atStart => exact ⟨0, by omega, rfl, Lib.hid rfl, Below.refl _ _⟩
  case round =>
    obtain ⟨k, hk, rfl, HK, hbl⟩ := hrel
    have HBL := Lib.hid hbl
    by_cases hkn : k < n
    · have hk1 : k < l.length := by rw [HL.out]; exact hkn
      obtain ⟨ad, rfl, _, c0, c1, c2, c3⟩ := HR.out.below hbl k hk1
      have hq := HK.out
      rw [List.drop_eq_getElem_cons hk1] at hq
      generalize l[k] = x at *
      have HQ := Lib.hid hq
      have HBr := Lib.hid ((hbl.cell (p := ⟨B, 0, none⟩) hlt).trans HB.out)
      clear hq hbl HK
      by_cases hx : (x.name.toList == name.toList) = true
      · have HX := Lib.hid hx
        clear hx
        go_wp2_with (go_at_call 49; refine (get_is B name x _ HBr.out).mono ?_; rintro e w1 ⟨rfl, hb1⟩; rw [HX.out])
        go_ret
        refine ⟨?_, below2 HBL.out hb1⟩
        have e2 : idxGo name (x :: l.drop (k + 1)) k = k := by show (if _ then _ else _) = _; rw [if_pos HX.out]
        rw [HQ.out, e2]; rfl
      · have hx2 : (x.name.toList == name.toList) = false := by simpa using hx
        have HX := Lib.hid hx2
        have HQ2 : Hid (idxGo name l 0 = idxGo name (l.drop (k + 1)) (k + 1)) := Lib.hid (by rw [HQ.out]; show (if _ then _ else _) = _; rw [if_neg hx])
        clear hx hx2
        go_wp2_with (go_at_call 49; refine (get_is B name x _ HBr.out).mono ?_; rintro e w1 ⟨rfl, hb1⟩; rw [HX.out])
        go_roundw
        case rel => exact ⟨k + 1, by omega, by go_num, HQ2, below2 HBL.out hb1⟩
        case measure => simp [intOf]; omega
    · have HQ : Hid (idxGo name l 0 = -1) := Lib.hid (by rw [HK.out, List.drop_eq_nil_of_le (by rw [HL.out]; omega)]; rfl)
      clear HK
      go_wp2_with fail
      go_ret
      exact ⟨by rw [HQ.out]; rfl, hbl⟩
def getOut (name : ByteArray) (l : List GVar) : GVal × Bool := match getV name l with | some v => (v, true) | none => (zeroV, false)
set_option maxRecDepth 100000 in
set_option maxHeartbeats 1000000 in
theorem val_Get (A : Option Addr) (n c : Nat) (name : ByteArray) (l : List GVar) (w : World) (hl : l.length = n) (hnc : n ≤ c) (hn : n ≤ 9223372036854775807) (hr : ReadsV w A l) :
    Calls Tryd.prog 18 #[.slice A n c, .string name] w fun e w' => e = .returned (.tuple #[.agg #[.int .i64 (getOut name l).1.k, .int .i64 (getOut name l).1.n, .string (getOut name l).1.s], .bool (getOut name l).2]) ∧ Below w.heap.size w w' := by
  have hb2 : Below w.heap.size w ((w.alloc (.cells #[.string name] 9)).alloc (.cells #[.int .i64 0, .int .i64 0, .string ⟨#[]⟩] 23)) := ((Below.refl _ _).alloc (Nat.le_refl _) _).alloc (by simp) _
  have hB : ((w.alloc (.cells #[.string name] 9)).alloc (.cells #[.int .i64 0, .int .i64 0, .string ⟨#[]⟩] 23)).cell? ⟨w.heap.size, 0, none⟩ = some (.string name) := by simp
  have hC := get_index A n c w.heap.size name l _ hl hnc hn (hr.below hb2) hB
  have hg : getOut name l = match getV name l with | some v => (v, true) | none => (zeroV, false) := rfl
  rcases idxGo_spec name l 0 with ⟨h1, h2⟩ | ⟨j, hj, h1, h2⟩
  · rw [h1] at hC
    rw [h2] at hg
    have HC := Lib.hid hC
    have HB2 := Lib.hid hb2
    have HG := Lib.hid hg
    clear hC hb2 hg h1 h2 hr hl hB
    go_enter Tryd.func18, Tryd.ntmps18
    go_wp2_with (go_at_call 48; refine HC.out.mono ?_; rintro e w1 ⟨rfl, hb1⟩; have B1 : w1.heap[w.heap.size + 1]? = some (.cells #[.int .i64 0, .int .i64 0, .string ⟨#[]⟩] 23 (0, 0)) := block_below hb1 (blk_new0 (w.alloc (.cells #[.string name] 9)) _ (by simp)); have HB1 := Lib.hid (below2 HB2.out hb1); have k0 := cell_of_blk B1 0; have k1 := cell_of_blk B1 1; have k2 := cell_of_blk B1 2; have f0 := frozen_of_blk B1 0; have f1 := frozen_of_blk B1 1; have f2 := frozen_of_blk B1 2; have HBK := Lib.hid B1; clear hb1 B1)
    generalize hWE : (World.setCell (World.setCell (World.setCell _ _ _) _ _) _ _) = WE
    have ho : WE.heap[w.heap.size + 1]? = some (.cells #[.int .i64 0, .int .i64 0, .string ⟨#[]⟩] 23 (0, 0)) := by rw [← hWE]; exact set_blk3 HBK.out _ _ _
    have hbe : Below w.heap.size w WE := by rw [← hWE]; exact ((HB1.out.setCell (by simp) _).setCell (by simp) _).setCell (by simp) _
    have r0 := cell_of_blk ho 0
    have r1 := cell_of_blk ho 1
    have r2 := cell_of_blk ho 2
    refine bodyPost_ret (v := .tuple #[.agg #[.int .i64 0, .int .i64 0, .string ⟨#[]⟩], .bool false]) (by simp [results, Tryd.results18, go_sem, r0, r1, r2]) rfl ⟨?_, hbe⟩
    rw [HG.out]; rfl
  · rw [h1] at hC
    rw [h2] at hg
    have HC := Lib.hid hC
    have HB2 := Lib.hid hb2
    have HG := Lib.hid hg
    have HR := Lib.hid hr
    have hjn : j < n := by omega
    have HJ := Lib.hid hj
    clear hC hb2 hg h1 h2 hr hl hB
    rw [Nat.zero_add] at HC
    go_enter Tryd.func18, Tryd.ntmps18
    go_wp2_with (go_at_call 48; refine HC.out.mono ?_; rintro e w1 ⟨rfl, hb1⟩; have B1 : w1.heap[w.heap.size + 1]? = some (.cells #[.int .i64 0, .int .i64 0, .string ⟨#[]⟩] 23 (0, 0)) := block_below hb1 (blk_new0 (w.alloc (.cells #[.string name] 9)) _ (by simp)); have HB1 := Lib.hid (below2 HB2.out hb1); have k0 := cell_of_blk B1 0; have k1 := cell_of_blk B1 1; have k2 := cell_of_blk B1 2; have f0 := frozen_of_blk B1 0; have f1 := frozen_of_blk B1 1; have f2 := frozen_of_blk B1 2; have HBK := Lib.hid B1; clear hb1 B1; obtain ⟨ad, rfl, had, c0, c1, c2, c3⟩ := HR.out.below HB1.out j HJ.out; generalize l[j] = x at *)
    generalize hWE : (World.setCell (World.setCell (World.setCell _ _ _) _ _) _ _) = WE
    have ho : WE.heap[w.heap.size + 1]? = some (.cells #[.int .i64 x.v.k, .int .i64 x.v.n, .string x.v.s] 23 (0, 0)) := by rw [← hWE]; exact set_blk3 HBK.out _ _ _
    have hbe : Below w.heap.size w WE := by rw [← hWE]; exact ((HB1.out.setCell (by simp) _).setCell (by simp) _).setCell (by simp) _
    have r0 := cell_of_blk ho 0
    have r1 := cell_of_blk ho 1
    have r2 := cell_of_blk ho 2
    refine bodyPost_ret (v := .tuple #[.agg #[.int .i64 x.v.k, .int .i64 x.v.n, .string x.v.s], .bool true]) (by simp [results, Tryd.results18, go_sem, r0, r1, r2]) rfl ⟨?_, hbe⟩
    rw [HG.out]
end Go.Proofs.YthhgfdejadbigaaDoor
/-
  The walks of strings.Compare, of the order by which value.Put searches, and of slices.BinarySearchFunc over variables.
-/
set_option linter.unusedVariables false
set_option linter.unusedSimpArgs false
namespace Go.Proofs.Base
open Go Go.RowKit
def cmpS (a b : ByteArray) : Int := Lib.compareBytes a.data.toList b.data.toList
def cAt (name : ByteArray) (l : List GVar) (k : Nat) : Int := match l[k]? with | some x => cmpS x.name name | none => 1
theorem cAt_at {name : ByteArray} {l : List GVar} {k : Nat} (h : k < l.length) : cAt name l k = cmpS l[k].name name := by unfold cAt; rw [List.getElem?_eq_getElem h]
def FoundAt (name : ByteArray) (l : List GVar) (w : World) (e : Ending) (w' : World) : Prop :=
  ∃ i, i ≤ l.length ∧ (∀ t, t < i → cAt name l t < 0) ∧ (∀ t, i ≤ t → t < l.length → 0 ≤ cAt name l t) ∧ e = .returned (.tuple #[.int .i64 (i : Nat), .bool (decide (i < l.length) && decide (cAt name l i = 0))]) ∧ Below w.heap.size w w'
end Go.Proofs.Base
namespace Go.Proofs.YthhgfdejadbigaaDoor
open Go Go.RowKit Go.Proofs.Base
set_option maxRecDepth 100000 in
theorem bl_Compare (a b : ByteArray) (w : World) :
    Calls Tryd.prog 69 #[.string a, .string b] w fun e w' => e = .returned (.int .i64 (cmpS a b)) ∧ w = w' := by
  go_enter Tryd.func69, Tryd.ntmps69
  go_wp2
  rw [run_callFunc_extern Tryd.func87 (by kernel_rfl) (by kernel_rfl) (by kernel_rfl) (e := Extern.BytealgCompare.compare) (by kernel_rfl), Lib.run_compareString]
  simp only [Result.andThen]
  rw [Oper.upon_value]
  go_wp2
  go_ret
  exact ⟨rfl, rfl⟩
theorem str_Compare (a b : ByteArray) (w : World) :
    Calls Tryd.prog 44 #[.string a, .string b] w fun e w' => e = .returned (.int .i64 (cmpS a b)) ∧ w = w' := by
  go_enter Tryd.func44, Tryd.ntmps44
  go_wp2_with (go_at_call 69; refine (bl_Compare _ _ _).mono ?_; rintro e w' ⟨rfl, rfl⟩)
  go_ret
  exact ⟨rfl, rfl⟩
theorem put_cmp (x : GVar) (name : ByteArray) (w : World) :
    Calls Tryd.prog 43 #[.agg #[.string x.name, .int .i64 x.v.k, .int .i64 x.v.n, .string x.v.s], .string name] w fun e w' => e = .returned (.int .i64 (cmpS x.name name)) ∧ Below w.heap.size w w' := by
  go_enter Tryd.func43, Tryd.ntmps43
  go_wp2_with (go_at_call 44; refine (str_Compare _ _ _).mono ?_; rintro e w' ⟨rfl, rfl⟩)
  go_ret
  exact ⟨rfl, (Below.refl _ _).alloc (Nat.le_refl _) _⟩
set_option maxRecDepth 100000 in
set_option maxHeartbeats 2000000 in
theorem put_search (A : Option Addr) (n c : Nat) (name : ByteArray) (l : List GVar) (w : World) (hl : l.length = n) (hnc : n ≤ c) (hn : n < 4611686018427387904) (hr : ReadsV w A l)
    (hmono : ∀ a b, a ≤ b → b < l.length → cAt name l b < 0 → cAt name l a < 0) :
    Calls Tryd.prog 42 #[.slice A n c, .string name, .func (.func 43) #[] #[]] w (FoundAt name l w) := by
  have HR := Lib.hid hr
  have HL := Lib.hid hl
  have M := Lib.hid hmono
  clear hr hl hmono
  go_enter Tryd.func42, Tryd.ntmps42
  go_wp2_with fail
  go_loopw [9, 10] (fun s9 s10 wr => ∃ lo hi : Nat, s9 = .int .i64 lo ∧ s10 = .int .i64 hi ∧ lo ≤ hi ∧ hi ≤ n ∧ Hid ((∀ t, t < lo → cAt name l t < 0) ∧ (∀ t, hi ≤ t → t < l.length → 0 ≤ cAt name l t)) ∧ Below w.heap.size w wr) (fun s9 s10 _ => (intOf s10).toNat - (intOf s9).toNat)
  case atStart => exact ⟨0, n, rfl, rfl, Nat.zero_le _, Nat.le_refl _, Lib.hid ⟨fun t ht => absurd ht (Nat.not_lt_zero _), fun t h1 h2 => by rw [HL.out] at h2; omega⟩, Below.refl _ _⟩
  case round =>
    obtain ⟨lo, hi, rfl, rfl, hlh, hin, HI, hbl⟩ := hrel
    have HBL := Lib.hid hbl
    by_cases hlt : lo < hi
    · have hk1 : (lo + hi) / 2 < l.length := by rw [HL.out]; omega
      obtain ⟨ad, rfl, _, c0, c1, c2, c3⟩ := HR.out.below hbl _ hk1
      have hq := cAt_at (name := name) hk1
      generalize l[(lo + hi) / 2] = x at *
      have HQ := Lib.hid hq
      clear hq hbl hk1
      by_cases hx : cmpS x.name name < 0
      · have HX := Lib.hid hx
        have hd : decide (cmpS x.name name < 0) = true := decide_eq_true hx
        clear hx
        go_wp2_with (go_at_call 43; refine (put_cmp x name _).mono ?_; rintro e w1 ⟨rfl, hb1⟩)
        go_roundw
        case rel => exact ⟨(lo + hi) / 2 + 1, hi, by rw [show ((lo : Int) + (hi : Int)) / 2 + 1 = (((lo + hi) / 2 + 1 : Nat) : Int) by omega], rfl, by omega, hin, Lib.hid ⟨fun t ht => M.out t ((lo + hi) / 2) (by omega) (by rw [HL.out]; omega) (by rw [HQ.out]; exact HX.out), HI.out.2⟩, below2 HBL.out hb1⟩
        case measure => simp [intOf]; omega
      · have HX := Lib.hid hx
        have hd : decide (cmpS x.name name < 0) = false := decide_eq_false hx
        clear hx
        go_wp2_with (go_at_call 43; refine (put_cmp x name _).mono ?_; rintro e w1 ⟨rfl, hb1⟩)
        go_roundw
        case rel => exact ⟨lo, (lo + hi) / 2, rfl, by rw [show ((lo : Int) + (hi : Int)) / 2 = (((lo + hi) / 2 : Nat) : Int) by omega], by omega, by omega, Lib.hid ⟨HI.out.1, fun t ht htn => Int.not_lt.1 fun h => by have := M.out ((lo + hi) / 2) t ht htn h; rw [HQ.out] at this; have := HX.out; omega⟩, below2 HBL.out hb1⟩
        case measure => simp [intOf]; omega
    · obtain rfl : hi = lo := by omega
      by_cases hlen : hi < n
      · have hk1 : hi < l.length := by rw [HL.out]; exact hlen
        obtain ⟨ad, rfl, _, c0, c1, c2, c3⟩ := HR.out.below hbl _ hk1
        have hq := cAt_at (name := name) hk1
        generalize l[hi] = x at *
        have HQ := Lib.hid hq
        clear hq hbl hk1
        go_wp2_with (go_at_call 43; refine (put_cmp x name _).mono ?_; rintro e w1 ⟨rfl, hb1⟩)
        go_ret2
        exact ⟨hi, by rw [HL.out]; exact hin, HI.out.1, HI.out.2, by rw [HQ.out, HL.out]; simp [hlen]; first | done | rfl | (rw [Bool.eq_iff_iff]; simp), below2 HBL.out hb1⟩
      · go_wp2_with fail
        go_ret2
        exact ⟨hi, by rw [HL.out]; exact hin, HI.out.1, HI.out.2, by rw [HL.out]; simp [hlen], HBL.out⟩
end Go.Proofs.YthhgfdejadbigaaDoor
/-
  The order of names, and the list that value.Put answers, as plain functions; no program.
-/
set_option linter.unusedVariables false
set_option linter.unusedSimpArgs false
namespace Go.Proofs.Base
open Go Go.RowKit
theorem cmpB_lt : ∀ (a b : List UInt8), Lib.compareBytes a b < 0 ↔ Op.bytesLess a b = true
  | [], [] => by simp [Lib.compareBytes, Op.bytesLess]
  | [], _ :: _ => by simp [Lib.compareBytes, Op.bytesLess]
  | _ :: _, [] => by simp [Lib.compareBytes, Op.bytesLess]
  | x :: a, y :: b => by
    unfold Lib.compareBytes Op.bytesLess
    by_cases h : x < y
    · rw [if_pos h]; simp [h]
    · rw [if_neg h]
      by_cases h2 : y < x
      · have hne : x ≠ y := fun e => by subst e; exact h h2
        rw [if_pos h2]; simp [h, hne]
      · have he : x = y := by
          rw [UInt8.lt_iff_toNat_lt] at h h2
          exact UInt8.toNat_inj.1 (by omega)
        rw [if_neg h2, cmpB_lt a b]; simp [he]
theorem cmpB_eq : ∀ (a b : List UInt8), Lib.compareBytes a b = 0 ↔ a = b
  | [], [] => by simp [Lib.compareBytes]
  | [], _ :: _ => by simp [Lib.compareBytes]
  | _ :: _, [] => by simp [Lib.compareBytes]
  | x :: a, y :: b => by
    unfold Lib.compareBytes
    by_cases h : x < y
    · have hne : x ≠ y := fun e => by subst e; rw [UInt8.lt_iff_toNat_lt] at h; omega
      rw [if_pos h]; simp [hne]
    · rw [if_neg h]
      by_cases h2 : y < x
      · have hne : x ≠ y := fun e => by subst e; exact h h2
        rw [if_pos h2]; simp [hne]
      · have he : x = y := by
          rw [UInt8.lt_iff_toNat_lt] at h h2
          exact UInt8.toNat_inj.1 (by omega)
        rw [if_neg h2, cmpB_eq a b, he]; simp
theorem bl_trans : ∀ (a b c : List UInt8), Op.bytesLess a b = true → Op.bytesLess b c = true → Op.bytesLess a c = true
  | _, _, [], _, h => by simp [Op.bytesLess] at h
  | _, [], _ :: _, h, _ => by simp [Op.bytesLess] at h
  | [], _ :: _, _ :: _, _, _ => by simp [Op.bytesLess]
  | x :: a, y :: b, z :: c, h1, h2 => by
    unfold Op.bytesLess at h1 h2 ⊢
    simp only [Bool.or_eq_true, Bool.and_eq_true, decide_eq_true_eq, beq_iff_eq] at *
    rw [UInt8.lt_iff_toNat_lt] at *
    rcases h1 with h1 | ⟨rfl, h1⟩ <;> rcases h2 with h2 | ⟨rfl, h2⟩
    · left; omega
    · left; exact h1
    · left; exact h2
    · right; exact ⟨rfl, bl_trans a b c h1 h2⟩
theorem bl_irrefl : ∀ (a : List UInt8), Op.bytesLess a a = false
  | [] => rfl
  | x :: a => by
    unfold Op.bytesLess
    have : ¬ x < x := by rw [UInt8.lt_iff_toNat_lt]; omega
    simp [this, bl_irrefl a]
theorem lessS_cmp (a b : ByteArray) : cmpS a b < 0 ↔ lessS a b = true := by
  unfold cmpS lessS
  rw [cmpB_lt, ByteArray.toList_eq, ByteArray.toList_eq]
theorem cmpS_eq (a b : ByteArray) : cmpS a b = 0 ↔ a = b := by
  unfold cmpS
  rw [cmpB_eq]
  exact ⟨fun h => toL_inj h, fun h => by rw [h]⟩
theorem lessS_trans {a b c : ByteArray} (h1 : lessS a b = true) (h2 : lessS b c = true) : lessS a c = true := bl_trans _ _ _ h1 h2
theorem lessS_irrefl (a : ByteArray) : lessS a a = false := bl_irrefl _
theorem lessS_total {a b : ByteArray} (h1 : lessS a b = false) (h2 : lessS b a = false) : a = b := by
  have e1 : ¬ cmpS a b < 0 := fun h => by rw [lessS_cmp, h1] at h; cases h
  have e2 : ¬ cmpS b a < 0 := fun h => by rw [lessS_cmp, h2] at h; cases h
  have key : ∀ (x y : List UInt8), Lib.compareBytes x y = - Lib.compareBytes y x := by
    intro x
    induction x with
    | nil => intro y; cases y <;> simp [Lib.compareBytes]
    | cons p x ih =>
      intro y
      cases y with
      | nil => simp [Lib.compareBytes]
      | cons q y =>
        unfold Lib.compareBytes
        by_cases h : p < q
        · have h' : ¬ q < p := by rw [UInt8.lt_iff_toNat_lt] at *; omega
          rw [if_pos h, if_neg h', if_pos h]
        · rw [if_neg h]
          by_cases h' : q < p
          · rw [if_pos h', if_pos h']; rfl
          · rw [if_neg h', if_neg h', if_neg h]; exact ih y
  have e3 := key a.data.toList b.data.toList
  have e4 : cmpS a b = - cmpS b a := e3
  exact (cmpS_eq a b).1 (by omega)
theorem rightFrom_rise : ∀ (p : Option ByteArray) (l : List GVar), rightFrom p l = true → (∀ q, p = some q → ∀ x ∈ l, lessS q x.name = true) ∧ l.Pairwise (fun x y => lessS x.name y.name = true)
  | _, [], _ => ⟨(fun _ _ x hx => by cases hx), List.Pairwise.nil⟩
  | p, x :: r, h => by
    simp only [rightFrom, Bool.and_eq_true] at h
    obtain ⟨⟨_, h2⟩, h3⟩ := h
    obtain ⟨i1, i2⟩ := rightFrom_rise _ r h3
    have hx : ∀ y ∈ r, lessS x.name y.name = true := i1 _ rfl
    refine ⟨?_, List.Pairwise.cons hx i2⟩
    intro q hq y hy
    subst hq
    rcases List.mem_cons.1 hy with rfl | hy
    · exact h2
    · exact lessS_trans h2 (hx y hy)
theorem rightV_rise {l : List GVar} (h : rightV l = true) : l.Pairwise (fun x y => lessS x.name y.name = true) := by
  unfold rightV at h
  simp only [Bool.and_eq_true] at h
  exact (rightFrom_rise _ _ h.2).2
theorem right_mono {l : List GVar} (h : rightV l = true) (name : ByteArray) : ∀ a b, a ≤ b → b < l.length → cAt name l b < 0 → cAt name l a < 0 := by
  intro a b hab hb hc
  by_cases he : a = b
  · subst he; exact hc
  · have ha : a < l.length := by omega
    rw [cAt_at hb, lessS_cmp] at hc
    rw [cAt_at ha, lessS_cmp]
    exact lessS_trans (List.pairwise_iff_getElem.1 (rightV_rise h) a b ha hb (by omega)) hc
def posV (name : ByteArray) (l : List GVar) : Nat := (l.takeWhile fun x => decide (cmpS x.name name < 0)).length
def hasV (name : ByteArray) (l : List GVar) : Bool := decide (posV name l < l.length) && decide (cAt name l (posV name l) = 0)
theorem pos_of {name : ByteArray} : ∀ {l : List GVar} {i : Nat}, i ≤ l.length → (∀ t, t < i → cAt name l t < 0) → (∀ t, i ≤ t → t < l.length → 0 ≤ cAt name l t) → posV name l = i
  | [], i, hi, _, _ => by simp at hi; rw [hi]; rfl
  | x :: r, 0, _, _, h2 => by
    have h := h2 0 (Nat.le_refl _) (by simp)
    have : ¬ cmpS x.name name < 0 := by have e : cAt name (x :: r) 0 = cmpS x.name name := rfl; omega
    unfold posV; rw [List.takeWhile_cons_of_neg (by simpa using this)]; rfl
  | x :: r, i + 1, hi, h1, h2 => by
    have h := h1 0 (by omega)
    have hx : cmpS x.name name < 0 := h
    have ih := pos_of (name := name) (l := r) (i := i) (by simpa using hi) (fun t ht => h1 (t + 1) (by omega)) (fun t h3 h4 => h2 (t + 1) (by omega) (by simpa using h4))
    unfold posV at ih ⊢
    rw [List.takeWhile_cons_of_pos (by simpa using hx), List.length_cons, ih]
def putList (name : ByteArray) (v : GVal) (l : List GVar) : List GVar :=
  if hasV name l then l.set (posV name l) ⟨name, v⟩ else l.take (posV name l) ++ ⟨name, v⟩ :: l.drop (posV name l)
def putOut (name : ByteArray) (v : GVal) (l : List GVar) : List GVar × Int :=
  if (rightV l && named name && v.may) = true then (if hasV name l = false ∧ l.length = 16 then ([], 4) else (putList name v l, 0)) else ([], 1)
theorem varCells_set {l : List GVar} {i : Nat} {name : ByteArray} {v : GVal} (hi : i < l.length) (he : l[i].name = name) :
    varCells (l.set i ⟨name, v⟩) = (((varCells l).set (i * 4 + 1) (.int .i64 v.k)).set (i * 4 + 2) (.int .i64 v.n)).set (i * 4 + 3) (.string v.s) := by
  induction l generalizing i with
  | nil => simp at hi
  | cons x r ih =>
    have e1 : ∀ (y : GVar), varCells (y :: r) = .string y.name :: .int .i64 y.v.k :: .int .i64 y.v.n :: .string y.v.s :: varCells r := fun y => rfl
    cases i with
    | zero =>
      have hx : x.name = name := he
      rw [List.set_cons_zero, e1, e1, hx]; rfl
    | succ i =>
      have h' : i < r.length := by simpa using hi
      have e2 : varCells (x :: r.set i ⟨name, v⟩) = .string x.name :: .int .i64 x.v.k :: .int .i64 x.v.n :: .string x.v.s :: varCells (r.set i ⟨name, v⟩) := rfl
      rw [List.set_cons_succ, e2, e1, ih h' (by simpa using he)]
      rw [show (i + 1) * 4 + 1 = i * 4 + 1 + 1 + 1 + 1 + 1 by omega, show (i + 1) * 4 + 2 = i * 4 + 2 + 1 + 1 + 1 + 1 by omega, show (i + 1) * 4 + 3 = i * 4 + 3 + 1 + 1 + 1 + 1 by omega]
      simp only [List.set_cons_succ]
theorem varCells_take (l : List GVar) (i : Nat) : varCells (l.take i) = (varCells l).take (i * 4) := by
  induction l generalizing i with
  | nil => simp [varCells]
  | cons x r ih =>
    cases i with
    | zero => simp [varCells]
    | succ i =>
      have e1 : ∀ (r : List GVar), varCells (x :: r) = .string x.name :: .int .i64 x.v.k :: .int .i64 x.v.n :: .string x.v.s :: varCells r := fun r => rfl
      rw [List.take_succ_cons, e1, e1, ih, show (i + 1) * 4 = i * 4 + 1 + 1 + 1 + 1 by omega]
      simp only [List.take_succ_cons]
theorem varCells_drop (l : List GVar) (i : Nat) : varCells (l.drop i) = (varCells l).drop (i * 4) := by
  induction l generalizing i with
  | nil => simp [varCells]
  | cons x r ih =>
    cases i with
    | zero => simp
    | succ i =>
      have e1 : varCells (x :: r) = .string x.name :: .int .i64 x.v.k :: .int .i64 x.v.n :: .string x.v.s :: varCells r := rfl
      rw [List.drop_succ_cons, e1, ih, show (i + 1) * 4 = i * 4 + 1 + 1 + 1 + 1 by omega]
      simp only [List.drop_succ_cons]
end Go.Proofs.Base
/-
  Laws of no program: copy of elements of several cells into a row of the call's own; an append of made elements that must grow.
-/
set_option linter.unusedVariables false
set_option linter.unusedSimpArgs false
namespace Go.Proofs.Base
open Go Go.RowKit
section
variable {P : Program}
theorem run_copy_wide (w : World) (dT sT ty elem : TypeId) (size g o dLen dCap : Nat) (a : Addr) (sLen sCap n : Nat) (cur : Array Value) (t : TypeId) (cs : List Value)
    (hu : P.underlying dT = some (.slice elem)) (hs : (P.info? elem).map (·.size) = some size)
    (hg : w.heap[g]? = some (.cells cur t (0, 0))) (hm : n = Nat.min sLen dLen) (hn : cs.length = n * size)
    (hsrc : ∀ j v, cs[j]? = some v → w.cell? (a.add j) = some v) (hfit : o + cs.length ≤ cur.size) (h1 : ∀ v ∈ cs, v.oneCell' = true) :
    (Builtin.copy_ #[dT, sT] ty #[.slice (some ⟨g, o, none⟩) dLen dCap, .slice (some a) sLen sCap]).run P w =
      .ok (goInt n) (w.setRow g (splice cur.toList o cs).toArray) := by
  have hl := run_loadCells_list (P := P) w a cs hsrc
  have hst := run_storeCells_at P g o t cs 0 cur w hg (by simpa using hfit) h1
  cases hq : P.info? elem with
  | none => simp [hq] at hs
  | some i =>
    have hi : i.size = size := by simpa [hq] using hs
    rw [hn] at hl
    simp [Builtin.copy_, run_underlying hu, Builtin.lenOf, Builtin.firstCells, sizeOf, typeInfo, hq, hi, ← hm, hl, hst, splice]
theorem own_take {w : World} {base e size n cap i g : Nat} {xs : List Value} (h : w.ownsRow base e size (.slice (some ⟨g, 0, none⟩) n cap) n xs) (hi : i ≤ n) : w.ownsRow base e size (.slice (some ⟨g, 0, none⟩) i cap) i (xs.take (i * size)) := by
  obtain ⟨h1, h2⟩ := h
  have hle : i * size ≤ n * size := Nat.mul_le_mul_right _ hi
  refine ⟨by rw [List.length_take, h1]; omega, ?_⟩
  rcases h2 with ⟨h2, _⟩ | ⟨g', cap', cur, he, hb, hh, hnc, hcm, hcs, htk⟩
  · cases h2
  · injection he with e1 e2 e3
    injection e1 with e1
    injection e1 with e1
    subst e1 e3
    refine .inr ⟨_, _, cur, rfl, hb, hh, Nat.le_trans hi hnc, hcm, hcs, ?_⟩
    rw [← htk, List.take_take, Nat.min_eq_left hle]
theorem run_append_zeros_grows (w : World) (base : Nat) (t ti ty e : TypeId) (i : TypeInfo) (z : Value) (size bytes : Nat) (ht : P.underlying t = some (.slice e)) {k : IntKind} (hti : P.underlying ti = some (.int k)) (hi : P.info? e = some i) (hz : i.zero = some z)
    (hsize : i.size = size) (hby : i.bytes = bytes) (hzs : z.cells.size = size) (hsz : 0 < size) (hb0 : 0 < bytes)
    (g n cap : Nat) (xs : List Value) (hown : w.ownsRow base e size (.slice (some ⟨g, 0, none⟩) n cap) n xs) (kx : IntKind) (m : Nat) (hm0 : 0 < m) (hcap : cap < n + m)
    (hbytes : (n + m) * bytes ≤ 140737488355328) (hbase : base ≤ w.heap.size) :
    (Builtin.append_ #[t, ti] ty #[.slice (some ⟨g, 0, none⟩) n cap, .int kx m]).run P w =
      .ok (.slice (some ⟨w.heap.size, 0, none⟩) (n + m) (grownCap w (n + m) cap e)) (w.drew.alloc (.cells (xs.toArray ++ Builtin.zeroCells z.cells m ++ Builtin.zeroCells z.cells (grownCap w (n + m) cap e - (n + m))) e)) := by
  subst hsize
  subst hby
  have hle : n + m ≤ 140737488355328 := Nat.le_trans (Nat.le_mul_of_pos_right _ hb0) hbytes
  have hw : IntKind.i64.wrap (m : Int) = m := by rw [IntKind.wrap_i64]; omega
  have hneg : ¬ ((m : Int) < 0) := by omega
  have hmb : m * i.bytes ≤ 140737488355328 := Nat.le_trans (Nat.mul_le_mul_right _ (Nat.le_add_left m n)) hbytes
  have hbig : ¬ (281474976710656 < (m : Int) * (i.bytes : Int)) := by
    rw [← Int.natCast_mul]
    omega
  have hns : ¬ (m * i.size = 0) := Nat.mul_ne_zero (by omega) (by omega)
  have hm : ¬ m = 0 := by omega
  have hn : ¬ (n + m ≤ cap) := by omega
  have h63' : ¬ (9223372036854775807 < ((n : Int) + (m : Int))) := by omega
  have hfit := growslice_fits hcap hbytes
  have h48' : ¬ (281474976710656 < Builtin.nextslicecap (n + m) cap * i.bytes) := by omega
  have hcells : ∀ j v, xs[j]? = some v → w.drew.cell? ((⟨g, 0, none⟩ : Addr).add j) = some v := fun j v hj => hown.cells rfl j v hj
  have hfo : (Builtin.firstCells i.size n (.slice (some ⟨g, 0, none⟩) n cap)).run P w.drew = .ok xs.toArray w.drew := run_firstCells_some w.drew i.size n ⟨g, 0, none⟩ n cap xs hown.1 hcells
  simp [Builtin.append_, run_underlying ht, run_underlying hti, sizeOf, typeInfo, zeroValue, hi, hz, asInt, asIntOf, hw, hn, hm, hneg, hns, hbig, h63', h48', Question.forced, hfo, newRow, grownCap]
end
end Go.Proofs.Base
/-
  The walk of slices.Insert of one variable into a row of the call's own.
-/
set_option linter.unusedVariables false
set_option linter.unusedSimpArgs false
namespace Go.Proofs.Base
open Go Go.RowKit
theorem ins_list {α : Type} {xs cs zs : List α} {i n : Nat} (k : Nat) (hl : xs.length = n) (hi : i ≤ n) (hk : cs.length = k) (hz : zs.length = n - i + k) (rest : List α) :
    splice (splice (xs.take i ++ zs ++ rest) i cs) (i + k) (xs.drop i) = xs.take i ++ cs ++ xs.drop i ++ rest := by
  have ht : (xs.take i).length = i := by rw [List.length_take]; omega
  have h1 : splice (xs.take i ++ zs ++ rest) i cs = (xs.take i ++ cs) ++ (zs.drop k ++ rest) := by
    unfold splice
    have e1 : (xs.take i ++ zs ++ rest).take i = xs.take i := by rw [List.append_assoc, List.take_append_of_le_length (by omega), List.take_of_length_le (by omega)]
    have e2 : (xs.take i ++ zs ++ rest).drop (i + cs.length) = zs.drop k ++ rest := by
      rw [List.append_assoc, List.drop_append, List.drop_of_length_le (by omega), List.nil_append, ht, hk, show i + k - i = k by omega, List.drop_append_of_le_length (by omega)]
    rw [e1, e2, List.append_assoc]
  rw [h1]
  have hl2 : (xs.take i ++ cs).length = i + k := by rw [List.length_append, ht, hk]
  have hd : (xs.drop i).length = n - i := by rw [List.length_drop, hl]
  unfold splice
  have e1 : (xs.take i ++ cs ++ (zs.drop k ++ rest)).take (i + k) = xs.take i ++ cs := by rw [← hl2, List.take_left]
  have e2 : (xs.take i ++ cs ++ (zs.drop k ++ rest)).drop (i + k + (xs.drop i).length) = rest := by
    have e3 : zs.drop k ++ rest = zs.drop k ++ rest := rfl
    have hzd : (zs.drop k).length = n - i := by rw [List.length_drop, hz]; omega
    rw [← List.append_assoc, List.drop_append, List.drop_of_length_le (by rw [List.length_append, hl2, hzd, hd]; exact Nat.le_refl _), List.nil_append, List.length_append, hl2, hzd, hd]
    simp
  rw [e1, e2, ← List.append_assoc]
theorem ins_list2 {α : Type} {xs cs cur : List α} {i n : Nat} (k : Nat) (hl : cur.take n = xs) (hn : n + k ≤ cur.length) (hi : i ≤ n) (hk : cs.length = k) :
    (splice (splice cur (i + k) (xs.drop i)) i cs).take (n + k) = xs.take i ++ cs ++ xs.drop i := by
  have hxl : xs.length = n := by rw [← hl, List.length_take]; omega
  have hd : (xs.drop i).length = n - i := by rw [List.length_drop, hxl]
  have e1 : splice cur (i + k) (xs.drop i) = cur.take (i + k) ++ (xs.drop i ++ cur.drop (n + k)) := by
    unfold splice; rw [hd, show i + k + (n - i) = n + k by omega]
  have e2 : (splice cur (i + k) (xs.drop i)).take i = xs.take i := by
    rw [e1, List.take_append_of_le_length (by rw [List.length_take]; omega), List.take_take, ← hl, List.take_take]
    congr 1; omega
  have e3 : (splice cur (i + k) (xs.drop i)).drop (i + k) = xs.drop i ++ cur.drop (n + k) := by
    rw [e1]
    have : (cur.take (i + k)).length = i + k := by rw [List.length_take]; omega
    have h9 := List.drop_left (l₁ := cur.take (i + k)) (l₂ := xs.drop i ++ cur.drop (n + k))
    rw [this] at h9
    exact h9
  have ht : (xs.take i).length = i := by rw [List.length_take]; omega
  unfold splice
  rw [show List.take i (List.take (i + k) cur ++ (List.drop i xs ++ List.drop (i + k + (List.drop i xs).length) cur)) = xs.take i from e2, hk,
    show List.drop (i + k) (List.take (i + k) cur ++ (List.drop i xs ++ List.drop (i + k + (List.drop i xs).length) cur)) = xs.drop i ++ cur.drop (n + k) from e3]
  rw [← List.append_assoc, ← List.append_assoc]
  have hl3 : (xs.take i ++ cs ++ xs.drop i).length = n + k := by rw [List.length_append, List.length_append, ht, hk, hd]; omega
  rw [← hl3, List.take_left]
end Go.Proofs.Base
namespace Go.Proofs.YthhgfdejadbigaaDoor
open Go Go.RowKit Go.Proofs.Base
theorem eVar : ElemT Tryd.prog 29 60 4 48 := ElemT.of (z := .agg #[.string ⟨#[]⟩, .int .i64 0, .int .i64 0, .string ⟨#[]⟩]) Tryd.underlying29 (by kernel_rfl) rfl
theorem sVar : (Tryd.prog.info? 60).map (·.size) = some 4 := by kernel_rfl
set_option maxRecDepth 100000 in
set_option maxHeartbeats 2000000 in
theorem ins_end (base : Nat) (v : Value) (n xb : Nat) (xs cs : List Value) (w0 w : World) (hown : w.ownsRow base 60 4 v n xs) (hx : w.heap[xb]? = some (.cells cs.toArray 60 (0, 0))) (hcs : cs.length = 4) (h1c : ∀ u ∈ cs, u.oneCell' = true)
    (hB : Below base w0 w) (hbase : base ≤ w.heap.size) (hbig : (n + 1) * 48 ≤ 140737488355328) :
    Calls Tryd.prog 46 #[v, .int .i64 n, .slice (some ⟨xb, 0, none⟩) 1 1] w fun e w' => ∃ v', e = .returned v' ∧ w'.ownsRow base 60 4 v' (n + 1) (xs ++ cs) ∧ Below base w0 w' := by
  obtain ⟨i0, z, hi, hz0, hz1, hz2, hzc⟩ := eVar.hi
  have HO := Lib.hid hown
  have HX := Lib.hid (World.news_of_block (cs := cs.toArray) (t := 60) (fr := (0, 0)) hx)
  have HCS := Lib.hid hcs
  have H1C := Lib.hid h1c
  have HB := Lib.hid hB
  have hvn : ∃ A c, v = .slice A n c ∧ n ≤ c ∧ c ≤ 9223372036854775807 := by
    obtain ⟨_, h2⟩ := id hown
    have hl0 := hown.1
    clear hown HO
    rcases h2 with ⟨rfl, hn0⟩ | ⟨g, cap, cur, rfl, hb, hh, hnc, hcm, _⟩
    · obtain rfl : n = 0 := by rw [hn0] at hl0; simp at hl0; omega
      exact ⟨none, 0, rfl, Nat.le_refl _, by omega⟩
    · exact ⟨_, _, rfl, hnc, by simpa [maxLen] using hcm⟩
  obtain ⟨A, c, rfl, hnc, hc⟩ := hvn
  clear hown hx hcs h1c hB
  go_enter Tryd.func46, Tryd.ntmps46
  go_wp2_with (at_builtin; refine wpList_append_own_at _ rfl _ _ 29 rfl base 60 i0 z 4 48 eVar.ht hi hz0 hz1 hz2 hzc (by omega) _ n xs rfl HO.out ⟨xb, 0, none⟩ 1 1 cs rfl (by rw [HCS.out]) (by simpa using HX.out) H1C.out (by simp only [maxLen]; omega) hbig hbase ?_; intro v1 w1 hown1 hg1 _ _)
  all_goals (go_ret; exact ⟨v1, rfl, hown1, HB.out.grown hg1 hbase (fun k hk => (HO.out.lt k hk).1)⟩)
theorem zeros_len (z : Value) (m : Nat) (hz : z.cells.size = 4) : (Builtin.zeroCells z.cells m).toList.length = m * 4 := by
  rw [Array.length_toList, size_zeroCells, hz]
set_option maxRecDepth 100000 in
set_option maxHeartbeats 4000000 in
theorem ins_grow (base g cap n i xb m vc : Nat) (xs cs : List Value) (w0 w : World) (hi : i < n) (hm0 : 0 < m) (hcap : cap < n + m) (hown : w.ownsRow base 60 4 (.slice (some ⟨g, 0, none⟩) n cap) n xs) (hx : w.heap[xb]? = some (.cells cs.toArray 60 (0, 0))) (hcs : cs.length = m * 4) (h1c : ∀ u ∈ cs, u.oneCell' = true) (h1x : ∀ u ∈ xs, u.oneCell' = true)
    (hB : Below base w0 w) (hbase : base ≤ w.heap.size) (hbig : (n + m) * 48 ≤ 140737488355328) :
    Calls Tryd.prog 46 #[.slice (some ⟨g, 0, none⟩) n cap, .int .i64 i, .slice (some ⟨xb, 0, none⟩) m vc] w fun e w' => ∃ v', e = .returned v' ∧ w'.ownsRow base 60 4 v' (n + m) (xs.take (i * 4) ++ cs ++ xs.drop (i * 4)) ∧ Below base w0 w' := by
  obtain ⟨i0, z, hi0, hz0, hz1, hz2, hzc⟩ := eVar.hi
  have hnc : n ≤ cap := by
    rcases hown.2 with ⟨h, _⟩ | ⟨g', cap', cur, he, _, _, hnc, _⟩
    · cases h
    · injection he with _ _ e3; omega
  have hxl := hown.1
  have hgr : ∀ ty, (Builtin.append_ #[29, 3] ty #[.slice (some ⟨g, 0, none⟩) i cap, .int .i64 ((n + m - i : Nat) : Int)]).run Tryd.prog w = _ := fun ty =>
    run_append_zeros_grows w base 29 3 ty 60 i0 z 4 48 eVar.ht Tryd.underlying3 hi0 hz0 hz1 hz2 hzc (by omega) (by omega) g i cap (xs.take (i * 4)) (own_take hown (Nat.le_of_lt hi)) .i64 (n + m - i) (by omega) (by omega) (by rw [show i + (n + m - i) = n + m by omega]; exact hbig) hbase
  rw [show i + (n + m - i) = n + m by omega] at hgr
  have hge := grownCap_ge w (n + m) cap 60
  have hcm : grownCap w (n + m) cap 60 ≤ maxLen := grownCap_le_maxLen w (n + m) cap 60 (by simp only [maxLen]; omega)
  generalize grownCap w (n + m) cap 60 = k at *
  generalize hCUR : (xs.take (i * 4)).toArray ++ Builtin.zeroCells z.cells (n + m - i) ++ Builtin.zeroCells z.cells (k - (n + m)) = CUR at hgr
  have hCl : CUR.toList = xs.take (i * 4) ++ (Builtin.zeroCells z.cells (n + m - i)).toList ++ (Builtin.zeroCells z.cells (k - (n + m))).toList := by rw [← hCUR]; simp
  have htl : (xs.take (i * 4)).length = i * 4 := by rw [List.length_take, hxl]; omega
  have hdl : (xs.drop (i * 4)).length = (n - i) * 4 := by rw [List.length_drop, hxl]; omega
  have hCs : CUR.size = k * 4 := by
    rw [← Array.length_toList, hCl, List.length_append, List.length_append, htl, zeros_len z _ hzc, zeros_len z _ hzc]; omega
  have hW1 : (w.drew.alloc (.cells CUR 60)).heap[w.heap.size]? = some (.cells CUR 60 (0, 0)) := heap_alloc_new w.drew _
  have hb1 : Below base w0 (w.drew.alloc (.cells CUR 60)) := (show Below base w0 w.drew from ⟨hB.os, hB.tape, hB.output, hB.size, hB.block⟩).alloc hbase _
  have hxb := lt_of_blk hx
  have hx1 : (w.drew.alloc (.cells CUR 60)).heap[xb]? = some (.cells cs.toArray 60 (0, 0)) := (heap_alloc_old w.drew _ hxb).trans hx
  generalize hWW : w.drew.alloc (.cells CUR 60) = W1 at *
  have hc1 : ∀ ty dc, (Builtin.copy_ #[29, 29] ty #[.slice (some ⟨w.heap.size, i * 4, none⟩) (n + m - i) dc, .slice (some ⟨xb, 0, none⟩) m vc]).run Tryd.prog W1 = .ok (goInt (m : Int)) (W1.setRow w.heap.size (splice CUR.toList (i * 4) cs).toArray) := fun ty dc =>
    run_copy_wide W1 _ _ ty 60 4 w.heap.size (i * 4) (n + m - i) dc ⟨xb, 0, none⟩ m vc m CUR 60 cs eVar.ht sVar hW1 (by simp only [Nat.min_def]; split <;> omega) (by omega) (by simpa using World.news_of_block (cs := cs.toArray) (t := 60) (fr := (0, 0)) hx1) (by omega) h1c
  have hW2 := setRow_heap W1 w.heap.size CUR (splice CUR.toList (i * 4) cs).toArray 60 (0, 0) hW1
  have hb2 : Below base w0 (W1.setRow w.heap.size (splice CUR.toList (i * 4) cs).toArray) := below_setRow hb1 hbase _
  have hg2 : ∀ j v, (xs.drop (i * 4))[j]? = some v → (W1.setRow w.heap.size (splice CUR.toList (i * 4) cs).toArray).cell? ((⟨g, i * 4, none⟩ : Addr).add j) = some v := by
    intro j v hj
    have hglt := (hown.lt g rfl).2
    have h1 : w.cell? ((⟨g, 0, none⟩ : Addr).add (i * 4 + j)) = some v := hown.cells rfl (i * 4 + j) v (by rw [List.getElem?_drop] at hj; exact hj)
    rw [add_plain] at h1 ⊢
    rw [Nat.zero_add] at h1
    have h2 : (W1.setRow w.heap.size (splice CUR.toList (i * 4) cs).toArray).heap[g]? = w.heap[g]? := by
      rw [setRow_other _ _ _ _ (by omega), ← hWW]
      exact heap_alloc_old w.drew _ hglt
    exact (World.cell?_of_block (w := w) (a := ⟨g, i * 4 + j, none⟩) h2).trans h1
  generalize hW3 : W1.setRow w.heap.size (splice CUR.toList (i * 4) cs).toArray = W2 at *
  have hsl : (splice CUR.toList (i * 4) cs).length = k * 4 := by rw [length_splice CUR.toList (i * 4) cs (by rw [hcs, Array.length_toList, hCs]; omega), Array.length_toList, hCs]
  have hc2 : ∀ W : World, (∀ b, W.heap[b]? = W2.heap[b]?) → (∀ x, W.cell? x = W2.cell? x) → ∀ ty dc sc, (Builtin.copy_ #[29, 29] ty #[.slice (some ⟨w.heap.size, (i + m) * 4, none⟩) (n + m - (i + m)) dc, .slice (some ⟨g, i * 4, none⟩) (n - i) sc]).run Tryd.prog W = .ok (goInt ((n - i : Nat) : Int)) (W.setRow w.heap.size (splice (splice CUR.toList (i * 4) cs) ((i + m) * 4) (xs.drop (i * 4))).toArray) := fun W hWb hWc ty dc sc => by
    have h := run_copy_wide (P := Tryd.prog) W 29 29 ty 60 4 w.heap.size ((i + m) * 4) (n + m - (i + m)) dc ⟨g, i * 4, none⟩ (n - i) sc (n - i) (splice CUR.toList (i * 4) cs).toArray 60 (xs.drop (i * 4)) eVar.ht sVar ((hWb _).trans hW2) (by simp only [Nat.min_def]; split <;> omega) hdl (fun j v hj => (hWc _).trans (hg2 j v hj)) (by simp only [List.size_toArray]; rw [hsl, hdl]; omega) (fun u hu => h1x u (List.mem_of_mem_drop hu))
    rw [List.toList_toArray] at h
    exact h
  have hfin : (splice (splice CUR.toList (i * 4) cs) ((i + m) * 4) (xs.drop (i * 4))) = xs.take (i * 4) ++ cs ++ xs.drop (i * 4) ++ (Builtin.zeroCells z.cells (k - (n + m))).toList := by
    rw [hCl, show (i + m) * 4 = i * 4 + m * 4 by omega]
    exact ins_list (n := n * 4) (m * 4) hxl (by omega) hcs (by rw [zeros_len z _ hzc]; omega) _
  have hout : ∀ W : World, W.heap[w.heap.size]? = some (.cells (splice (splice CUR.toList (i * 4) cs) ((i + m) * 4) (xs.drop (i * 4))).toArray 60 (0, 0)) → W.ownsRow base 60 4 (.slice (some ⟨w.heap.size, 0, none⟩) (n + m) k) (n + m) (xs.take (i * 4) ++ cs ++ xs.drop (i * 4)) := by
    intro W hW
    have hl : (xs.take (i * 4) ++ cs ++ xs.drop (i * 4)).length = (n + m) * 4 := by rw [List.length_append, List.length_append, htl, hcs, hdl]; omega
    refine ⟨hl, .inr ⟨_, _, _, rfl, hbase, hW, hge, hcm, ?_, ?_⟩⟩
    · simp only [List.size_toArray]; rw [length_splice _ _ _ (by rw [hsl, hdl]; omega), hsl]
    · rw [hfin, ← hl, List.take_left]
  have q1 : IntKind.i64.wrap ((n : Int) + m) = (n : Int) + m := by rw [IntKind.wrap_i64]; omega
  have q2 : IntKind.i64.wrap ((i : Int) + m) = (i : Int) + m := by rw [IntKind.wrap_i64]; omega
  have q3 : ((n : Int) + m - i) = ((n + m - i : Nat) : Int) := by omega
  have q4 : ((n : Int) == (i : Int)) = false := beq_f (by omega)
  have q5 : ((i : Int) == (n : Int)) = false := beq_f (by omega)
  have q6 : ((i : Int) + m).toNat = i + m := by omega
  have HB2 := Lib.hid hb2
  have HC1 := Lib.hid hc1
  have HC2 := Lib.hid hc2
  have HGR := Lib.hid hgr
  have HOUT := Lib.hid hout
  have HW2 := Lib.hid hW2
  have hck : i < k := by omega
  have kb1 : (0 : Int) ≤ (i : Int) + (m : Int) := by omega
  have kb2 : ¬ (k = i + m) := by omega
  have kb3 : (i : Int) ≤ (n : Int) + (m : Int) := by omega
  have kb4 : ¬ (cap = i) := by omega
  have kb5 : ¬ (k = i) := by omega
  have kb6 : i ≤ n := by omega
  have hz1 : ¬ ((m : Int) = 0) := by omega
  clear hc1 hc2 hgr hfin hsl hg2 hb2 hW2 hx1 hxb hb1 hW1 hCl hCs htl hdl hown hx h1c h1x hB hxl hz0 hz1 hz2 hzc hi0 hcs hCUR hbig hWW hW3
  unfold maxLen at hcm
  go_enter Tryd.func46, Tryd.ntmps46
  go_wp2_with (first | (at_builtin; with_reducible refine Lib.wpList_append_run _ rfl _ _ 29 3 rfl _ _ rfl rfl _ _ (HGR.out _) ?_) | (with_reducible refine wpList_copy_runI _ rfl _ _ 29 29 rfl _ _ rfl rfl (HC1.out _ _) ?_))
  go_region_law (refine step_copy_runI rfl _ _ 29 29 rfl _ _ (by simp [Act.eval, Act.put]) (by simp [Act.eval, Act.put]) (HC2.out W2.drew (fun _ => rfl) (fun _ => rfl) _ (k - (i + m)) (cap - i)) ?_)
  go_wp2_with fail
  go_ret
  refine ⟨_, rfl, by simpa [List.append_assoc] using HOUT.out _ (setRow_heap W2.drew _ _ _ 60 (0, 0) HW2.out), ?_⟩
  exact below_setRow (show Below base w0 W2.drew from ⟨HB2.out.os, HB2.out.tape, HB2.out.output, HB2.out.size, HB2.out.block⟩) hbase _
set_option maxRecDepth 100000 in
set_option maxHeartbeats 4000000 in
theorem ins_room (base g cap n i xb m vc : Nat) (xs cs : List Value) (w0 w : World) (hi : i < n) (hm0 : 0 < m) (hcap : n + m ≤ cap) (hown : w.ownsRow base 60 4 (.slice (some ⟨g, 0, none⟩) n cap) n xs) (hx : w.heap[xb]? = some (.cells cs.toArray 60 (0, 0))) (hxg : xb ≠ g) (hcs : cs.length = m * 4) (h1c : ∀ u ∈ cs, u.oneCell' = true) (h1x : ∀ u ∈ xs, u.oneCell' = true)
    (hB : Below base w0 w) :
    Calls Tryd.prog 46 #[.slice (some ⟨g, 0, none⟩) n cap, .int .i64 i, .slice (some ⟨xb, 0, none⟩) m vc] w fun e w' => ∃ v', e = .returned v' ∧ w'.ownsRow base 60 4 v' (n + m) (xs.take (i * 4) ++ cs ++ xs.drop (i * 4)) ∧ Below base w0 w' := by
  have hxl := hown.1
  obtain ⟨cur, hbg, hg, hcm, hcsz, htk⟩ : ∃ cur : Array Value, base ≤ g ∧ w.heap[g]? = some (.cells cur 60 (0, 0)) ∧ cap ≤ maxLen ∧ cur.size = cap * 4 ∧ cur.toList.take (n * 4) = xs := by
    rcases hown.2 with ⟨h, _⟩ | ⟨g', cap', cur, he, hb, hh, hnc, hcm, hcs, htk⟩
    · cases h
    · injection he with e1 e2 e3
      injection e1 with e1
      injection e1 with e1
      subst e1 e3
      exact ⟨cur, hb, hh, hcm, by omega, htk⟩
  have hdl : (xs.drop (i * 4)).length = (n - i) * 4 := by rw [List.length_drop, hxl]; omega
  have hov : ∀ lb cb, (callFunc 70 #[.slice (some ⟨xb, 0, none⟩) m vc, .slice (some ⟨g, (i + m) * 4, none⟩) lb cb]).run Tryd.prog w = .ok (.value (.bool false)) w := fun lb cb => by
    rw [run_callFunc_extern Tryd.func70 (by kernel_rfl) (by kernel_rfl) (by kernel_rfl) (e := Extern.SlicesOverlaps.overlaps #[29, 29] #[4]) (by kernel_rfl),
      Lib.run_overlaps_apart w 29 4 60 Tryd.underlying29 4 Tryd.sizeOf60 ⟨xb, 0, none⟩ ⟨g, (i + m) * 4, none⟩ m vc lb cb hxg 60 60 cs.toArray.size cur.size (by simp [World.shape?, hx]) (by simp [World.shape?, hg]) (by omega) (frozen_of_blk hx _) (frozen_of_blk hx _)]
    rfl
  have hg1 := setRow_heap w.drew g cur (splice cur.toList ((i + m) * 4) (xs.drop (i * 4))).toArray 60 (0, 0) hg
  have hc1 : ∀ ty dc sc, (Builtin.copy_ #[29, 29] ty #[.slice (some ⟨g, (i + m) * 4, none⟩) (n + m - (i + m)) dc, .slice (some ⟨g, i * 4, none⟩) (n + m - i) sc]).run Tryd.prog w.drew = .ok (goInt ((n - i : Nat) : Int)) (w.drew.setRow g (splice cur.toList ((i + m) * 4) (xs.drop (i * 4))).toArray) := fun ty dc sc =>
    run_copy_wide (P := Tryd.prog) w.drew 29 29 ty 60 4 g ((i + m) * 4) (n + m - (i + m)) dc ⟨g, i * 4, none⟩ (n + m - i) sc (n - i) cur 60 (xs.drop (i * 4)) eVar.ht sVar hg (by simp only [Nat.min_def]; split <;> omega) hdl
      (fun j v hj => by
        have h1 : w.cell? ((⟨g, 0, none⟩ : Addr).add (i * 4 + j)) = some v := hown.cells rfl (i * 4 + j) v (by rw [List.getElem?_drop] at hj; exact hj)
        rw [add_plain] at h1 ⊢
        rw [Nat.zero_add] at h1
        exact h1) (by rw [hdl, hcsz]; omega) (fun u hu => h1x u (List.mem_of_mem_drop hu))
  have hxb := lt_of_blk hx
  have hx1 : (w.drew.setRow g (splice cur.toList ((i + m) * 4) (xs.drop (i * 4))).toArray).heap[xb]? = some (.cells cs.toArray 60 (0, 0)) := (setRow_other w.drew g xb _ hxg).trans hx
  have hbd : Below base w0 (w.drew.setRow g (splice cur.toList ((i + m) * 4) (xs.drop (i * 4))).toArray) := below_setRow (show Below base w0 w.drew from ⟨hB.os, hB.tape, hB.output, hB.size, hB.block⟩) hbg _
  generalize hWW : w.drew.setRow g (splice cur.toList ((i + m) * 4) (xs.drop (i * 4))).toArray = W1 at *
  have hsl : (splice cur.toList ((i + m) * 4) (xs.drop (i * 4))).length = cap * 4 := by rw [length_splice cur.toList ((i + m) * 4) (xs.drop (i * 4)) (by rw [hdl, Array.length_toList, hcsz]; omega), Array.length_toList, hcsz]
  have hc2 : ∀ ty dc, (Builtin.copy_ #[29, 29] ty #[.slice (some ⟨g, i * 4, none⟩) (n + m - i) dc, .slice (some ⟨xb, 0, none⟩) m vc]).run Tryd.prog W1 = .ok (goInt (m : Int)) (W1.setRow g (splice (splice cur.toList ((i + m) * 4) (xs.drop (i * 4))) (i * 4) cs).toArray) := fun ty dc => by
    have h := run_copy_wide (P := Tryd.prog) W1 29 29 ty 60 4 g (i * 4) (n + m - i) dc ⟨xb, 0, none⟩ m vc m (splice cur.toList ((i + m) * 4) (xs.drop (i * 4))).toArray 60 cs eVar.ht sVar hg1 (by simp only [Nat.min_def]; split <;> omega) hcs (by simpa using World.news_of_block (cs := cs.toArray) (t := 60) (fr := (0, 0)) hx1) (by simp only [List.size_toArray]; rw [hsl, hcs]; omega) h1c
    rw [List.toList_toArray] at h
    exact h
  have hg2 := setRow_heap W1 g _ (splice (splice cur.toList ((i + m) * 4) (xs.drop (i * 4))) (i * 4) cs).toArray 60 (0, 0) hg1
  have hb2 := below_setRow hbd hbg (splice (splice cur.toList ((i + m) * 4) (xs.drop (i * 4))) (i * 4) cs).toArray
  have hout : (W1.setRow g (splice (splice cur.toList ((i + m) * 4) (xs.drop (i * 4))) (i * 4) cs).toArray).ownsRow base 60 4 (.slice (some ⟨g, 0, none⟩) (n + m) cap) (n + m) (xs.take (i * 4) ++ cs ++ xs.drop (i * 4)) := by
    have htl : (xs.take (i * 4)).length = i * 4 := by rw [List.length_take, hxl]; omega
    have hl : (xs.take (i * 4) ++ cs ++ xs.drop (i * 4)).length = (n + m) * 4 := by rw [List.length_append, List.length_append, htl, hcs, hdl]; omega
    refine ⟨hl, .inr ⟨_, _, _, rfl, hbg, hg2, hcap, hcm, ?_, ?_⟩⟩
    · simp only [List.size_toArray]; rw [length_splice _ _ _ (by rw [hsl, hcs]; omega), hsl]
    · have h := ins_list2 (xs := xs) (cs := cs) (cur := cur.toList) (i := i * 4) (n := n * 4) (m * 4) htk (by rw [Array.length_toList, hcsz]; omega) (by omega) hcs
      rw [show i * 4 + m * 4 = (i + m) * 4 by omega, show n * 4 + m * 4 = (n + m) * 4 by omega] at h
      exact h
  generalize hWW2 : W1.setRow g (splice (splice cur.toList ((i + m) * 4) (xs.drop (i * 4))) (i * 4) cs).toArray = W2 at *
  have HB2 := Lib.hid hb2
  have HC1 := Lib.hid hc1
  have HC2 := Lib.hid hc2
  have HOV := Lib.hid hov
  have HOUT := Lib.hid hout
  have hck : i < cap := by omega
  have q1 : IntKind.i64.wrap ((n : Int) + m) = (n : Int) + m := by rw [IntKind.wrap_i64]; unfold maxLen at hcm; omega
  have q2 : IntKind.i64.wrap ((i : Int) + m) = (i : Int) + m := by rw [IntKind.wrap_i64]; unfold maxLen at hcm; omega
  have q5 : ((i : Int) == (n : Int)) = false := beq_f (by omega)
  have q6 : ((i : Int) + m).toNat = i + m := by omega
  have q7 : ((n : Int) + m).toNat = n + m := by omega
  have kb1 : (0 : Int) ≤ (i : Int) + (m : Int) := by omega
  have kb2 : ¬ (cap = i + m) := by omega
  have kb3 : (i : Int) ≤ (n : Int) + (m : Int) := by omega
  have kb4 : ¬ (cap = i) := by omega
  have kb6 : i ≤ n := by omega
  have hz1 : ¬ ((m : Int) = 0) := by omega
  clear hb2 hc1 hc2 hov hout hown hx h1c h1x hB hxl hcs hWW hWW2 hg hg1 hg2 hcsz htk hdl hxb hx1 hbd hsl
  unfold maxLen at hcm
  go_enter Tryd.func46, Tryd.ntmps46
  go_wp2_with (simp only [HOV.out])
  go_region_law (refine step_copy_runI rfl _ _ 29 29 rfl _ _ (by simp [Act.eval, Act.put]) (by simp [Act.eval, Act.put]) (HC1.out _ (cap - (i + m)) (cap - i)) ?_)
  go_wp2_with (with_reducible refine wpList_copy_runI _ rfl _ _ 29 29 rfl _ _ rfl rfl (HC2.out _ _) ?_)
  go_ret
  exact ⟨_, rfl, by simpa [List.append_assoc] using HOUT.out, HB2.out⟩
end Go.Proofs.YthhgfdejadbigaaDoor
/-
  The walk of slices.Clone of variables that came in.
-/
set_option linter.unusedVariables false
set_option linter.unusedSimpArgs false
namespace Go.Proofs.YthhgfdejadbigaaDoor
open Go Go.RowKit Go.Proofs.Base
theorem cells_of_reads {w : World} {ad : Addr} {l : List GVar} (h : ReadsV w (some ad) l) : ∀ j u, (varCells l)[j]? = some u → w.cell? (ad.add j) = some u := by
  intro j u hj
  have hlt : j < (varCells l).length := (List.getElem?_eq_some_iff.1 hj).1
  rw [varCells_len] at hlt
  have hk : j / 4 < l.length := by omega
  obtain ⟨ad', e, _, c0, c1, c2, c3⟩ := h (j / 4) hk
  injection e with e
  subst e
  obtain ⟨e0, e1, e2, e3⟩ := varCells_at hk
  have hadd : ∀ i, 0 < i → ad.add (j / 4 * 4 + i) = ⟨(ad.add (j / 4 * 4)).block, (ad.add (j / 4 * 4)).off + i, none⟩ := fun i hi => by
    unfold Addr.add
    by_cases hm : j / 4 * 4 = 0
    · simp [hm, Nat.ne_of_gt hi]
    · simp [hm, Nat.add_assoc]
  have hj4 : j = j / 4 * 4 + j % 4 := by omega
  have h4 : j % 4 = 0 ∨ j % 4 = 1 ∨ j % 4 = 2 ∨ j % 4 = 3 := by omega
  generalize hq : j / 4 = q at *
  rcases h4 with h4 | h4 | h4 | h4
  · rw [h4] at hj4; subst hj4; rw [e0] at hj; rw [← Option.some.inj hj, Nat.add_zero]; exact c0
  · rw [h4] at hj4; subst hj4; rw [e1] at hj; rw [← Option.some.inj hj, hadd 1 (by omega)]; exact c1
  · rw [h4] at hj4; subst hj4; rw [e2] at hj; rw [← Option.some.inj hj, hadd 2 (by omega)]; exact c2
  · rw [h4] at hj4; subst hj4; rw [e3] at hj; rw [← Option.some.inj hj, hadd 3 (by omega)]; exact c3
theorem varCells_one (l : List GVar) : ∀ u ∈ varCells l, u.oneCell' = true := by
  intro u hu
  obtain ⟨x, _, hx⟩ := List.mem_flatMap.1 hu
  unfold GVar.cells at hx
  simp only [List.mem_cons, List.not_mem_nil, or_false] at hx
  rcases hx with rfl | rfl | rfl | rfl <;> rfl
def ClonedTo (l : List GVar) (w : World) (e : Ending) (w' : World) : Prop := ∃ v', e = .returned v' ∧ w'.ownsRow w.heap.size 60 4 v' l.length (varCells l) ∧ Below w.heap.size w w'
set_option maxRecDepth 100000 in
set_option maxHeartbeats 2000000 in
theorem put_clone (A : Option Addr) (n c : Nat) (l : List GVar) (w : World) (hl : l.length = n) (hnc : n ≤ c) (hn : n ≤ 1000) (hr : ReadsV w A l) :
    Calls Tryd.prog 45 #[.slice A n c] w (ClonedTo l w) := by
  obtain ⟨i0, z, hi0, hz0, hz1, hz2, hzc⟩ := eVar.hi
  have q : ∀ (w : World) (a : Option Addr) (n c n' c' : Nat), (binOp .eql 29 (.slice a n c) (.slice none n' c')).run Tryd.prog w = .ok (.bool a.isNone) w := fun w a n c n' c' => Lib.run_eql_slice_nil w _ _ a n c n' c' Tryd.underlying29
  cases A with
  | none =>
    obtain rfl : l = [] := by
      cases l with
      | nil => rfl
      | cons x r => obtain ⟨ad, e, _⟩ := hr 0 (by simp); cases e
    obtain rfl : n = 0 := by simpa using hl.symm
    go_enter Tryd.func45, Tryd.ntmps45
    go_wp2
    go_ret
    exact ⟨_, rfl, own_nil _ _ _ _, Below.refl _ _⟩
  | some ad =>
    have HC := Lib.hid (cells_of_reads hr)
    have HL := Lib.hid hl
    have H1 := Lib.hid (varCells_one l)
    have HVL : Hid ((varCells l).length = n * 4) := Lib.hid (by rw [varCells_len, hl])
    have HAD : Hid (l ≠ [] → ad.block < w.heap.size) := Lib.hid (fun h => by
      have hp : 0 < l.length := List.length_pos_iff.2 h
      obtain ⟨ad', e, hlt, _⟩ := hr 0 hp
      injection e with e; rw [e]; exact hlt)
    clear hl hr
    go_enter Tryd.func45, Tryd.ntmps45
    go_wp2_with (at_builtin; refine wpList_append_own _ rfl _ _ 29 rfl w.heap.size 60 i0 z 4 48 Tryd.underlying29 hi0 hz0 hz1 hz2 hzc (by omega) _ _ _ rfl (World.ownsRow_made w #[] 0 (Nat.le_refl _) (Nat.zero_le _) (by simp)) ad n c (varCells l) rfl HVL.out (fun j u hj => Lib.cell?_alloc_some _ (HC.out j u hj)) H1.out (by simp only [maxLen]; omega) (by omega) (by simp) ?_; intro v' w1 hown hgrow hnil)
    go_ret
    refine ⟨v', rfl, ?_, ?_⟩
    · rw [HL.out]; simpa using hown
    · exact ((Below.refl _ w).alloc (Nat.le_refl _) _).grown hgrow (by simp) (by intro k hk; injection hk with hk; exact Nat.le_of_eq hk)
end Go.Proofs.YthhgfdejadbigaaDoor
