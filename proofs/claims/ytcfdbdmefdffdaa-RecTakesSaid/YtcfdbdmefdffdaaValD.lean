/-
  Merged from Base, WireP, ReadP, ValP, RecP, RecG, RecJ, TakeP, TakeQ, TakeR, Read, ReadB, TakeS, Wire, Val, ValB, Tail, Build, ValC, ValD.
-/
import Derived.WalkKit
import Derived.WalkLawsBesides
import Derived.WalkSpells
import Derived.Maps.AppendAt
import Derived.Deep.AppendLies
import Derived.Deep.QuietTactic
import Derived.BigQuiet
import Derived.Lib.QuietBelow
import Derived.Lib.Hide
import Derived.Laws.BytesArg
import Derived.Laws.ResultCell
import Derived.OpenShut
import Derived.Test.YtcfdbdmefdffdaaProg
import Derived.StillTail
import Derived.Shelf.Strings.Builder1
/-
  Base words for the walks of this seat: slices that are read or owned as lists of cells, appends, worlds that only grow. Nothing of a program.
-/
set_option linter.unusedVariables false
set_option linter.unusedSimpArgs false
namespace Go.Proofs.Base
open Go Go.RowKit
theorem bcell {W w1 : World} (hb : Below W.heap.size W w1) : (∀ b o, b < W.heap.size → w1.cell? ⟨b, o, none⟩ = W.cell? ⟨b, o, none⟩) ∧ (∀ b o, b < W.heap.size → w1.frozen? ⟨b, o, none⟩ = W.frozen? ⟨b, o, none⟩) :=
  ⟨fun b o h => hb.cell (p := ⟨b, o, none⟩) h, fun b o h => hb.frozen (p := ⟨b, o, none⟩) h⟩
theorem below_alloc {w W : World} (h : Below w.heap.size w W) (o : Obj) : Below w.heap.size w (W.alloc o) := h.alloc h.size o
theorem below_drewN {B : Nat} {w W : World} (h : Below B w W) (n : Nat) : Below B w (W.drewN n) := ⟨h.os, h.tape, h.output, h.size, h.block⟩
theorem below_then {B : Nat} {w w1 w2 : World} (h : Below B w w1) (hB : B ≤ w1.heap.size) (k : Below w1.heap.size w1 w2) : Below B w w2 :=
  h.trans ⟨k.os, k.tape, k.output, k.size, fun i hi => k.block i (Nat.lt_of_lt_of_le hi hB)⟩
theorem below2 {w w1 w2 : World} (h : Below w.heap.size w w1) (k : Below w1.heap.size w1 w2) : Below w.heap.size w w2 := below_then h h.size k
theorem grown_of_below {w w1 : World} (h : Below w.heap.size w w1) (row : Option Nat) : w.grownBy w1 row := ⟨h.os, h.tape, h.output, h.size, fun i hi _ => h.block i hi⟩
theorem block_below {w w1 : World} (h : Below w.heap.size w w1) {b : Nat} {o : Obj} (hc : w.heap[b]? = some o) : w1.heap[b]? = some o :=
  (h.block b (Array.getElem?_eq_some_iff.1 hc).1).trans hc
theorem lt_of_blk {w : World} {b : Nat} {o : Obj} (hc : w.heap[b]? = some o) : b < w.heap.size := (Array.getElem?_eq_some_iff.1 hc).1
theorem frozen_of_blk {w : World} {b : Nat} {c : Array Value} {t : TypeId} (hc : w.heap[b]? = some (.cells c t (0, 0))) (o : Nat) : w.frozen? ⟨b, o, none⟩ = false := by
  simp [World.frozen?, hc]
theorem bne_t {a b : Int} (h : a ≠ b) : (a != b) = true := by rw [bne_iff_ne]; exact h
theorem bne_f {a b : Int} (h : a = b) : (a != b) = false := by rw [h]; simp
theorem beq_t {a b : Int} (h : a = b) : (a == b) = true := by rw [h]; simp
theorem beq_f {a b : Int} (h : a ≠ b) : (a == b) = false := by rw [beq_eq_false_iff_ne]; exact h
theorem cell_of_blk {w : World} {b : Nat} {c : Array Value} {t : TypeId} {f : Nat × Nat} (hc : w.heap[b]? = some (.cells c t f)) (o : Nat) : w.cell? ⟨b, o, none⟩ = c[o]? := by
  simp [World.cell?, hc]
theorem set_blk {w : World} {b o : Nat} {c : Array Value} {t : TypeId} {f : Nat × Nat} (hc : w.heap[b]? = some (.cells c t f)) (u : Value) : (w.setCell ⟨b, o, none⟩ u).heap[b]? = some (.cells (c.setIfInBounds o u) t f) := by
  simp [World.setCell, Array.getElem?_modify, hc]
structure Mut (T : Nat → Prop) (w w' : World) : Prop where
  os : w'.os = w.os
  tape : w'.tape = w.tape
  output : w'.output = w.output
  size : w.heap.size ≤ w'.heap.size
  block : ∀ k, k < w.heap.size → ¬ T k → w'.heap[k]? = w.heap[k]?
theorem Mut.refl (T : Nat → Prop) (w : World) : Mut T w w := ⟨rfl, rfl, rfl, Nat.le_refl _, fun _ _ _ => rfl⟩
theorem Mut.trans {T T' : Nat → Prop} {w w1 w2 : World} (h : Mut T w w1) (k : Mut T' w1 w2) (hT : ∀ b, b < w.heap.size → T' b → T b) : Mut T w w2 :=
  ⟨k.os.trans h.os, k.tape.trans h.tape, k.output.trans h.output, Nat.le_trans h.size k.size, fun b hb hn =>
    (k.block b (Nat.lt_of_lt_of_le hb h.size) (fun ht => hn (hT b hb ht))).trans (h.block b hb hn)⟩
theorem Mut.of_below {w w1 : World} (h : Below w.heap.size w w1) (T : Nat → Prop) : Mut T w w1 := ⟨h.os, h.tape, h.output, h.size, fun b hb _ => h.block b hb⟩
theorem Mut.below {w w1 : World} (h : Mut (fun _ => False) w w1) : Below w.heap.size w w1 := ⟨h.os, h.tape, h.output, h.size, fun b hb => h.block b hb (fun h => h)⟩
theorem Mut.grown {T : Nat → Prop} {w w1 : World} {row : Option Nat} (hg : w.grownBy w1 row) (hT : ∀ b, row = some b → T b) : Mut T w w1 :=
  ⟨hg.os, hg.tape, hg.output, hg.size, fun b hb hn => hg.block b hb (fun e => hn (hT b e.symm))⟩
theorem Mut.setCell {T : Nat → Prop} {w w1 : World} (h : Mut T w w1) {p : Addr} (hp : p.block < w.heap.size → T p.block) (u : Value) : Mut T w (w1.setCell p u) :=
  ⟨h.os, h.tape, h.output, by simpa [World.setCell] using h.size, fun b hb hn => (Below.heap_setCell w1 p u b (fun e => hn (e ▸ hp (e ▸ hb)))).trans (h.block b hb hn)⟩
theorem Mut.alloc {T : Nat → Prop} {w w1 : World} (h : Mut T w w1) (o : Obj) : Mut T w (w1.alloc o) :=
  ⟨h.os, h.tape, h.output, Nat.le_trans h.size (by simp), fun b hb hn => (Below.heap_alloc w1 o b (Nat.lt_of_lt_of_le hb h.size)).trans (h.block b hb hn)⟩
theorem Mut.drewN {T : Nat → Prop} {w w1 : World} (h : Mut T w w1) (n : Nat) : Mut T w (w1.drewN n) := ⟨h.os, h.tape, h.output, h.size, h.block⟩
theorem Mut.drew {T : Nat → Prop} {w w1 : World} (h : Mut T w w1) : Mut T w w1.drew := ⟨h.os, h.tape, h.output, h.size, h.block⟩
theorem Mut.mono {T T' : Nat → Prop} {w w1 : World} (h : Mut T w w1) (hT : ∀ b, b < w.heap.size → T b → T' b) : Mut T' w w1 :=
  ⟨h.os, h.tape, h.output, h.size, fun b hb hn => h.block b hb (fun ht => hn (hT b hb ht))⟩
theorem Mut.blk {T : Nat → Prop} {w w1 : World} (h : Mut T w w1) {b : Nat} {o : Obj} (hc : w.heap[b]? = some o) (hn : ¬ T b) : w1.heap[b]? = some o :=
  (h.block b (lt_of_blk hc) hn).trans hc
theorem Mut.cell {T : Nat → Prop} {w w1 : World} (h : Mut T w w1) {a : Addr} {v : Value} (hc : w.cell? a = some v) (hn : ¬ T a.block) : w1.cell? a = some v :=
  (World.cell?_of_block (w := w) (h.block a.block (World.block_lt_of_cell? w a hc) hn)).trans hc
theorem ret1 {a a' : Value} (h1 : a = a') : Ending.returned a = .returned a' := by rw [h1]
theorem ret3 {a a' b b' c c' : Value} (h1 : a = a') (h2 : b = b') (h3 : c = c') : Ending.returned (.tuple #[a, b, c]) = .returned (.tuple #[a', b', c']) := by rw [h1, h2, h3]
theorem vint {k : IntKind} {a b : Int} (h : a = b) : Value.int k a = .int k b := by rw [h]
theorem vbool {a b : Bool} (h : a = b) : Value.bool a = .bool b := by rw [h]
theorem vstr {a b : ByteArray} (h : a = b) : Value.string a = .string b := by rw [h]
theorem add_plain (b o j : Nat) : (⟨b, o, none⟩ : Addr).add j = ⟨b, o + j, none⟩ := by unfold Addr.add; split <;> simp_all
structure ElemT (P : Program) (t e : TypeId) (sz bytes : Nat) : Prop where
  ht : P.underlying t = some (.slice e)
  hi : ∃ i z, P.info? e = some i ∧ i.zero = some z ∧ i.size = sz ∧ i.bytes = bytes ∧ z.cells.size = sz
theorem ElemT.of {P : Program} {t e : TypeId} {sz bytes : Nat} {z : Value} (ht : P.underlying t = some (.slice e)) (h : (P.info? e).map (fun i => (i.zero, i.size, i.bytes)) = some (some z, sz, bytes)) (hz : z.cells.size = sz) : ElemT P t e sz bytes := by
  obtain ⟨i, hi, hz0, hz1, hz2⟩ := info_parts h
  exact ⟨ht, i, z, hi, hz0, hz1, hz2, hz⟩
def Row (w : World) (S : Nat → Prop) (sz n : Nat) (v : Value) (cs : List Value) : Prop :=
  ∃ A c, v = .slice A n c ∧ n ≤ c ∧ c ≤ maxLen ∧ cs.length = n * sz ∧ (A = none → n = 0 ∧ c = 0) ∧
    (0 < n → ∃ b o, A = some ⟨b, o, none⟩ ∧ S b ∧ b < w.heap.size ∧ ∀ j u, cs[j]? = some u → w.cell? ⟨b, o + j, none⟩ = some u)
theorem Row.keep {w w' : World} {S S' : Nat → Prop} {sz n : Nat} {v : Value} {cs : List Value} (h : Row w S sz n v cs) (hk : ∀ b, b < w.heap.size → S b → w'.heap[b]? = w.heap[b]?) (hS : ∀ b, b < w.heap.size → S b → S' b) (hsz : w.heap.size ≤ w'.heap.size) : Row w' S' sz n v cs := by
  obtain ⟨A, c, hv, h1, h2, h3, h4, h5⟩ := h
  refine ⟨A, c, hv, h1, h2, h3, h4, fun hn => ?_⟩
  obtain ⟨b, o, hA, hSb, hlt, hc⟩ := h5 hn
  exact ⟨b, o, hA, hS b hlt hSb, Nat.lt_of_lt_of_le hlt hsz, fun j u hu => (World.cell?_of_block (w := w) (a := ⟨b, o + j, none⟩) (hk b hlt hSb)).trans (hc j u hu)⟩
theorem Row.below {w w' : World} {S : Nat → Prop} {sz n : Nat} {v : Value} {cs : List Value} (h : Row w S sz n v cs) (hb : Below w.heap.size w w') : Row w' S sz n v cs :=
  h.keep (fun b hlt _ => hb.block b hlt) (fun _ _ h => h) hb.size
theorem Row.mut {T : Nat → Prop} {w w' : World} {S : Nat → Prop} {sz n : Nat} {v : Value} {cs : List Value} (h : Row w S sz n v cs) (hb : Mut T w w') (hd : ∀ b, b < w.heap.size → S b → ¬ T b) : Row w' S sz n v cs :=
  h.keep (fun b hlt hS => hb.block b hlt (hd b hlt hS)) (fun _ _ h => h) hb.size
theorem Row.weaken {w : World} {S S' : Nat → Prop} {sz n : Nat} {v : Value} {cs : List Value} (h : Row w S sz n v cs) (hS : ∀ b, b < w.heap.size → S b → S' b) : Row w S' sz n v cs :=
  h.keep (fun _ _ _ => rfl) hS (Nat.le_refl _)
theorem Row.nil (w : World) (S : Nat → Prop) (sz : Nat) : Row w S sz 0 (.slice none 0 0) [] :=
  ⟨none, 0, rfl, Nat.le_refl _, Nat.zero_le _, by simp, fun _ => ⟨rfl, rfl⟩, fun h => absurd h (by omega)⟩
theorem Row.of_own {w : World} {base : Nat} {e : TypeId} {sz n : Nat} {v : Value} {xs : List Value} (h : w.ownsRow base e sz v n xs) : Row w (fun b => base ≤ b ∧ v.ownBlock = some b) sz n v xs := by
  obtain ⟨h1, h2⟩ := h
  rcases h2 with ⟨rfl, rfl⟩ | ⟨g, cap, cur, rfl, hb, hh, hnc, hcm, hcs, htk⟩
  · exact ⟨none, 0, rfl, Nat.le_refl _, Nat.zero_le _, h1, fun _ => ⟨rfl, rfl⟩, fun h => absurd h (by omega)⟩
  · refine ⟨_, cap, rfl, hnc, hcm, h1, (fun h => by cases h), fun _ => ⟨g, 0, rfl, ⟨hb, rfl⟩, lt_of_blk hh, fun j u hu => ?_⟩⟩
    rw [Nat.zero_add, cell_of_blk hh, ← Array.getElem?_toList]
    rw [← htk, List.getElem?_take] at hu
    split at hu
    · exact hu
    · cases hu
theorem Row.open_ {w : World} {S : Nat → Prop} {sz n : Nat} {v : Value} {cs : List Value} (h : Row w S sz n v cs) : ∃ A c, v = .slice A n c ∧ n ≤ c ∧ c ≤ 9223372036854775807 := by
  obtain ⟨A, c, hv, h1, h2, _⟩ := h; exact ⟨A, c, hv, h1, by simpa [maxLen] using h2⟩
theorem Row.at_ {w : World} {S : Nat → Prop} {sz n c : Nat} {A : Option Addr} {cs : List Value} (h : Row w S sz n (.slice A n c) cs) (hn : 0 < n) :
    ∃ b o, A = some ⟨b, o, none⟩ ∧ S b ∧ b < w.heap.size ∧ ∀ i j u, cs[i * sz + j]? = some u → w.cell? ⟨b, o + i * sz + j, none⟩ = some u := by
  obtain ⟨A', c', hv, h1, h2, h3, h4, h5⟩ := h
  injection hv with e1 e2 e3
  subst e1
  obtain ⟨b, o, hA, hS, hlt, hc⟩ := h5 hn
  exact ⟨b, o, hA, hS, hlt, fun i j u hu => by rw [Nat.add_assoc]; exact hc _ u hu⟩
theorem wp_app {P : Program} {w0 W : World} {ops : Array Oper} {rest : List Oper} {o : Oper} {a : Act} {Q : Exit → Act → World → Prop} {t e : TypeId} {sz bytes : Nat} (E : ElemT P t e sz bytes) (hsz : 0 < sz)
    (hgd : o.guard = none) (s x : Operand) (ho : o.op = .call { callee := .builtin .append, args := #[s, x], argTypes := #[t, t] })
    (base : Nat) (v : Value) (n : Nat) (xs cs : List Value) (hs : a.eval s = v) (hx : a.eval x = .slice (some ⟨W.heap.size, 0, none⟩) 1 1) (hcs : cs.length = sz) (h1 : ∀ u ∈ cs, u.oneCell' = true)
    (HO : W.ownsRow base e sz v n xs) (HB : Below base w0 W) (hbase : base ≤ W.heap.size) (hl : n + 1 ≤ 140737488355328) (hl2 : (n + 1) * bytes ≤ 140737488355328)
    (h : ∀ v1 w1, w1.ownsRow base e sz v1 (n + 1) (xs ++ cs) → Below base w0 w1 → (W.alloc (.cells cs.toArray e)).grownBy w1 v.ownBlock → (v1.ownBlock = v.ownBlock ∨ ∃ b, v1.ownBlock = some b ∧ W.heap.size ≤ b) → wpList P ops Q rest (a.put o.dst v1) w1) :
    wpList P ops Q (o :: rest) a (W.alloc (.cells cs.toArray e)) := by
  obtain ⟨i0, z, hi, hz0, hz1, hz2, hzc⟩ := E.hi
  refine wpList_append_own_at (W.alloc (.cells cs.toArray e)) hgd s x t ho base e i0 z sz bytes E.ht hi hz0 hz1 hz2 hzc hsz v n xs hs (HO.alloc _) ⟨W.heap.size, 0, none⟩ 1 1 cs hx (by omega)
    (World.news_of_block (cs := cs.toArray) (t := e) (fr := (0, 0)) (heap_alloc_new W _)) h1 (by simp only [maxLen]; omega) hl2 (by simp; omega) ?_
  intro v1 w1 hown hg _ hat
  refine h v1 w1 hown ((HB.alloc hbase _).grown hg (by simp; omega) (fun k hk => (HO.lt k hk).1)) hg ?_
  rcases hat with hat | hat
  · exact .inl hat
  · exact .inr ⟨_, hat, by simp⟩
theorem own_nil (W : World) (base : Nat) (e : TypeId) (size : Nat) : W.ownsRow base e size (.slice none 0 0) 0 [] := ⟨by simp, .inl ⟨rfl, rfl⟩⟩
def toL (s : ByteArray) : List UInt8 := s.data.toList
def ofL (l : List UInt8) : ByteArray := ⟨l.toArray⟩
@[simp] theorem toL_ofL (l : List UInt8) : toL (ofL l) = l := by simp [toL, ofL]
@[simp] theorem ofL_toL (s : ByteArray) : ofL (toL s) = s := by simp [toL, ofL]
@[simp] theorem toL_append (a b : ByteArray) : toL (a ++ b) = toL a ++ toL b := by simp [toL]
theorem toL_inj {a b : ByteArray} (h : toL a = toL b) : a = b := by rw [← ofL_toL a, ← ofL_toL b, h]
@[simp] theorem toL_length (a : ByteArray) : (toL a).length = a.size := by simp [toL]
theorem toList_toL (s : ByteArray) : s.toList = toL s := ByteArray.toList_eq s
theorem emp_true {s : ByteArray} (h : s.size = 0) : s.toList.isEmpty = true := by
  rw [toList_toL, List.isEmpty_iff_length_eq_zero, toL_length, h]
theorem emp_false {s : ByteArray} (h : 0 < s.size) : s.toList.isEmpty = false := by
  have h1 : ¬ s.toList.isEmpty = true := by rw [toList_toL, List.isEmpty_iff_length_eq_zero, toL_length]; omega
  simpa using h1
theorem ofL_size (l : List UInt8) : (ofL l).size = l.length := by rw [← toL_length, toL_ofL]
def nums8 (xs : List Nat) : List Value := xs.map fun (x : Nat) => .int .u8 (x : Int)
theorem nums8_append (xs ys : List Nat) : nums8 (xs ++ ys) = nums8 xs ++ nums8 ys := by simp [nums8]
theorem nums8_length (xs : List Nat) : (nums8 xs).length = xs.length := by simp [nums8]
def ofN (xs : List Nat) : ByteArray := ofL (xs.map UInt8.ofNat)
theorem own_string {P : Program} {w : World} {base n : Nat} {e' src dst e : TypeId} {v : Value} {xs : List Nat} (hs : P.underlying src = some (.slice e)) (he : P.underlying e = some (.int .u8)) (hd : P.underlying dst = some .string)
    (h : w.ownsRow base e' 1 v n (nums8 xs)) : (convert src dst v).run P w = .ok (.string (ofN xs)) w := by
  have hl : xs.length = n := by have := h.1; simp [nums8] at this; exact this
  have e1 : ofN xs = strOfNums (xs.map fun (x : Nat) => (x : Int)) := by simp [ofN, ofL, strOfNums, Function.comp_def]
  rw [e1]
  rcases h.2 with ⟨rfl, rfl⟩ | ⟨g, cap, cur, rfl, _⟩
  · obtain rfl : xs = [] := List.eq_nil_of_length_eq_zero hl
    exact run_convert_bytes_nil w src e hs he 0 0 dst hd
  · refine run_convert_bytes_arg w src e hs he g 0 n cap _ (by simpa using hl) (fun i hi => ?_) dst hd
    have hc := h.cells (g := g) rfl i (.int .u8 (xs.getD i 0 : Nat)) (by simp [nums8, List.getElem?_eq_getElem (show i < xs.length by omega), List.getD_eq_getElem?_getD])
    rw [add_plain] at hc
    rw [hc]
    simp [List.getD_eq_getElem?_getD, List.getElem?_eq_getElem (show i < xs.length by omega)]
theorem lit_string {P : Program} {src dst e : TypeId} (hs : P.underlying src = some (.slice e)) (he : P.underlying e = some (.int .u8)) (hd : P.underlying dst = some .string) (W : World) (xs : List Nat) (n : Nat) (hl : xs.length = n) (hn : n ≤ 1000) :
    (convert src dst (.slice (some ⟨W.heap.size, 0, none⟩) n n)).run P (W.alloc (.cells (nums8 xs).toArray e)) = .ok (.string (ofN xs)) (W.alloc (.cells (nums8 xs).toArray e)) := by
  have h := World.ownsRow_lit (base := 0) (e := e) (size := 1) W (nums8 xs).toArray n (Nat.zero_le _) (by simp only [maxLen]; omega) (by simp [nums8_length, hl])
  exact own_string hs he hd (by simpa using h)
end Go.Proofs.Base
/-
  What the bytes of numbers and texts are (layer 1), as plain lists; no program.
-/
set_option linter.unusedVariables false
set_option linter.unusedSimpArgs false
namespace Go.Proofs.Base
open Go Go.RowKit
def uintN (v : Nat) : List Nat := if h : v < 128 then [v] else (v % 128 + 128) :: uintN (v / 128)
termination_by v
decreasing_by omega
theorem uintN_lt {v : Nat} (h : v < 128) : uintN v = [v] := by rw [uintN, dif_pos h]
theorem uintN_ge {v : Nat} (h : ¬ v < 128) : uintN v = (v % 128 + 128) :: uintN (v / 128) := by rw [uintN, dif_neg h]
theorem uintN_len : ∀ (k v : Nat), v < 128 ^ (k + 1) → (uintN v).length ≤ k + 1
  | 0, v, h => by rw [uintN_lt (by simpa using h)]; simp
  | k + 1, v, h => by
    by_cases hv : v < 128
    · rw [uintN_lt hv]; simp
    · rw [uintN_ge hv]
      have := uintN_len k (v / 128) (Nat.div_lt_of_lt_mul (by rw [Nat.pow_succ, Nat.mul_comm] at h; exact h))
      simp only [List.length_cons]
      omega
theorem uintN_len10 {v : Nat} (h : v < 18446744073709551616) : (uintN v).length ≤ 10 := uintN_len 9 v (Nat.lt_of_lt_of_le h (by decide))
theorem uintN_pos (v : Nat) : 0 < (uintN v).length := by
  by_cases hv : v < 128
  · rw [uintN_lt hv]; simp
  · rw [uintN_ge hv]; simp
def uintB (v : Nat) : ByteArray := ofN (uintN v)
theorem ofN_size (xs : List Nat) : (ofN xs).size = xs.length := by simp [ofN, ofL_size]
theorem toL_ofN (xs : List Nat) : toL (ofN xs) = xs.map UInt8.ofNat := by simp [ofN]
theorem uintB_size {v : Nat} (h : v < 18446744073709551616) : (uintB v).size ≤ 10 := by rw [uintB, ofN_size]; exact uintN_len10 h
def zig (v : Int) : Nat := if 0 ≤ v then (2 * v).toNat else (-2 * v - 1).toNat
theorem zig_lt {v : Int} (h0 : -9223372036854775808 ≤ v) (h1 : v ≤ 9223372036854775807) : zig v < 18446744073709551616 := by unfold zig; split <;> omega
def intB (v : Int) : ByteArray := uintB (zig v)
theorem intB_size {v : Int} (h0 : -9223372036854775808 ≤ v) (h1 : v ≤ 9223372036854775807) : (intB v).size ≤ 10 := uintB_size (zig_lt h0 h1)
def textB (s : ByteArray) : ByteArray := uintB s.size ++ s
end Go.Proofs.Base
/-
  What a number at the head of bytes is (layer 1); no program.
-/
set_option linter.unusedVariables false
set_option linter.unusedSimpArgs false
namespace Go.Proofs.Base
open Go Go.RowKit
def numGo : List UInt8 → Nat → Nat → Nat × Nat × Nat
  | [], _, _ => (0, 0, 2)
  | b :: r, i, v =>
    if (i = 9 ∧ 1 < b.toNat) ∨ (0 < i ∧ b.toNat = 0) then (0, 0, 3)
    else if b.toNat < 128 then (v + b.toNat % 128 * 128 ^ i, i + 1, 0)
    else numGo r (i + 1) (v + b.toNat % 128 * 128 ^ i)
def numM (l : List UInt8) : Nat × Nat × Nat := numGo l 0 0
theorem numGo_bad {b : UInt8} {r : List UInt8} {i v : Nat} (h : (i = 9 ∧ 1 < b.toNat) ∨ (0 < i ∧ b.toNat = 0)) : numGo (b :: r) i v = (0, 0, 3) := by rw [numGo, if_pos h]
theorem numGo_end {b : UInt8} {r : List UInt8} {i v : Nat} (h : ¬ ((i = 9 ∧ 1 < b.toNat) ∨ (0 < i ∧ b.toNat = 0))) (hb : b.toNat < 128) : numGo (b :: r) i v = (v + b.toNat % 128 * 128 ^ i, i + 1, 0) := by rw [numGo, if_neg h, if_pos hb]
theorem numGo_on {b : UInt8} {r : List UInt8} {i v : Nat} (h : ¬ ((i = 9 ∧ 1 < b.toNat) ∨ (0 < i ∧ b.toNat = 0))) (hb : ¬ b.toNat < 128) : numGo (b :: r) i v = numGo r (i + 1) (v + b.toNat % 128 * 128 ^ i) := by rw [numGo, if_neg h, if_neg hb]
theorem step_lt {v i b : Nat} (hv : v < 128 ^ i) (hb : b < 128) : v + b * 128 ^ i < 128 ^ (i + 1) := by
  have h1 : b * 128 ^ i ≤ 127 * 128 ^ i := Nat.mul_le_mul_right _ (by omega)
  rw [Nat.pow_succ]
  omega
theorem numGo_range : ∀ (l : List UInt8) (i v : Nat), i ≤ 9 → v < 128 ^ i → (numGo l i v).1 < 18446744073709551616 ∧ (numGo l i v).2.1 ≤ i + l.length ∧ (numGo l i v).2.1 ≤ 10
  | [], i, v, hi, hv => by simp [numGo]
  | b :: r, i, v, hi, hv => by
    by_cases h : (i = 9 ∧ 1 < b.toNat) ∨ (0 < i ∧ b.toNat = 0)
    · rw [numGo_bad h]; simp
    · by_cases hb : b.toNat < 128
      · rw [numGo_end h hb]
        refine ⟨?_, by simp <;> omega, by simp <;> omega⟩
        show v + b.toNat % 128 * 128 ^ i < _
        by_cases h9 : i = 9
        · subst h9
          have h1 : b.toNat % 128 * 128 ^ 9 ≤ 1 * 128 ^ 9 := Nat.mul_le_mul_right _ (by omega)
          have h2 : (128 : Nat) ^ 9 = 9223372036854775808 := by decide
          omega
        · have h1 := step_lt (b := b.toNat % 128) hv (by omega)
          have h2 : 128 ^ (i + 1) ≤ 128 ^ 9 := Nat.pow_le_pow_right (by omega) (by omega)
          have h3 : (128 : Nat) ^ 9 = 9223372036854775808 := by decide
          omega
      · rw [numGo_on h hb]
        have h1 := step_lt (b := b.toNat % 128) hv (by omega)
        obtain ⟨a1, a2, a3⟩ := numGo_range r (i + 1) (v + b.toNat % 128 * 128 ^ i) (by omega) h1
        exact ⟨a1, by simp; omega, a3⟩
theorem numM_range (l : List UInt8) : (numM l).1 < 18446744073709551616 ∧ (numM l).2.1 ≤ l.length ∧ (numM l).2.1 ≤ 10 := by
  have := numGo_range l 0 0 (by omega) (by simp)
  simpa [numM] using this
theorem toL_drop_cons {s : ByteArray} {k : Nat} (h : k < s.size) : (toL s).drop k = s[k] :: (toL s).drop (k + 1) := by
  rw [List.drop_eq_getElem_cons (by simpa using h)]
  rfl
def unzig (v : Nat) : Int := if v % 2 = 0 then (v / 2 : Nat) else -((v / 2 : Nat) : Int) - 1
end Go.Proofs.Base
namespace Go.Proofs.Base
open Go Go.RowKit
def takeM {α : Type} (z : α) (s : ByteArray) (e : Nat) (one : α × Nat × Nat) : α × ByteArray × Nat :=
  if e ≠ 0 then (z, s, e) else if one.2.2 ≠ 0 then (z, s, one.2.2) else (one.1, s.extract one.2.1 s.size, 0)
def byteOne (s : ByteArray) : Nat × Nat × Nat := if h : 0 < s.size then (s[0].toNat, 1, 0) else (0, 0, 2)
def intOne (s : ByteArray) : Int × Nat × Nat := (unzig (numM (toL s)).1, (numM (toL s)).2.1, (numM (toL s)).2.2)
def textOne (s : ByteArray) (most : Int) : ByteArray × Nat × Nat :=
  if (numM (toL s)).2.2 ≠ 0 then (ByteArray.empty, 0, (numM (toL s)).2.2)
  else if most < 0 ∨ most < (numM (toL s)).1 then (ByteArray.empty, 0, 13)
  else if s.size - (numM (toL s)).2.1 < (numM (toL s)).1 then (ByteArray.empty, 0, 2)
  else (s.extract (numM (toL s)).2.1 ((numM (toL s)).2.1 + (numM (toL s)).1), (numM (toL s)).2.1 + (numM (toL s)).1, 0)
def rdByte (s : ByteArray) (e : Nat) : Nat × ByteArray × Nat := takeM 0 s e (byteOne s)
def rdUint (s : ByteArray) (e : Nat) : Nat × ByteArray × Nat := takeM 0 s e (numM (toL s))
def rdInt (s : ByteArray) (e : Nat) : Int × ByteArray × Nat := takeM 0 s e (intOne s)
def rdText (most : Int) (s : ByteArray) (e : Nat) : ByteArray × ByteArray × Nat := takeM ByteArray.empty s e (textOne s most)
theorem takeM_wrong {α : Type} {z : α} {s : ByteArray} {e : Nat} {one : α × Nat × Nat} (h : e ≠ 0) : takeM z s e one = (z, s, e) := by rw [takeM, if_pos h]
theorem takeM_bad {α : Type} {z : α} {s : ByteArray} {one : α × Nat × Nat} (h : one.2.2 ≠ 0) : takeM z s 0 one = (z, s, one.2.2) := by rw [takeM, if_neg (by simp), if_pos h]
theorem takeM_ok {α : Type} {z : α} {s : ByteArray} {one : α × Nat × Nat} (h : one.2.2 = 0) : takeM z s 0 one = (one.1, s.extract one.2.1 s.size, 0) := by rw [takeM, if_neg (by simp), if_neg (by simp [h])]
theorem takeM_size {α : Type} (z : α) (s : ByteArray) (e : Nat) (one : α × Nat × Nat) : (takeM z s e one).2.1.size ≤ s.size := by
  unfold takeM
  split
  · exact Nat.le_refl _
  · split
    · exact Nat.le_refl _
    · simp
theorem byteOne_le {s : ByteArray} (h : (byteOne s).2.2 = 0) : (byteOne s).2.1 ≤ s.size := by
  unfold byteOne at *
  split <;> simp_all <;> omega
theorem textOne_le {s : ByteArray} {most : Int} (h : (textOne s most).2.2 = 0) : (textOne s most).2.1 ≤ s.size := by
  have h1 := numM_range (toL s)
  rw [toL_length] at h1
  unfold textOne at h ⊢
  by_cases a : (numM (toL s)).2.2 ≠ 0
  · rw [if_pos a] at h ⊢; exact Nat.zero_le _
  · rw [if_neg a] at h ⊢
    by_cases b : most < 0 ∨ most < (numM (toL s)).1
    · rw [if_pos b] at h ⊢; exact Nat.zero_le _
    · rw [if_neg b] at h ⊢
      by_cases c : s.size - (numM (toL s)).2.1 < (numM (toL s)).1
      · rw [if_pos c] at h ⊢; exact Nat.zero_le _
      · rw [if_neg c] at h ⊢
        show (numM (toL s)).2.1 + (numM (toL s)).1 ≤ s.size
        omega
end Go.Proofs.Base
/-
  Values and variables (layer 9), as plain functions; no program.
-/
set_option linter.unusedVariables false
set_option linter.unusedSimpArgs false
namespace Go.Proofs.Base
open Go Go.RowKit
def i64 (n : Int) : Prop := -9223372036854775808 ≤ n ∧ n ≤ 9223372036854775807
def u64 (n : Int) : Prop := 0 ≤ n ∧ n ≤ 18446744073709551615
def okS (s : ByteArray) : Prop := s.size ≤ 140737488351232
structure GVal where
  k : Int
  n : Int
  s : ByteArray
structure GVar where
  name : ByteArray
  v : GVal
@[ext] theorem GVal.ext {a b : GVal} (h1 : a.k = b.k) (h2 : a.n = b.n) (h3 : a.s = b.s) : a = b := by cases a; cases b; simp_all
@[ext] theorem GVar.ext {a b : GVar} (h1 : a.name = b.name) (h2 : a.v = b.v) : a = b := by cases a; cases b; simp_all
def GVal.wf (v : GVal) : Prop := i64 v.k ∧ i64 v.n ∧ okS v.s
def GVar.wf (v : GVar) : Prop := okS v.name ∧ v.v.wf
def GVal.cells (v : GVal) : List Value := [.int .i64 v.k, .int .i64 v.n, .string v.s]
def GVar.cells (v : GVar) : List Value := [.string v.name, .int .i64 v.v.k, .int .i64 v.v.n, .string v.v.s]
def GVar.val (v : GVar) : Value := .agg #[.string v.name, .int .i64 v.v.k, .int .i64 v.v.n, .string v.v.s]
def GVal.val (v : GVal) : Value := .agg #[.int .i64 v.k, .int .i64 v.n, .string v.s]
def varCells (l : List GVar) : List Value := l.flatMap GVar.cells
def zeroV : GVal := ⟨0, 0, ByteArray.empty⟩
def mayV (k n : Int) (s : ByteArray) : Bool :=
  if k = 3 then decide (n = 0) && decide (s.size ≤ 1024)
  else if k = 2 then (decide (n = 0) || decide (n = 1)) && decide (s.size = 0)
  else if k = 1 then decide (s.size = 0) else false
def GVal.may (v : GVal) : Bool := mayV v.k v.n v.s
def nameB (c : UInt8) : Bool := (decide (97 ≤ c.toNat) && decide (c.toNat ≤ 122)) || (decide (48 ≤ c.toNat) && decide (c.toNat ≤ 57)) || decide (c.toNat = 95)
def letterB (c : UInt8) : Bool := decide (97 ≤ c.toNat) && decide (c.toNat ≤ 122)
def words : List (List UInt8) := [[97, 110, 100], [111, 114], [110, 111, 116], [116, 114, 117, 101], [102, 97, 108, 115, 101], [108, 101, 110]]
def named (s : ByteArray) : Bool :=
  match toL s with
  | [] => false
  | c :: r => decide (s.size ≤ 32) && letterB c && r.all nameB && !words.contains (c :: r)
def wordBs : List ByteArray := words.map ofL
theorem named_nil {s : ByteArray} (h : ¬ 0 < s.size) : named s = false := by
  have : toL s = [] := List.eq_nil_of_length_eq_zero (by rw [toL_length]; omega)
  unfold named; rw [this]
theorem named_cons {s : ByteArray} (h : 0 < s.size) : named s = (decide (s.size ≤ 32) && letterB s[0] && ((toL s).drop 1).all nameB && !(wordBs.any fun y => s.toList == y.toList)) := by
  have h1 : toL s = s[0] :: (toL s).drop 1 := by have := toL_drop_cons (s := s) (k := 0) h; simpa using this
  have h2 : words.contains (toL s) = wordBs.any fun y => s.toList == y.toList := by
    rw [toList_toL, wordBs, List.any_map]
    rw [List.contains_eq_any_beq]
    apply congrArg (fun f => words.any f)
    funext l
    simp [toList_toL]
  unfold named
  rw [← h2]
  generalize (toL s).drop 1 = r at *
  rw [h1]
def valB (k n : Int) (s : ByteArray) : ByteArray := if mayV k n s then ofN [k.toNat] ++ (if k = 3 then textB s else intB n) else ByteArray.empty
def GVal.bytes (v : GVal) : ByteArray := valB v.k v.n v.s
def lessS (a b : ByteArray) : Bool := Op.bytesLess a.toList b.toList
def rightFrom : Option ByteArray → List GVar → Bool
  | _, [] => true
  | p, x :: r => named x.name && x.v.may && (match p with | none => true | some q => lessS q x.name) && rightFrom (some x.name) r
def rightV (l : List GVar) : Bool := decide (l.length ≤ 16) && rightFrom none l
theorem varCells_at {l : List GVar} {i : Nat} (h : i < l.length) : (varCells l)[i * 4 + 0]? = some (.string l[i].name) ∧ (varCells l)[i * 4 + 1]? = some (.int .i64 l[i].v.k) ∧ (varCells l)[i * 4 + 2]? = some (.int .i64 l[i].v.n) ∧ (varCells l)[i * 4 + 3]? = some (.string l[i].v.s) := by
  induction l generalizing i with
  | nil => simp at h
  | cons x r ih =>
    cases i with
    | zero => simp [varCells, GVar.cells]
    | succ i =>
      have h' : i < r.length := by simpa using h
      have e : ∀ j, (varCells (x :: r))[(i + 1) * 4 + j]? = (varCells r)[i * 4 + j]? := fun j => by
        have e1 : varCells (x :: r) = x.cells ++ varCells r := rfl
        have e2 : x.cells.length = 4 := rfl
        rw [e1, List.getElem?_append_right (by omega), e2]
        congr 1
        omega
      simp only [e, List.getElem_cons_succ]
      exact ih h'
theorem mayV_k {k n : Int} {s : ByteArray} (h : mayV k n s = true) : (k = 1 ∨ k = 2 ∨ k = 3) ∧ s.size ≤ 1024 := by
  unfold mayV at h
  by_cases h3 : k = 3
  · rw [if_pos h3] at h
    simp only [Bool.and_eq_true, decide_eq_true_eq] at h
    exact ⟨.inr (.inr h3), h.2⟩
  · rw [if_neg h3] at h
    by_cases h2 : k = 2
    · rw [if_pos h2] at h
      simp only [Bool.and_eq_true, decide_eq_true_eq] at h
      exact ⟨.inr (.inl h2), by omega⟩
    · rw [if_neg h2] at h
      by_cases h1 : k = 1
      · rw [if_pos h1] at h
        simp only [decide_eq_true_eq] at h
        exact ⟨.inl h1, by omega⟩
      · rw [if_neg h1] at h; cases h
def varsCat : List GVar → ByteArray
  | [] => ByteArray.empty
  | x :: r => (textB x.name ++ x.v.bytes) ++ varsCat r
def varsB (l : List GVar) : ByteArray := if rightV l then uintB l.length ++ varsCat l else ByteArray.empty
theorem app_assoc (a b c : ByteArray) : a ++ b ++ c = a ++ (b ++ c) := toL_inj (by simp)
theorem app_empty (a : ByteArray) : a ++ ByteArray.empty = a := toL_inj (by rw [toL_append]; show toL a ++ [] = _; simp)
theorem empty_app (a : ByteArray) : ByteArray.empty ++ a = a := toL_inj (by rw [toL_append]; show [] ++ toL a = _; simp)
theorem app_size (a b : ByteArray) : (a ++ b).size = a.size + b.size := ByteArray.size_append
theorem valB_size {k n : Int} {s : ByteArray} (hn : i64 n) (h : mayV k n s = true) : (valB k n s).size ≤ 1100 := by
  obtain ⟨_, hs⟩ := mayV_k h
  unfold valB
  rw [if_pos h, app_size, ofN_size]
  split
  · have := uintB_size (v := s.size) (by omega)
    rw [textB, app_size]
    simp
    omega
  · have := intB_size hn.1 hn.2
    simp
    omega
theorem textB_size {s : ByteArray} (h : s.size ≤ 140737488351232) : (textB s).size ≤ s.size + 10 := by
  have := uintB_size (v := s.size) (by omega)
  rw [textB, app_size]
  omega
theorem named_size {s : ByteArray} (h : named s = true) : s.size ≤ 32 ∧ 0 < s.size := by
  by_cases h0 : 0 < s.size
  · rw [named_cons h0] at h
    simp only [Bool.and_eq_true, decide_eq_true_eq] at h
    exact ⟨h.1.1.1, h0⟩
  · rw [named_nil h0] at h; cases h
theorem rightFrom_all : ∀ (p : Option ByteArray) (l : List GVar), rightFrom p l = true → ∀ x ∈ l, named x.name = true ∧ x.v.may = true
  | _, [], _, x, hx => by cases hx
  | p, y :: r, h, x, hx => by
    simp only [rightFrom, Bool.and_eq_true] at h
    rcases List.mem_cons.1 hx with rfl | hx
    · exact ⟨h.1.1.1, h.1.1.2⟩
    · exact rightFrom_all _ r h.2 x hx
theorem rightV_all {l : List GVar} (h : rightV l = true) : l.length ≤ 16 ∧ ∀ x ∈ l, named x.name = true ∧ x.v.may = true := by
  unfold rightV at h
  simp only [Bool.and_eq_true, decide_eq_true_eq] at h
  exact ⟨h.1, rightFrom_all _ l h.2⟩
def takeRaw (s : ByteArray) (e : Nat) : GVal × ByteArray × Nat :=
  if (rdByte s e).1 = 3 then (⟨3, 0, (rdText 1024 (rdByte s e).2.1 (rdByte s e).2.2).1⟩, (rdText 1024 (rdByte s e).2.1 (rdByte s e).2.2).2)
  else (⟨(rdByte s e).1, (rdInt (rdByte s e).2.1 (rdByte s e).2.2).1, ByteArray.empty⟩, (rdInt (rdByte s e).2.1 (rdByte s e).2.2).2)
def takeOk (s : ByteArray) (e : Nat) : Bool := decide ((takeRaw s e).2.2 = 0) && (takeRaw s e).1.may
def takeV (s : ByteArray) (e : Nat) : GVal := if takeOk s e then (takeRaw s e).1 else zeroV
theorem rdByte_size (s : ByteArray) (e : Nat) : (rdByte s e).2.1.size ≤ s.size := takeM_size _ _ _ _
theorem rdUint_size (s : ByteArray) (e : Nat) : (rdUint s e).2.1.size ≤ s.size := takeM_size _ _ _ _
theorem rdInt_size (s : ByteArray) (e : Nat) : (rdInt s e).2.1.size ≤ s.size := takeM_size _ _ _ _
theorem rdText_size (m : Int) (s : ByteArray) (e : Nat) : (rdText m s e).2.1.size ≤ s.size := takeM_size _ _ _ _
theorem takeRaw_size (s : ByteArray) (e : Nat) : (takeRaw s e).2.1.size ≤ s.size := by
  have := rdByte_size s e
  unfold takeRaw
  split
  · exact Nat.le_trans (rdText_size _ _ _) this
  · exact Nat.le_trans (rdInt_size _ _) this
theorem rdByte_lt (s : ByteArray) (e : Nat) : (rdByte s e).1 < 256 := by
  unfold rdByte takeM
  split
  · show 0 < 256; omega
  · split
    · show 0 < 256; omega
    · show (byteOne s).1 < 256
      unfold byteOne
      split
      · exact UInt8.toNat_lt _
      · show 0 < 256; omega
theorem set_blk3 {w : World} {b : Nat} {x0 x1 x2 : Value} {t : TypeId} {f : Nat × Nat} (h : w.heap[b]? = some (.cells #[x0, x1, x2] t f)) (y0 y1 y2 : Value) :
    (((w.setCell ⟨b, 0, none⟩ y0).setCell ⟨b, 1, none⟩ y1).setCell ⟨b, 2, none⟩ y2).heap[b]? = some (.cells #[y0, y1, y2] t f) := set_blk (set_blk (set_blk h y0) y1) y2
def takeGo : Nat → ByteArray → Nat → List GVar → Option (List GVar) × ByteArray × Nat
  | 0, s, e, acc => (some acc, s, e)
  | m + 1, s, e, acc =>
    if takeOk (rdText 32 s e).2.1 (rdText 32 s e).2.2 then takeGo m (takeRaw (rdText 32 s e).2.1 (rdText 32 s e).2.2).2.1 (takeRaw (rdText 32 s e).2.1 (rdText 32 s e).2.2).2.2 (acc ++ [⟨(rdText 32 s e).1, takeV (rdText 32 s e).2.1 (rdText 32 s e).2.2⟩])
    else (none, (takeRaw (rdText 32 s e).2.1 (rdText 32 s e).2.2).2)
def takeFin : Option (List GVar) × ByteArray × Nat → Option (List GVar) × ByteArray × Nat
  | (none, s, e) => (none, s, e)
  | (some l, s, e) => if e = 0 ∧ rightV l = true then (some l, s, e) else (none, s, e)
def takeVars (s : ByteArray) (e : Nat) : Option (List GVar) × ByteArray × Nat :=
  if 16 < (rdUint s e).1 then (none, (rdUint s e).2) else takeFin (takeGo (rdUint s e).1 (rdUint s e).2.1 (rdUint s e).2.2 [])
theorem varCells_append (a b : List GVar) : varCells (a ++ b) = varCells a ++ varCells b := by simp [varCells]
theorem takeGo_size : ∀ (m : Nat) (s : ByteArray) (e : Nat) (acc : List GVar), (takeGo m s e acc).2.1.size ≤ s.size
  | 0, s, e, acc => Nat.le_refl _
  | m + 1, s, e, acc => by
    have h1 := rdText_size 32 s e
    have h2 := takeRaw_size (rdText 32 s e).2.1 (rdText 32 s e).2.2
    unfold takeGo
    split
    · exact Nat.le_trans (takeGo_size m _ _ _) (by omega)
    · exact Nat.le_trans h2 h1
theorem unzig_i64 {v : Nat} (h : v < 18446744073709551616) : i64 (unzig v) := by
  unfold unzig i64
  split <;> omega
theorem rdInt_i64 (s : ByteArray) (e : Nat) : i64 (rdInt s e).1 := by
  unfold rdInt takeM
  split
  · show i64 0; unfold i64; omega
  · split
    · show i64 0; unfold i64; omega
    · exact unzig_i64 (numM_range _).1
theorem rdUint_lt (s : ByteArray) (e : Nat) : (rdUint s e).1 < 18446744073709551616 := by
  unfold rdUint takeM
  split
  · show 0 < _; omega
  · split
    · show 0 < _; omega
    · exact (numM_range _).1
theorem textOne_size (s : ByteArray) (m : Int) : (textOne s m).1.size ≤ s.size := by
  unfold textOne
  split
  · exact Nat.zero_le _
  · split
    · exact Nat.zero_le _
    · split
      · exact Nat.zero_le _
      · show (s.extract _ _).size ≤ _
        rw [ByteArray.size_extract]
        omega
theorem rdText_res (m : Int) (s : ByteArray) (e : Nat) : (rdText m s e).1.size ≤ s.size := by
  unfold rdText takeM
  split
  · exact Nat.zero_le _
  · split
    · exact Nat.zero_le _
    · exact textOne_size _ _
theorem takeV_wf {s : ByteArray} {e : Nat} (h : s.size ≤ 140737488351232) : (takeV s e).wf := by
  have h0 : zeroV.wf := ⟨by unfold i64 zeroV; simp, by unfold i64 zeroV; simp, Nat.zero_le _⟩
  have h1 := rdByte_lt s e
  have h2 := rdByte_size s e
  have h3 := rdText_res 1024 (rdByte s e).2.1 (rdByte s e).2.2
  have h4 := rdInt_i64 (rdByte s e).2.1 (rdByte s e).2.2
  unfold takeV
  split
  · unfold takeRaw
    split
    · exact ⟨by unfold i64; simp, by unfold i64; simp, Nat.le_trans (Nat.le_trans h3 h2) h⟩
    · exact ⟨by unfold i64; simp; omega, h4, Nat.zero_le _⟩
  · exact h0
end Go.Proofs.Base
/-
  Records (layer 12), as plain functions; no program.
-/
set_option linter.unusedVariables false
set_option linter.unusedSimpArgs false
namespace Go.Proofs.Base
open Go Go.RowKit
structure GRec where
  cls : Int
  kind : Int
  frm : Int
  time : Int
  key : Int
  key2 : Int
  key3 : Int
  n : Int
  m : Int
  a : ByteArray
  b : ByteArray
  c : ByteArray
  vars : List GVar
def GRec.wf (r : GRec) : Prop := i64 r.cls ∧ i64 r.kind ∧ u64 r.frm ∧ i64 r.time ∧ u64 r.key ∧ u64 r.key2 ∧ u64 r.key3 ∧ i64 r.n ∧ i64 r.m ∧ okS r.a ∧ okS r.b ∧ okS r.c ∧ ∀ x ∈ r.vars, x.wf
def recHead (r : GRec) : ByteArray := ofN [(r.cls % 256).toNat, (r.kind % 256).toNat]
def recPiece (r : GRec) : Nat → ByteArray
  | 0 => uintB r.frm.toNat ++ intB r.time
  | 1 => uintB r.key.toNat ++ uintB r.key2.toNat ++ uintB r.key3.toNat
  | 2 => intB r.n ++ intB r.m
  | 3 => textB r.a ++ textB r.b ++ textB r.c
  | _ => varsB r.vars
def recAcc (r : GRec) : Nat → ByteArray
  | 0 => recHead r
  | k + 1 => recAcc r k ++ recPiece r k
def recText (r : GRec) : ByteArray := recAcc r 5
def kindsM (cls : Int) : Int := if cls = 2 then 24 else 16
def aMost (cls kind : Int) : Int := if cls = 1 ∧ kind = 1 then 8192 else 32
def bMost (cls kind : Int) : Int := if cls = 2 ∧ kind = 1 then 8192 else 1024
def recMayP (r : GRec) : Prop := 1 ≤ r.cls ∧ r.cls ≤ 3 ∧ 1 ≤ r.kind ∧ r.kind ≤ kindsM r.cls ∧ (r.cls = 1 ↔ r.frm = 0) ∧ 0 ≤ r.time ∧ r.time ≤ 1099511627776 ∧
  (r.a.size : Int) ≤ aMost r.cls r.kind ∧ (r.b.size : Int) ≤ bMost r.cls r.kind ∧ r.c.size ≤ 32 ∧ rightV r.vars = true ∧ (recText r).size ≤ 4096
instance (r : GRec) : Decidable (recMayP r) := by unfold recMayP; infer_instance
def recMay (r : GRec) : Bool := decide (recMayP r)
def recB (r : GRec) : ByteArray × Int := if recMay r then (recText r, 0) else (⟨#[]⟩, 1)
theorem varsCat_size : ∀ (l : List GVar), (∀ x ∈ l, x.wf) → (∀ x ∈ l, named x.name = true ∧ x.v.may = true) → (varsCat l).size ≤ l.length * 2000
  | [], _, _ => Nat.le_refl _
  | x :: r, hw, ha => by
    have h1 := varsCat_size r (fun y hy => hw y (List.mem_cons_of_mem _ hy)) (fun y hy => ha y (List.mem_cons_of_mem _ hy))
    have h2 := ha x List.mem_cons_self
    have h3 := hw x List.mem_cons_self
    have h4 := (named_size h2.1).1
    have h5 := textB_size (s := x.name) (by omega)
    have h6 : x.v.bytes.size ≤ 1100 := valB_size h3.2.2.1 h2.2
    show ((textB x.name ++ x.v.bytes) ++ varsCat r).size ≤ _
    rw [app_size, app_size, List.length_cons]
    omega
theorem varsB_size {l : List GVar} (hw : ∀ x ∈ l, x.wf) : (varsB l).size ≤ 40000 := by
  unfold varsB
  split
  · rename_i h
    obtain ⟨h16, hall⟩ := rightV_all h
    have h1 := varsCat_size l hw hall
    have h2 := uintB_size (v := l.length) (by omega)
    rw [app_size]
    omega
  · exact Nat.zero_le _
theorem u64_toNat {n : Int} (h : u64 n) : n.toNat < 18446744073709551616 := by have := h.1; have := h.2; omega
theorem recPiece_size {r : GRec} (h : r.wf) : ∀ k, (recPiece r k).size ≤ 422212465053736 := by
  obtain ⟨h1, h2, h3, h4, h5, h6, h7, h8, h9, h10, h11, h12, h13⟩ := h
  intro k
  unfold recPiece
  split
  · have := uintB_size (u64_toNat h3); have := intB_size h4.1 h4.2; rw [app_size]; omega
  · have := uintB_size (u64_toNat h5); have := uintB_size (u64_toNat h6); have := uintB_size (u64_toNat h7); rw [app_size, app_size]; omega
  · have := intB_size h8.1 h8.2; have := intB_size h9.1 h9.2; rw [app_size]; omega
  · have := textB_size h10; have := textB_size h11; have := textB_size h12
    unfold okS at h10 h11 h12
    rw [app_size, app_size]; omega
  · have := varsB_size h13; omega
theorem recAcc_size {r : GRec} (h : r.wf) : ∀ k, (recAcc r k).size ≤ 2 + k * 422212465053736
  | 0 => by show (recHead r).size ≤ _; rw [recHead, ofN_size]; simp
  | k + 1 => by
    have h1 := recAcc_size h k
    have h2 := recPiece_size h k
    show (recAcc r k ++ recPiece r k).size ≤ _
    rw [app_size]
    omega
end Go.Proofs.Base
/-
  The bytes of numbers and texts begin with them alone; records of which one field is another one.
-/
set_option linter.unusedVariables false
set_option linter.unusedSimpArgs false
namespace Go.Proofs.Base
open Go Go.RowKit
end Go.Proofs.Base
/-
  Records that may be have the same bytes just if they are the same.
-/
set_option linter.unusedVariables false
set_option linter.unusedSimpArgs false
namespace Go.Proofs.Base
open Go Go.RowKit
end Go.Proofs.Base
/-
  What is taken from bytes is what they were made of, and nothing else: numbers and texts.
-/
set_option linter.unusedVariables false
set_option linter.unusedSimpArgs false
namespace Go.Proofs.Base
open Go Go.RowKit
end Go.Proofs.Base
/-
  What is taken from bytes is what they were made of, and nothing else: numbers with a sign, texts, values, variables, records.
-/
set_option linter.unusedVariables false
set_option linter.unusedSimpArgs false
namespace Go.Proofs.Base
open Go Go.RowKit
end Go.Proofs.Base
/-
  Values, variables, records: taken as they were laid, and nothing else. Printed by gentaker.py.
-/
set_option linter.unusedVariables false
set_option linter.unusedSimpArgs false
namespace Go.Proofs.Base
open Go Go.RowKit
end Go.Proofs.Base
/-
  The walks of wire's reader.
-/
set_option linter.unusedVariables false
set_option linter.unusedSimpArgs false
namespace Go.Proofs.Ytcfdbdmefdffdaa
open Go Go.RowKit Go.Proofs.Base
def Rdr (w : World) (g : Nat) (s : ByteArray) (e : Nat) : Prop := w.heap[g]? = some (.cells #[.string s, .int .i64 e] 77 (0, 0))
theorem Rdr.facts {w : World} {g : Nat} {s : ByteArray} {e : Nat} (h : Rdr w g s e) : w.cell? ⟨g, 0, none⟩ = some (.string s) ∧ w.cell? ⟨g, 1, none⟩ = some (.int .i64 e) ∧ w.frozen? ⟨g, 0, none⟩ = false ∧ w.frozen? ⟨g, 1, none⟩ = false ∧ g < w.heap.size :=
  ⟨cell_of_blk h 0, cell_of_blk h 1, frozen_of_blk h 0, frozen_of_blk h 1, lt_of_blk h⟩
theorem and127 (b : UInt8) : bits .and .u8 (b.toNat : Int) 127 = ((b.toNat % 128 : Nat) : Int) := by
  have h : ∀ m : Fin 256, bits .and .u8 ((m.val : Nat) : Int) 127 = ((m.val % 128 : Nat) : Int) := by decide +kernel
  exact h ⟨b.toNat, b.toNat_lt⟩
theorem or_step (v k : Nat) (b : UInt8) (hv : v < 128 ^ k) (hk : k ≤ 9) (hb : k = 9 → b.toNat ≤ 1) (m : Int) (hm : m = 2 ^ (7 * k)) :
    bits .or .u64 (v : Int) (IntKind.u64.wrap (IntKind.u64.wrap (bits .and .u8 (b.toNat : Int) 127) * m)) = ((v + b.toNat % 128 * 128 ^ k : Nat) : Int) := by
  subst hm
  have hw : ∀ x : Int, IntKind.u64.wrap x = x % 18446744073709551616 := fun x => by simp [IntKind.wrap, IntKind.bits, IntKind.signed]
  have e7 : (2 : Int) ^ (7 * k) = ((128 ^ k : Nat) : Int) := by rw [Int.pow_mul]; simp
  have hlt : b.toNat % 128 * 128 ^ k < 18446744073709551616 ∧ v < 18446744073709551616 := by
    have h3 : (128 : Nat) ^ 9 = 9223372036854775808 := by decide
    by_cases h9 : k = 9
    · subst h9
      have h1 : b.toNat % 128 * 128 ^ 9 ≤ 1 * 128 ^ 9 := Nat.mul_le_mul_right _ (by have := hb rfl; omega)
      omega
    · have h1 := step_lt (b := b.toNat % 128) hv (by omega)
      have h2 : 128 ^ (k + 1) ≤ 128 ^ 9 := Nat.pow_le_pow_right (by omega) (by omega)
      omega
  rw [and127, e7, hw, hw]
  have e1 : ((b.toNat % 128 : Nat) : Int) % 18446744073709551616 = ((b.toNat % 128 : Nat) : Int) := by omega
  rw [e1, ← Int.natCast_mul]
  have e2 : ((b.toNat % 128 * 128 ^ k : Nat) : Int) % 18446744073709551616 = ((b.toNat % 128 * 128 ^ k : Nat) : Int) := by
    generalize b.toNat % 128 * 128 ^ k = q at hlt ⊢
    omega
  rw [e2, u64_or_nat _ _ hlt.2 hlt.1]
  have e128 : 128 ^ k = 2 ^ (7 * k) := by rw [Nat.pow_mul]
  rw [e128, ← Nat.shiftLeft_eq, Nat.or_comm, Nat.add_comm, Nat.shiftLeft_add_eq_or_of_lt (by rw [← e128]; exact hv)]
set_option maxRecDepth 100000 in
set_option maxHeartbeats 1000000 in
theorem rd_number (g : Nat) (s : ByteArray) (e0 : Nat) (w : World) (hr : Rdr w g s e0) (hs : s.size ≤ 9223372036854775807) :
    Calls Try.prog 59 #[.pointer (some ⟨g, 0, none⟩)] w fun e w' => e = .returned (.tuple #[.int .u64 (numM (toL s)).1, .int .i64 (numM (toL s)).2.1, .int .i64 (numM (toL s)).2.2]) ∧ w = w' := by
  obtain ⟨c0, c1, f0, f1, hg⟩ := hr.facts
  have HM : Hid (numM (toL s) = numGo ((toL s).drop 0) 0 0) := Lib.hid rfl
  clear hr c1 f0 f1
  go_enter Try.func59, Try.ntmps59
  go_wp2_with fail
  go_loop [5, 6, 7, 13] (fun a _ _ i => ∃ (k v : Nat), k ≤ s.size ∧ k ≤ 9 ∧ i = .int .i64 k ∧ a = .int .u64 v ∧ v < 128 ^ k ∧ Hid (numM (toL s) = numGo ((toL s).drop k) k v)) (fun _ _ _ i => s.size - (intOf i).toNat)
  case atStart => exact ⟨0, 0, by omega, by omega, rfl, rfl, by simp, HM⟩
  case round =>
    obtain ⟨k, v, hk, hk9, rfl, rfl, hv, HN⟩ := hrel
    by_cases hlt : k < s.size
    · have hN := HN.out
      rw [toL_drop_cons hlt] at hN
      have HN2 := Lib.hid hN
      clear hN HN
      have hb := s[k].toNat_lt
      by_cases hbad : (k = 9 ∧ 1 < s[k].toNat) ∨ (0 < k ∧ s[k].toNat = 0)
      · have h9 := HN2.out
        rw [numGo_bad hbad] at h9
        have H9 := Lib.hid h9
        clear h9 HN2
        rcases hbad with ⟨rfl, h2⟩ | ⟨h1, h2⟩
        · have h2' : (1 : Int) < s[9].toNat := by omega
          go_wp2_with fail
          go_ret3
          exact ⟨by rw [H9.out]; rfl, rfl⟩
        · have h3 : ((s[k].toNat : Int) == 0) = true := by rw [h2]; rfl
          have h4 : ((k : Int) == 9) = true ∨ ((k : Int) == 9) = false := by cases ((k : Int) == 9) <;> simp
          have h5 : ¬ (1 : Int) < s[k].toNat := by omega
          clear h2
          rcases h4 with h4 | h4
          all_goals
            go_wp2_with fail
            go_ret3
            exact ⟨by rw [H9.out]; rfl, rfl⟩
      · have hbn : ¬ (k = 9 ∧ 1 < s[k].toNat) ∧ ¬ (0 < k ∧ s[k].toNat = 0) := ⟨fun h => hbad (.inl h), fun h => hbad (.inr h)⟩
        have Hb := Lib.hid hbad
        have hb9 : k = 9 → s[k].toNat ≤ 1 := by omega
        have Hb9 := Lib.hid hb9
        clear hbad hb9
        by_cases h128 : s[k].toNat < 128
        · have h9 := HN2.out
          rw [numGo_end Hb.out h128] at h9
          have H9 := Lib.hid h9
          clear h9 HN2
          go_wp2_with fail
          · obtain rfl : k = 9 := by omega
            go_ret3
            exact ⟨ret3 (by rw [H9.out]; exact vint (or_step v 9 s[9] hv hk9 Hb9.out _ (by decide))) (by rw [H9.out]; rfl) (by rw [H9.out]; rfl), rfl⟩
          all_goals
            go_ret3
            exact ⟨ret3 (by rw [H9.out]; exact vint (or_step v k s[k] hv hk9 Hb9.out _ rfl)) (by rw [H9.out]; exact vint (by simp)) (by rw [H9.out]; rfl), rfl⟩
        · have h9 := HN2.out
          rw [numGo_on Hb.out h128] at h9
          have H9 := Lib.hid h9
          clear h9 HN2
          have hk8 : k ≠ 9 := fun h => by have := Hb9.out h; omega
          go_wp2_with fail
          all_goals
            go_round
            case rel => exact ⟨k + 1, v + s[k].toNat % 128 * 128 ^ k, by omega, by omega, by go_num, vint (or_step v k s[k] hv hk9 Hb9.out _ rfl), step_lt hv (by omega), H9⟩
            case measure => simp [intOf]; omega
    · go_wp2_with fail
      go_ret3
      have h9 := HN.out
      rw [List.drop_eq_nil_of_le (by simp; omega)] at h9
      exact ⟨by rw [h9]; rfl, rfl⟩
theorem Rdr.set0 {w : World} {g : Nat} {s : ByteArray} {e : Nat} (h : Rdr w g s e) (s' : ByteArray) : Rdr (w.setCell ⟨g, 0, none⟩ (.string s')) g s' e := set_blk h _
theorem Rdr.set1 {w : World} {g : Nat} {s : ByteArray} {e : Nat} (h : Rdr w g s e) (e' : Nat) : Rdr (w.setCell ⟨g, 1, none⟩ (.int .i64 e')) g s e' := set_blk h _
theorem Rdr.alloc {w : World} {g : Nat} {s : ByteArray} {e : Nat} (h : Rdr w g s e) (o : Obj) : Rdr (w.alloc o) g s e := block_below ((Below.refl _ _).alloc (Nat.le_refl _) _) h
theorem mut0 (w : World) (g o : Nat) (v : Value) : Mut (fun b => b = g) w (w.setCell ⟨g, o, none⟩ v) := Mut.setCell (T := fun b => b = g) (Mut.refl _ w) (p := ⟨g, o, none⟩) (fun _ => rfl) v
set_option maxHeartbeats 1000000 in
theorem rd_byte1 (g : Nat) (s : ByteArray) (e0 : Nat) (w : World) (hr : Rdr w g s e0) (hs : s.size ≤ 9223372036854775807) :
    Calls Try.prog 57 #[.pointer (some ⟨g, 0, none⟩)] w fun e w' => e = .returned (.tuple #[.int .u8 (byteOne s).1, .int .i64 (byteOne s).2.1, .int .i64 (byteOne s).2.2]) ∧ w = w' := by
  obtain ⟨c0, c1, f0, f1, hg⟩ := hr.facts
  go_enter Try.func57, Try.ntmps57
  by_cases h : 0 < s.size
  · have he := emp_false h
    go_wp2
    go_ret3
    unfold byteOne
    rw [dif_pos h]
    exact ⟨rfl, rfl⟩
  · have he := emp_true (s := s) (by omega)
    go_wp2
    go_ret3
    unfold byteOne
    rw [dif_neg h]
    exact ⟨rfl, rfl⟩
set_option maxHeartbeats 1000000 in
theorem rd_Byte (g : Nat) (s : ByteArray) (e0 : Nat) (w : World) (hr : Rdr w g s e0) (hs : s.size ≤ 9223372036854775807) :
    Calls Try.prog 26 #[.pointer (some ⟨g, 0, none⟩)] w fun e w' => e = .returned (.int .u8 (rdByte s e0).1) ∧ Rdr w' g (rdByte s e0).2.1 (rdByte s e0).2.2 ∧ Mut (fun b => b = g) w w' := by
  have HC := Lib.hid (fun (w : World) (hr : Rdr w g s e0) => rd_byte1 g s e0 w hr hs)
  have hle : (byteOne s).2.2 = 0 → (byteOne s).2.1 ≤ s.size := byteOne_le
  unfold rdByte
  generalize byteOne s = one at *
  obtain ⟨c0, c1, f0, f1, hg⟩ := hr.facts
  have HR := Lib.hid hr
  clear hr
  by_cases h0 : e0 = 0
  · subst h0
    by_cases h1 : one.2.2 = 0
    · have hn := hle h1
      have hb := bne_f (a := (one.2.2 : Int)) (b := 0) (by omega)
      have H1 := Lib.hid h1
      clear h1 hle
      go_enter Try.func26, Try.ntmps26
      go_wp2_with (first | (go_at_call 56; go_in) | (go_at_call 57; refine (HC.out _ HR.out).mono ?_; rintro e w1 ⟨rfl, rfl⟩))
      go_ret
      rw [takeM_ok H1.out]
      exact ⟨rfl, HR.out.set0 _, mut0 _ _ _ _⟩
    · have hb := bne_t (a := (one.2.2 : Int)) (b := 0) (by omega)
      have H1 := Lib.hid h1
      clear h1 hle
      go_enter Try.func26, Try.ntmps26
      go_wp2_with (first | (go_at_call 56; go_in) | (go_at_call 57; refine (HC.out _ HR.out).mono ?_; rintro e w1 ⟨rfl, rfl⟩))
      go_ret
      rw [takeM_bad H1.out]
      exact ⟨rfl, HR.out.set1 _, mut0 _ _ _ _⟩
  · have hb := bne_t (a := (e0 : Int)) (b := 0) (by omega)
    have H0 := Lib.hid h0
    clear h0
    go_enter Try.func26, Try.ntmps26
    go_wp2_with (first | (go_at_call 56; go_in))
    go_ret
    rw [takeM_wrong H0.out]
    exact ⟨rfl, HR.out, Mut.refl _ _⟩
set_option maxHeartbeats 1000000 in
theorem rd_Uint (g : Nat) (s : ByteArray) (e0 : Nat) (w : World) (hr : Rdr w g s e0) (hs : s.size ≤ 9223372036854775807) :
    Calls Try.prog 27 #[.pointer (some ⟨g, 0, none⟩)] w fun e w' => e = .returned (.int .u64 (rdUint s e0).1) ∧ Rdr w' g (rdUint s e0).2.1 (rdUint s e0).2.2 ∧ Mut (fun b => b = g) w w' := by
  have HC := Lib.hid (fun (w : World) (hr : Rdr w g s e0) => rd_number g s e0 w hr hs)
  have hle : (numM (toL s)).2.2 = 0 → (numM (toL s)).2.1 ≤ s.size := fun _ => by have := numM_range (toL s); rw [toL_length] at this; omega
  unfold rdUint
  generalize numM (toL s) = one at *
  obtain ⟨c0, c1, f0, f1, hg⟩ := hr.facts
  have HR := Lib.hid hr
  clear hr
  by_cases h0 : e0 = 0
  · subst h0
    by_cases h1 : one.2.2 = 0
    · have hn := hle h1
      have hb := bne_f (a := (one.2.2 : Int)) (b := 0) (by omega)
      have H1 := Lib.hid h1
      clear h1 hle
      go_enter Try.func27, Try.ntmps27
      go_wp2_with (first | (go_at_call 58; go_in) | (go_at_call 59; refine (HC.out _ HR.out).mono ?_; rintro e w1 ⟨rfl, rfl⟩))
      go_ret
      rw [takeM_ok H1.out]
      exact ⟨rfl, HR.out.set0 _, mut0 _ _ _ _⟩
    · have hb := bne_t (a := (one.2.2 : Int)) (b := 0) (by omega)
      have H1 := Lib.hid h1
      clear h1 hle
      go_enter Try.func27, Try.ntmps27
      go_wp2_with (first | (go_at_call 58; go_in) | (go_at_call 59; refine (HC.out _ HR.out).mono ?_; rintro e w1 ⟨rfl, rfl⟩))
      go_ret
      rw [takeM_bad H1.out]
      exact ⟨rfl, HR.out.set1 _, mut0 _ _ _ _⟩
  · have hb := bne_t (a := (e0 : Int)) (b := 0) (by omega)
    have H0 := Lib.hid h0
    clear h0
    go_enter Try.func27, Try.ntmps27
    go_wp2_with (first | (go_at_call 58; go_in))
    go_ret
    rw [takeM_wrong H0.out]
    exact ⟨rfl, HR.out, Mut.refl _ _⟩
end Go.Proofs.Ytcfdbdmefdffdaa
/-
  The walks of wire's reader: numbers with a sign, texts, why it is wrong.
-/
set_option linter.unusedVariables false
set_option linter.unusedSimpArgs false
namespace Go.Proofs.Ytcfdbdmefdffdaa
open Go Go.RowKit Go.Proofs.Base
theorem xor_unzig (v : Nat) (hv : v < 18446744073709551616) (x : Int) (hx : x = wrap64 (-wrap64 (bits .and .u64 (v : Int) 1))) :
    bits .xor .i64 ((v : Int) / 2) x = unzig v := by
  subst hx
  have hw : ∀ x : Int, IntKind.i64.wrap x = (x + 9223372036854775808) % 18446744073709551616 - 9223372036854775808 := fun x => IntKind.wrap_i64 x
  have hb : ∀ a b : Int, bits .xor .i64 a b = IntKind.i64.wrap ((BitVec.ofInt 64 a ^^^ BitVec.ofInt 64 b).toNat : Int) := fun a b => rfl
  have e1 : bits .and .u64 (v : Int) 1 = ((v % 2 : Nat) : Int) := by
    have := u64_and_nat v 1 hv (by decide)
    rw [show ((1 : Nat) : Int) = 1 from rfl] at this
    rw [this, Nat.and_one_is_mod]
  rw [e1, hb, hw]
  unfold unzig
  have e2 : ((v : Int) / 2) = ((v / 2 : Nat) : Int) := by omega
  rw [e2]
  have hq : v / 2 < 9223372036854775808 := by omega
  by_cases h2 : v % 2 = 0
  · rw [h2, if_pos rfl]
    have e3 : wrap64 (-wrap64 ((0 : Nat) : Int)) = 0 := by unfold wrap64; omega
    have e4 : BitVec.ofInt 64 0 = 0#64 := by decide
    rw [e3, e4, BitVec.xor_zero, BitVec.toNat_ofInt]
    generalize v / 2 = q at hq
    omega
  · have h3 : v % 2 = 1 := by omega
    rw [h3, if_neg (by decide)]
    have e3 : wrap64 (-wrap64 ((1 : Nat) : Int)) = -1 := by unfold wrap64; omega
    have e4 : BitVec.ofInt 64 (-1) = BitVec.allOnes 64 := by decide
    rw [e3, e4, BitVec.xor_allOnes, BitVec.toNat_not, BitVec.toNat_ofInt]
    generalize v / 2 = q at hq
    omega
set_option maxHeartbeats 1000000 in
theorem rd_signed (g : Nat) (s : ByteArray) (e0 : Nat) (w : World) (hr : Rdr w g s e0) (hs : s.size ≤ 9223372036854775807) :
    Calls Try.prog 61 #[.pointer (some ⟨g, 0, none⟩)] w fun e w' => e = .returned (.tuple #[.int .i64 (intOne s).1, .int .i64 (intOne s).2.1, .int .i64 (intOne s).2.2]) ∧ w = w' := by
  have HC := Lib.hid (rd_number g s e0 w hr hs)
  have h1 := numM_range (toL s)
  unfold intOne
  generalize numM (toL s) = one at *
  clear hr
  go_enter Try.func61, Try.ntmps61
  go_wp2_with (go_at_call 59; refine HC.out.mono ?_; rintro e w1 ⟨rfl, rfl⟩)
  go_ret3
  exact ⟨ret3 (vint (xor_unzig _ h1.1 _ rfl)) rfl rfl, rfl⟩
set_option maxHeartbeats 1000000 in
theorem rd_Text1 (g B1 B2 : Nat) (s : ByteArray) (e0 : Nat) (most : Int) (w : World) (hr : Rdr w g s e0) (hs : s.size ≤ 9223372036854775807) (hc1 : w.cell? ⟨B1, 0, none⟩ = some (.pointer (some ⟨g, 0, none⟩))) (hc2 : w.cell? ⟨B2, 0, none⟩ = some (.int .i64 most)) (hm0 : -9223372036854775808 ≤ most) (hm : most ≤ 9223372036854775807) :
    Calls Try.prog 63 #[.pointer (some ⟨B1, 0, none⟩), .pointer (some ⟨B2, 0, none⟩)] w fun e w' => e = .returned (.tuple #[.string (textOne s most).1, .int .i64 (textOne s most).2.1, .int .i64 (textOne s most).2.2]) ∧ w = w' := by
  obtain ⟨c0, c1, f0, f1, hg⟩ := hr.facts
  have HC := Lib.hid (rd_number g s e0 w hr hs)
  have h1 := numM_range (toL s)
  rw [toL_length] at h1
  unfold textOne
  generalize numM (toL s) = one at *
  clear hr c1 f0 f1
  by_cases h2 : one.2.2 = 0
  · have hb := bne_f (a := (one.2.2 : Int)) (b := 0) (by omega)
    rw [if_neg (by omega : ¬ one.2.2 ≠ 0)]
    by_cases h3 : most < 0
    · rw [if_pos (.inl h3)]
      have H2 := Lib.hid h2
      clear h2
      go_enter Try.func63, Try.ntmps63
      go_wp2_with (go_at_call 59; refine HC.out.mono ?_; rintro e w1 ⟨rfl, rfl⟩)
      go_ret3
      exact ⟨rfl, rfl⟩
    · by_cases h4 : most < one.1
      · rw [if_pos (.inr h4)]
        have H2 := Lib.hid h2
        clear h2
        go_enter Try.func63, Try.ntmps63
        go_wp2_with (go_at_call 59; refine HC.out.mono ?_; rintro e w1 ⟨rfl, rfl⟩)
        go_ret3
        exact ⟨rfl, rfl⟩
      · rw [if_neg (by omega : ¬ (most < 0 ∨ most < one.1))]
        by_cases h5 : s.size - one.2.1 < one.1
        · rw [if_pos h5]
          have H2 := Lib.hid h2
          clear h2
          go_enter Try.func63, Try.ntmps63
          go_wp2_with (go_at_call 59; refine HC.out.mono ?_; rintro e w1 ⟨rfl, rfl⟩)
          go_ret3
          exact ⟨rfl, rfl⟩
        · rw [if_neg h5]
          have H2 := Lib.hid h2
          clear h2
          go_enter Try.func63, Try.ntmps63
          go_wp2_with (go_at_call 59; refine HC.out.mono ?_; rintro e w1 ⟨rfl, rfl⟩)
          go_ret3
          exact ⟨ret3 rfl (vint (by simp)) rfl, rfl⟩
  · have hb := bne_t (a := (one.2.2 : Int)) (b := 0) (by omega)
    rw [if_pos h2]
    have H2 := Lib.hid h2
    clear h2
    go_enter Try.func63, Try.ntmps63
    go_wp2_with (go_at_call 59; refine HC.out.mono ?_; rintro e w1 ⟨rfl, rfl⟩)
    go_ret3
    exact ⟨rfl, rfl⟩
set_option maxHeartbeats 1000000 in
theorem rd_Int (g : Nat) (s : ByteArray) (e0 : Nat) (w : World) (hr : Rdr w g s e0) (hs : s.size ≤ 9223372036854775807) :
    Calls Try.prog 28 #[.pointer (some ⟨g, 0, none⟩)] w fun e w' => e = .returned (.int .i64 (rdInt s e0).1) ∧ Rdr w' g (rdInt s e0).2.1 (rdInt s e0).2.2 ∧ Mut (fun b => b = g) w w' := by
  have HC := Lib.hid (fun (w : World) (hr : Rdr w g s e0) => rd_signed g s e0 w hr hs)
  have hle : (intOne s).2.2 = 0 → (intOne s).2.1 ≤ s.size := fun _ => by have := numM_range (toL s); rw [toL_length] at this; unfold intOne; show (numM (toL s)).2.1 ≤ _; omega
  unfold rdInt
  generalize intOne s = one at *
  obtain ⟨c0, c1, f0, f1, hg⟩ := hr.facts
  have HR := Lib.hid hr
  clear hr
  by_cases h0 : e0 = 0
  · subst h0
    by_cases h1 : one.2.2 = 0
    · have hn := hle h1
      have hb := bne_f (a := (one.2.2 : Int)) (b := 0) (by omega)
      have H1 := Lib.hid h1
      clear h1 hle
      go_enter Try.func28, Try.ntmps28
      go_wp2_with (first | (go_at_call 60; go_in) | (go_at_call 61; refine (HC.out _ HR.out).mono ?_; rintro e w1 ⟨rfl, rfl⟩))
      go_ret
      rw [takeM_ok H1.out]
      exact ⟨rfl, HR.out.set0 _, mut0 _ _ _ _⟩
    · have hb := bne_t (a := (one.2.2 : Int)) (b := 0) (by omega)
      have H1 := Lib.hid h1
      clear h1 hle
      go_enter Try.func28, Try.ntmps28
      go_wp2_with (first | (go_at_call 60; go_in) | (go_at_call 61; refine (HC.out _ HR.out).mono ?_; rintro e w1 ⟨rfl, rfl⟩))
      go_ret
      rw [takeM_bad H1.out]
      exact ⟨rfl, HR.out.set1 _, mut0 _ _ _ _⟩
  · have hb := bne_t (a := (e0 : Int)) (b := 0) (by omega)
    have H0 := Lib.hid h0
    clear h0
    go_enter Try.func28, Try.ntmps28
    go_wp2_with (first | (go_at_call 60; go_in))
    go_ret
    rw [takeM_wrong H0.out]
    exact ⟨rfl, HR.out, Mut.refl _ _⟩
set_option maxHeartbeats 1000000 in
theorem rd_Text (g : Nat) (s : ByteArray) (e0 : Nat) (most : Int) (w : World) (hr : Rdr w g s e0) (hs : s.size ≤ 9223372036854775807) (hm0 : -9223372036854775808 ≤ most) (hm : most ≤ 9223372036854775807) :
    Calls Try.prog 29 #[.pointer (some ⟨g, 0, none⟩), .int .i64 most] w fun e w' => e = .returned (.string (rdText most s e0).1) ∧ Rdr w' g (rdText most s e0).2.1 (rdText most s e0).2.2 ∧ Mut (fun b => b = g) w w' := by
  have hb2 : Below w.heap.size w ((w.alloc (.cells #[.pointer (some ⟨g, 0, none⟩)] 53)).alloc (.cells #[.int .i64 most] 3)) := ((Below.refl _ _).alloc (Nat.le_refl _) _).alloc (by simp) _
  have hr2 : Rdr ((w.alloc (.cells #[.pointer (some ⟨g, 0, none⟩)] 53)).alloc (.cells #[.int .i64 most] 3)) g s e0 := block_below hb2 hr
  have HC2 := Lib.hid (rd_Text1 g w.heap.size (w.heap.size + 1) s e0 most _ hr2 hs (by simp) (by simp) hm0 hm)
  have hle : (textOne s most).2.2 = 0 → (textOne s most).2.1 ≤ s.size := textOne_le
  unfold rdText
  generalize textOne s most = one at *
  obtain ⟨c0, c1, f0, f1, hg⟩ := hr.facts
  have HR := Lib.hid hr
  have HR2 := Lib.hid hr2
  have HB2 := Lib.hid hb2
  clear hr hr2 hb2
  by_cases h0 : e0 = 0
  · subst h0
    by_cases h1 : one.2.2 = 0
    · have hn := hle h1
      have hb := bne_f (a := (one.2.2 : Int)) (b := 0) (by omega)
      have H1 := Lib.hid h1
      clear h1 hle
      go_enter Try.func29, Try.ntmps29
      go_wp2_with (first | (go_at_call 62; go_in) | (go_at_call 63; refine HC2.out.mono ?_; rintro e w1 ⟨rfl, rfl⟩))
      go_ret
      rw [takeM_ok H1.out]
      exact ⟨rfl, ((HR.out.set0 _).alloc _).alloc _, ((mut0 _ _ _ _).alloc _).alloc _⟩
    · have hb := bne_t (a := (one.2.2 : Int)) (b := 0) (by omega)
      have H1 := Lib.hid h1
      clear h1 hle
      go_enter Try.func29, Try.ntmps29
      go_wp2_with (first | (go_at_call 62; go_in) | (go_at_call 63; refine HC2.out.mono ?_; rintro e w1 ⟨rfl, rfl⟩))
      go_ret
      rw [takeM_bad H1.out]
      exact ⟨rfl, ((HR.out.set1 _).alloc _).alloc _, ((mut0 _ _ _ _).alloc _).alloc _⟩
  · have hb := bne_t (a := (e0 : Int)) (b := 0) (by omega)
    have H0 := Lib.hid h0
    clear h0
    go_enter Try.func29, Try.ntmps29
    go_wp2_with (first | (go_at_call 62; go_in))
    go_ret
    rw [takeM_wrong H0.out]
    exact ⟨rfl, HR2.out, Mut.of_below HB2.out _⟩
set_option maxHeartbeats 1000000 in
theorem rd_Err (g : Nat) (s : ByteArray) (e0 : Nat) (w : World) (hr : Rdr w g s e0) :
    Calls Try.prog 65 #[.pointer (some ⟨g, 0, none⟩)] w fun e w' => e = .returned (.int .i64 e0) ∧ w = w' := by
  obtain ⟨c0, c1, f0, f1, hg⟩ := hr.facts
  go_enter Try.func65, Try.ntmps65
  go_wp2
  go_ret
  exact ⟨rfl, rfl⟩
def rdEnd (s : ByteArray) (e : Nat) : Nat := if e = 0 ∧ 0 < s.size then 3 else e
set_option maxHeartbeats 1000000 in
theorem rd_End (g : Nat) (s : ByteArray) (e0 : Nat) (w : World) (hr : Rdr w g s e0) :
    Calls Try.prog 31 #[.pointer (some ⟨g, 0, none⟩)] w fun e w' => e = .returned (.int .i64 (rdEnd s e0)) ∧ w = w' := by
  obtain ⟨c0, c1, f0, f1, hg⟩ := hr.facts
  have HC := Lib.hid (rd_Err g s e0 w hr)
  clear hr
  by_cases h : e0 = 0
  · subst h
    by_cases h2 : 0 < s.size
    · have he := emp_false h2
      have hE : rdEnd s 0 = 3 := by unfold rdEnd; rw [if_pos ⟨rfl, h2⟩]
      have HE := Lib.hid hE
      clear hE
      go_enter Try.func31, Try.ntmps31
      go_wp2_with (go_at_call 65; refine HC.out.mono ?_; rintro e w1 ⟨rfl, rfl⟩)
      go_ret
      exact ⟨by rw [HE.out]; rfl, rfl⟩
    · have he := emp_true (s := s) (by omega)
      have hE : rdEnd s 0 = 0 := by unfold rdEnd; rw [if_neg (fun hh => h2 hh.2)]
      have HE := Lib.hid hE
      clear hE
      go_enter Try.func31, Try.ntmps31
      go_wp2_with (go_at_call 65; refine HC.out.mono ?_; rintro e w1 ⟨rfl, rfl⟩)
      go_ret
      exact ⟨by rw [HE.out]; rfl, rfl⟩
  · have hb := beq_f (a := (e0 : Int)) (b := 0) (by omega)
    have hE : rdEnd s e0 = e0 := by unfold rdEnd; rw [if_neg (fun hh => h hh.1)]
    have HE := Lib.hid hE
    clear hE h
    go_enter Try.func31, Try.ntmps31
    go_wp2_with (go_at_call 65; refine HC.out.mono ?_; rintro e w1 ⟨rfl, rfl⟩)
    go_ret
    exact ⟨by rw [HE.out]; rfl, rfl⟩
set_option maxHeartbeats 1000000 in
theorem wire_Read (s : ByteArray) (w : World) :
    Calls Try.prog 25 #[.string s] w fun e w' => e = .returned (.pointer (some ⟨w.heap.size, 0, none⟩)) ∧ Rdr w' w.heap.size s 0 ∧ Below w.heap.size w w' := by
  go_enter Try.func25, Try.ntmps25
  go_wp2
  go_ret
  exact ⟨rfl, heap_alloc_new w _, (Below.refl _ _).alloc (Nat.le_refl _) _⟩
end Go.Proofs.Ytcfdbdmefdffdaa
/-
  Records taken: the plain function, that it takes what was laid, and nothing else. Printed by gentakes.py.
-/
set_option linter.unusedVariables false
set_option linter.unusedSimpArgs false
namespace Go.Proofs.Base
open Go Go.RowKit Go.Proofs.Ytcfdbdmefdffdaa
def tk0 (s : ByteArray) : Nat × ByteArray × Nat := rdByte s 0
def tk1 (s : ByteArray) : Nat × ByteArray × Nat := rdByte (tk0 s).2.1 (tk0 s).2.2
def tk2 (s : ByteArray) : Nat × ByteArray × Nat := rdUint (tk1 s).2.1 (tk1 s).2.2
def tk3 (s : ByteArray) : Int × ByteArray × Nat := rdInt (tk2 s).2.1 (tk2 s).2.2
def tk4 (s : ByteArray) : Nat × ByteArray × Nat := rdUint (tk3 s).2.1 (tk3 s).2.2
def tk5 (s : ByteArray) : Nat × ByteArray × Nat := rdUint (tk4 s).2.1 (tk4 s).2.2
def tk6 (s : ByteArray) : Nat × ByteArray × Nat := rdUint (tk5 s).2.1 (tk5 s).2.2
def tk7 (s : ByteArray) : Int × ByteArray × Nat := rdInt (tk6 s).2.1 (tk6 s).2.2
def tk8 (s : ByteArray) : Int × ByteArray × Nat := rdInt (tk7 s).2.1 (tk7 s).2.2
def tk9 (s : ByteArray) : ByteArray × ByteArray × Nat := rdText 8192 (tk8 s).2.1 (tk8 s).2.2
def tk10 (s : ByteArray) : ByteArray × ByteArray × Nat := rdText 8192 (tk9 s).2.1 (tk9 s).2.2
def tk11 (s : ByteArray) : ByteArray × ByteArray × Nat := rdText 32 (tk10 s).2.1 (tk10 s).2.2
def tk12 (s : ByteArray) : Option (List GVar) × ByteArray × Nat := takeVars (tk11 s).2.1 (tk11 s).2.2
def tkRec (s : ByteArray) (l : List GVar) : GRec := ⟨(tk0 s).1, (tk1 s).1, (tk2 s).1, (tk3 s).1, (tk4 s).1, (tk5 s).1, (tk6 s).1, (tk7 s).1, (tk8 s).1, (tk9 s).1, (tk10 s).1, (tk11 s).1, l⟩
def recTake (s : ByteArray) : Option GRec :=
  match (tk12 s).1 with
  | none => none
  | some l => if rdEnd (tk12 s).2.1 (tk12 s).2.2 = 0 ∧ recMay (tkRec s l) = true then some (tkRec s l) else none
end Go.Proofs.Base
/-
  The walks of wire's writers: Uint, Int, Text.
-/
set_option linter.unusedVariables false
set_option linter.unusedSimpArgs false
namespace Go.Proofs.Ytcfdbdmefdffdaa
open Go Go.RowKit Go.Proofs.Base
theorem elBytes : ElemT Try.prog 67 5 1 1 := .of Try.underlying67 (z := .int .u8 0) (by kernel_rfl) rfl
theorem or128 (x : Int) (h0 : 0 ≤ x) (h1 : x < 256) : bits .or .u8 x 128 = x % 128 + 128 := by
  obtain ⟨n, rfl⟩ := Int.eq_ofNat_of_zero_le h0
  have hn : n < 256 := by omega
  have : ∀ m : Fin 256, bits .or .u8 ((m.val : Nat) : Int) 128 = ((m.val : Nat) : Int) % 128 + 128 := by decide +kernel
  exact this ⟨n, hn⟩
set_option maxRecDepth 100000 in
set_option maxHeartbeats 1000000 in
theorem wire_Uint (v : Int) (w : World) (h0 : 0 ≤ v) (h1 : v ≤ 18446744073709551615) :
    Calls Try.prog 39 #[.int .u64 v] w fun e w' => e = .returned (.string (uintB v.toNat)) ∧ Below w.heap.size w w' := by
  have H1 := Lib.hid h1
  have hlen : (uintN v.toNat).length ≤ 10 := uintN_len10 (by omega)
  have Hlen := Lib.hid hlen
  clear h1 hlen
  go_enter Try.func39, Try.ntmps39
  go_wp2_with fail
  go_loopw [0, 3] (fun a b wr => ∃ (u : Nat) (xs : List Nat), a = .int .u64 u ∧ (u : Int) ≤ v ∧ Hid (xs ++ uintN u = uintN v.toNat) ∧ wr.ownsRow w.heap.size 5 1 b xs.length (nums8 xs) ∧ Below w.heap.size w wr) (fun a _ _ => (intOf a).toNat)
  case atStart => exact ⟨v.toNat, [], by rw [Int.toNat_of_nonneg h0], by omega, Lib.hid rfl, own_nil _ _ _ _, Below.refl _ _⟩
  case round =>
    obtain ⟨u, xs, rfl, hu, HX, HO, HB⟩ := hrel
    have hl2 : xs.length + (uintN u).length ≤ 10 := by have := congrArg List.length HX.out; have h9 := Hlen.out; rw [List.length_append] at this; omega
    have hp := uintN_pos u
    by_cases hlt : 127 < u
    · have hlt' : (127 : Int) < u := by omega
      go_wp2_with (at_builtin; refine wp_app elBytes (by decide) rfl (.tmp 6) (.tmp 10) rfl w.heap.size _ xs.length (nums8 xs) [_] rfl rfl rfl (by simp [Value.oneCell']) HO HB HB.size (by omega) (by omega) ?_; intro v1 w1 HO1 HB1 hg1 hat1)
      go_roundw
      case rel =>
        have e1 : bits .or .u8 ((u : Int) % 256) 128 = ((u % 128 + 128 : Nat) : Int) := by rw [or128 _ (by omega) (by omega)]; omega
        have e2 : nums8 xs ++ [Value.int .u8 (bits .or .u8 ((u : Int) % 256) 128)] = nums8 (xs ++ [u % 128 + 128]) := by rw [e1, nums8_append]; rfl
        rw [e2] at HO1
        refine ⟨u / 128, xs ++ [u % 128 + 128], by go_num, by omega, ?_, by simpa using HO1, HB1⟩
        have h9 := HX.out
        rw [uintN_ge (by omega)] at h9
        exact Lib.hid (by rw [← h9]; simp)
      case measure => simp [intOf]; omega
    · have hlt' : ¬ (127 : Int) < u := by omega
      go_wp2_with (at_builtin; refine wp_app elBytes (by decide) rfl (.tmp 14) (.tmp 17) rfl w.heap.size _ xs.length (nums8 xs) [_] rfl rfl rfl (by simp [Value.oneCell']) HO HB HB.size (by omega) (by omega) ?_)
      intro v1 w1 HO1 HB1 hg1 hat1
      have hcv := own_string (P := Try.prog) Try.underlying67 Try.underlying5 Try.underlying9 (xs := xs ++ [u]) (by rw [nums8_append]; exact HO1)
      go_wp2
      go_ret
      have h9 := HX.out
      rw [uintN_lt (by omega)] at h9
      exact ⟨by rw [h9]; rfl, HB1⟩
theorem xor_zig (v : Int) (h0 : -9223372036854775808 ≤ v) (h1 : v ≤ 9223372036854775807) :
    bits .xor .u64 (IntKind.u64.wrap (IntKind.u64.wrap v * 2)) (IntKind.u64.wrap (v / 9223372036854775808)) = (zig v : Int) := by
  have hw : ∀ x : Int, IntKind.u64.wrap x = x % 18446744073709551616 := fun x => by simp [IntKind.wrap, IntKind.bits, IntKind.signed]
  have hb : ∀ a b : Int, bits .xor .u64 a b = IntKind.u64.wrap ((BitVec.ofInt 64 a ^^^ BitVec.ofInt 64 b).toNat : Int) := fun a b => rfl
  rw [hb]
  unfold zig
  by_cases hv : 0 ≤ v
  · have e1 : v / 9223372036854775808 = 0 := by omega
    have e2 : IntKind.u64.wrap (IntKind.u64.wrap v * 2) = 2 * v := by rw [hw, hw]; omega
    rw [e1, e2, if_pos hv, hw, hw]
    have e3 : BitVec.ofInt 64 (0 % 18446744073709551616) = 0#64 := by decide
    rw [e3, BitVec.xor_zero, BitVec.toNat_ofInt]
    omega
  · have e1 : v / 9223372036854775808 = -1 := by omega
    have e2 : IntKind.u64.wrap (IntKind.u64.wrap v * 2) = 2 * v + 18446744073709551616 := by rw [hw, hw]; omega
    rw [e1, e2, if_neg hv, hw, hw]
    have e3 : BitVec.ofInt 64 (-1 % 18446744073709551616) = BitVec.allOnes 64 := by decide
    rw [e3, BitVec.xor_allOnes, BitVec.toNat_not, BitVec.toNat_ofInt]
    omega
set_option maxHeartbeats 1000000 in
theorem wire_Int (v : Int) (w : World) (h0 : -9223372036854775808 ≤ v) (h1 : v ≤ 9223372036854775807) :
    Calls Try.prog 40 #[.int .i64 v] w fun e w' => e = .returned (.string (intB v)) ∧ Below w.heap.size w w' := by
  have hz := zig_lt h0 h1
  go_enter Try.func40, Try.ntmps40
  go_wp2_with fail
  rw [xor_zig v h0 h1]
  refine (wire_Uint _ _ (by omega) (by omega)).mono ?_
  rintro e w1 ⟨rfl, hb1⟩
  go_wp2
  go_ret
  exact ⟨by simp [intB], hb1⟩
set_option maxHeartbeats 1000000 in
theorem wire_Text (s : ByteArray) (w : World) (h1 : s.size ≤ 140737488351232) :
    Calls Try.prog 44 #[.string s] w fun e w' => e = .returned (.string (textB s)) ∧ Below w.heap.size w w' := by
  have hu := uintB_size (v := s.size) (by omega)
  have hsz : ¬ 9223372036854775807 < (uintB s.size).size + s.size := by omega
  go_enter Try.func44, Try.ntmps44
  go_wp2_with (go_at_call 39; refine (wire_Uint _ _ (by omega) (by omega)).mono ?_; rintro e w1 ⟨rfl, hb1⟩)
  go_ret
  exact ⟨rfl, hb1⟩
end Go.Proofs.Ytcfdbdmefdffdaa
/-
  The walks of value: May, Named.
-/
set_option linter.unusedVariables false
set_option linter.unusedSimpArgs false
namespace Go.Proofs.Ytcfdbdmefdffdaa
open Go Go.RowKit Go.Proofs.Base
set_option maxHeartbeats 1000000 in
theorem val_May (k n : Int) (s : ByteArray) (w : World) :
    Calls Try.prog 52 #[.agg #[.int .i64 k, .int .i64 n, .string s]] w fun e w' => e = .returned (.bool (mayV k n s)) ∧ Below w.heap.size w w' := by
  have hdone : Below w.heap.size w (w.alloc (.cells #[.int .i64 k, .int .i64 n, .string s] 50)) := (Below.refl _ _).alloc (Nat.le_refl _) _
  have HD := Lib.hid hdone
  clear hdone
  have hs0 : s.toList.isEmpty = decide (s.size = 0) := by
    by_cases h : s.size = 0
    · rw [emp_true h]; simp [h]
    · rw [emp_false (by omega)]; simp [h]
  have HS := Lib.hid hs0
  clear hs0
  by_cases h3 : k = 3
  · subst h3
    have hm : mayV 3 n s = (decide (n = 0) && decide (s.size ≤ 1024)) := by simp [mayV]
    have HM := Lib.hid hm
    clear hm
    by_cases hn : n = 0
    · subst hn
      go_enter Try.func52, Try.ntmps52
      go_wp2
      go_ret
      exact ⟨by rw [HM.out]; exact ret1 (vbool (by simp; omega)), HD⟩
    · have hb := beq_f hn
      have HN := Lib.hid hn
      clear hn
      go_enter Try.func52, Try.ntmps52
      go_wp2
      go_ret
      exact ⟨by rw [HM.out]; exact ret1 (vbool (by simp [HN.out])), HD⟩
  · by_cases h2 : k = 2
    · subst h2
      have hm : mayV 2 n s = ((decide (n = 0) || decide (n = 1)) && decide (s.size = 0)) := by simp [mayV]
      have HM := Lib.hid hm
      clear hm h3
      by_cases hn : n = 0 ∨ n = 1
      · rcases hn with rfl | rfl
        all_goals
          go_enter Try.func52, Try.ntmps52
          go_wp2
          go_ret
          exact ⟨by rw [HM.out]; exact ret1 (vbool (by simp [HS.out])), HD⟩
      · have hb := bne_t (fun h => hn (.inl h) : n ≠ 0)
        have hb1 := bne_t (fun h => hn (.inr h) : n ≠ 1)
        have HN := Lib.hid hn
        clear hn
        go_enter Try.func52, Try.ntmps52
        go_wp2
        go_ret
        exact ⟨by rw [HM.out]; exact ret1 (vbool (by have := HN.out; simp; omega)), HD⟩
    · by_cases h1 : k = 1
      · subst h1
        have hm : mayV 1 n s = decide (s.size = 0) := by simp [mayV]
        have HM := Lib.hid hm
        clear hm h3 h2
        go_enter Try.func52, Try.ntmps52
        go_wp2
        go_ret
        exact ⟨by rw [HM.out]; exact ret1 (vbool (by simp [HS.out])), HD⟩
      · have hm : mayV k n s = false := by simp [mayV, h1, h2, h3]
        have b1 := beq_f h1
        have b2 := beq_f h2
        have b3 := beq_f h3
        have HM := Lib.hid hm
        clear hm h1 h2 h3
        go_enter Try.func52, Try.ntmps52
        go_wp2
        go_ret
        exact ⟨by rw [HM.out]; rfl, HD⟩
def idxFrom {α : Type} (p : α → Bool) : List α → Nat → Int
  | [], _ => -1
  | x :: r, i => if p x then (i : Int) else idxFrom p r (i + 1)
theorem idxFrom_any {α : Type} (p : α → Bool) : ∀ (l : List α) (i : Nat), decide (0 ≤ idxFrom p l i) = l.any p
  | [], i => by simp [idxFrom]
  | x :: r, i => by
    by_cases h : p x = true
    · simp [idxFrom, h]
    · simp only [idxFrom, h, Bool.false_eq_true, if_false, List.any_cons, Bool.false_or]
      exact idxFrom_any p r (i + 1)
theorem strs_new (w : World) (e : TypeId) (xs : List ByteArray) : ∀ i u, xs[i]? = some u → (w.alloc (.cells (xs.map Value.string).toArray e)).cell? ⟨w.heap.size, 0 + i, none⟩ = some (.string u) := fun i u hu => by
  rw [Nat.zero_add, cell_of_blk (heap_alloc_new w _)]
  simp [hu]
set_option maxHeartbeats 1000000 in
theorem sl_Index_str (b o n c : Nat) (xs : List ByteArray) (x : ByteArray) (w : World) (hl : xs.length = n) (hn : n ≤ 9223372036854775807) (hc : ∀ i u, xs[i]? = some u → w.cell? ⟨b, o + i, none⟩ = some (.string u)) :
    Calls Try.prog 74 #[.slice (some ⟨b, o, none⟩) n c, .string x] w fun e w' => e = .returned (.int .i64 (idxFrom (fun y => x.toList == y.toList) xs 0)) ∧ w = w' := by
  have HI : Hid (idxFrom (fun y : ByteArray => x.toList == y.toList) xs 0 = idxFrom (fun y => x.toList == y.toList) (xs.drop 0) 0) := Lib.hid rfl
  have Hl := Lib.hid hl
  have Hc := Lib.hid hc
  clear hl hc
  go_enter Try.func74, Try.ntmps74
  go_wp2_with fail
  go_loop [5, 8] (fun _ i => ∃ k : Nat, k ≤ n ∧ i = .int .i64 k ∧ Hid (idxFrom (fun y : ByteArray => x.toList == y.toList) xs 0 = idxFrom (fun y => x.toList == y.toList) (xs.drop k) k)) (fun _ i => n - (intOf i).toNat)
  case atStart => exact ⟨0, Nat.zero_le _, rfl, HI⟩
  case round =>
    obtain ⟨k, hk, rfl, HN⟩ := hrel
    by_cases hlt : k < n
    · have hkl : k < xs.length := by rw [Hl.out]; exact hlt
      have hN := HN.out
      rw [List.drop_eq_getElem_cons hkl] at hN
      have hx := Hc.out k xs[k] (List.getElem?_eq_getElem hkl)
      generalize xs[k] = y at *
      clear hkl
      by_cases he : (x.toList == y.toList) = true
      · simp only [idxFrom, he, if_true] at hN
        have HN2 := Lib.hid hN
        clear hN HN
        go_wp2
        go_ret
        exact ⟨by rw [HN2.out]; rfl, rfl⟩
      · have he' : (x.toList == y.toList) = false := by simpa using he
        clear he
        simp only [idxFrom, he', Bool.false_eq_true, if_false] at hN
        have HN2 := Lib.hid hN
        clear hN HN
        go_wp2
        go_round
        case rel => exact ⟨k + 1, by omega, by go_num, HN2⟩
        case measure => simp [intOf]; omega
    · go_wp2
      go_ret
      have h9 := HN.out
      rw [List.drop_eq_nil_of_le (by rw [Hl.out]; omega)] at h9
      exact ⟨by rw [h9]; rfl, rfl⟩
set_option maxHeartbeats 1000000 in
theorem sl_Contains_str (b o n c : Nat) (xs : List ByteArray) (x : ByteArray) (w : World) (hl : xs.length = n) (hn : n ≤ 9223372036854775807) (hc : ∀ i u, xs[i]? = some u → w.cell? ⟨b, o + i, none⟩ = some (.string u)) :
    Calls Try.prog 72 #[.slice (some ⟨b, o, none⟩) n c, .string x] w fun e w' => e = .returned (.bool (xs.any fun y => x.toList == y.toList)) ∧ w = w' := by
  have HC := Lib.hid (sl_Index_str b o n c xs x w hl hn hc)
  rw [← idxFrom_any _ _ 0]
  generalize idxFrom (fun y : ByteArray => x.toList == y.toList) xs 0 = r at *
  clear hl hc hn
  go_enter Try.func72, Try.ntmps72
  go_wp2_with (go_at_call 74; refine HC.out.mono ?_; rintro e w1 ⟨rfl, rfl⟩)
  go_ret
  exact ⟨rfl, rfl⟩
set_option maxHeartbeats 1000000 in
theorem val_Named (s : ByteArray) (w : World) (hs : s.size ≤ 9223372036854775807) :
    Calls Try.prog 51 #[.string s] w fun e w' => e = .returned (.bool (named s)) ∧ Below w.heap.size w w' := by
  by_cases h0 : 0 < s.size
  · have hN := named_cons h0
    by_cases h32 : s.size ≤ 32
    · by_cases hlet : 97 ≤ s[0].toNat ∧ s[0].toNat ≤ 122
      · have hm : named s = (((toL s).drop 0).all nameB && !(wordBs.any fun y => s.toList == y.toList)) := by
          have l1 : letterB s[0] = true := by unfold letterB; simp; omega
          have l2 : nameB s[0] = true := by unfold nameB; simp; omega
          rw [hN, toL_drop_cons h0, List.all_cons, l2]
          simp [h32, l1]
        have HM := Lib.hid hm
        clear hm hN
        have hc := fun (w : World) => sl_Contains_str w.heap.size 0 6 6 wordBs s (w.alloc (.cells (wordBs.map Value.string).toArray 9)) rfl (by omega) (strs_new w _ _)
        have HC := Lib.hid hc
        clear hc
        obtain ⟨hl1, hl2⟩ := hlet
        have hl1' : (97 : Int) ≤ s[0].toNat := by omega
        have hl2' : (s[0].toNat : Int) ≤ 122 := by omega
        clear hl1 hl2
        go_enter Try.func51, Try.ntmps51
        go_wp2_with fail
        clear hl1' hl2' h32
        go_loop [3, 4, 25] (fun _ _ i => ∃ k : Nat, k ≤ s.size ∧ i = .int .i64 k ∧ Hid (named s = (((toL s).drop k).all nameB && !(wordBs.any fun y => s.toList == y.toList)))) (fun _ _ i => s.size - (intOf i).toNat)
        case atStart => exact ⟨0, Nat.zero_le _, rfl, HM⟩
        case round =>
          obtain ⟨k, hk, rfl, HK⟩ := hrel
          by_cases hlt : k < s.size
          · have hq := HK.out
            rw [toL_drop_cons hlt, List.all_cons] at hq
            have HQ := Lib.hid hq
            clear hq HK
            have hb := s[k].toNat_lt
            by_cases hn : nameB s[k] = true
            · have hq := HQ.out
              rw [hn, Bool.true_and] at hq
              have HQ2 := Lib.hid hq
              clear hq HQ
              have h3 : (97 ≤ s[k].toNat ∧ s[k].toNat ≤ 122) ∨ (48 ≤ s[k].toNat ∧ s[k].toNat ≤ 57) ∨ s[k].toNat = 95 := by unfold nameB at hn; simp at hn; omega
              clear hn
              by_cases h95 : s[k].toNat = 95
              · have hb95 := bne_f (a := (s[k].toNat : Int)) (b := 95) (by omega)
                have h1 : (s[k].toNat : Int) < 97 := by omega
                have h2 : ¬ (s[k].toNat : Int) < 48 := by omega
                have h4 : (57 : Int) < (s[k].toNat : Int) := by omega
                clear h3 h95
                go_wp2_with fail
                go_round
                case rel => exact ⟨k + 1, by omega, by go_num, HQ2⟩
                case measure => simp [intOf]; omega
              · have h4 : (97 ≤ s[k].toNat ∧ s[k].toNat ≤ 122) ∨ (48 ≤ s[k].toNat ∧ s[k].toNat ≤ 57) := by omega
                clear h3 h95
                rcases h4 with ⟨h1, h2⟩ | ⟨h1, h2⟩
                · have h3 : ¬ (s[k].toNat : Int) < 97 := by omega
                  have h4 : ¬ (122 : Int) < (s[k].toNat : Int) := by omega
                  clear h1 h2
                  go_wp2_with fail
                  go_round
                  case rel => exact ⟨k + 1, by omega, by go_num, HQ2⟩
                  case measure => simp [intOf]; omega
                · have h3 : (s[k].toNat : Int) < 97 := by omega
                  have h4 : ¬ (s[k].toNat : Int) < 48 := by omega
                  have h5 : ¬ (57 : Int) < (s[k].toNat : Int) := by omega
                  clear h1 h2
                  go_wp2_with fail
                  go_round
                  case rel => exact ⟨k + 1, by omega, by go_num, HQ2⟩
                  case measure => simp [intOf]; omega
            · have hm : named s = false := by rw [HQ.out]; simp [hn]
              have HM2 := Lib.hid hm
              clear hm HQ HM
              have h3 : ¬ (97 ≤ s[k].toNat ∧ s[k].toNat ≤ 122) ∧ ¬ (48 ≤ s[k].toNat ∧ s[k].toNat ≤ 57) ∧ ¬ s[k].toNat = 95 := by unfold nameB at hn; simp at hn; omega
              clear hn
              have hb95 := bne_t (a := (s[k].toNat : Int)) (b := 95) (by omega)
              have h4 : (s[k].toNat : Int) < 48 ∨ (57 < (s[k].toNat : Int) ∧ (s[k].toNat : Int) < 97) ∨ 122 < (s[k].toNat : Int) := by omega
              clear h3
              rcases h4 with h4 | ⟨h4, h5⟩ | h4
              · have h6 : (s[k].toNat : Int) < 97 := by omega
                go_wp2_with fail
                go_ret
                exact ⟨by rw [HM2.out]; rfl, Below.refl _ _⟩
              · have h6 : ¬ (s[k].toNat : Int) < 48 := by omega
                go_wp2_with fail
                go_ret
                exact ⟨by rw [HM2.out]; rfl, Below.refl _ _⟩
              · have h6 : ¬ (s[k].toNat : Int) < 97 := by omega
                have h7 : ¬ (s[k].toNat : Int) < 48 := by omega
                have h8 : (57 : Int) < (s[k].toNat : Int) := by omega
                go_wp2_with fail
                go_ret
                exact ⟨by rw [HM2.out]; rfl, Below.refl _ _⟩
          · have hm : named s = !(wordBs.any fun y => s.toList == y.toList) := by rw [HK.out, List.drop_eq_nil_of_le (by simp; omega)]; rfl
            have HM2 := Lib.hid hm
            clear hm HK HM
            go_wp2_with (go_at_call 72; refine (HC.out _).mono ?_; rintro e w1 ⟨rfl, rfl⟩)
            go_ret
            exact ⟨by rw [HM2.out]; rfl, (Below.refl _ _).alloc (Nat.le_refl _) _⟩
      · have hm : named s = false := by
          rw [hN]
          have : letterB s[0] = false := by unfold letterB; simp; omega
          simp [this]
        have HM := Lib.hid hm
        have hle : (s[0].toNat : Int) < 97 ∨ ¬ (s[0].toNat : Int) < 97 ∧ 122 < (s[0].toNat : Int) := by omega
        clear hm hN hlet
        rcases hle with hle | ⟨hl1, hl2⟩
        all_goals
          go_enter Try.func51, Try.ntmps51
          go_wp2_with fail
          go_ret
          exact ⟨by rw [HM.out]; rfl, Below.refl _ _⟩
    · have hm : named s = false := by rw [hN]; simp [h32]
      have HM := Lib.hid hm
      clear hm hN
      go_enter Try.func51, Try.ntmps51
      go_wp2_with fail
      go_ret
      exact ⟨by rw [HM.out]; rfl, Below.refl _ _⟩
  · have hm := named_nil h0
    have HM := Lib.hid hm
    clear hm
    go_enter Try.func51, Try.ntmps51
    go_wp2_with fail
    go_ret
    exact ⟨by rw [HM.out]; rfl, Below.refl _ _⟩
end Go.Proofs.Ytcfdbdmefdffdaa
/-
  The walks of value: Bytes, Right.
-/
set_option linter.unusedVariables false
set_option linter.unusedSimpArgs false
namespace Go.Proofs.Ytcfdbdmefdffdaa
open Go Go.RowKit Go.Proofs.Base
open Go.Sort (grow)
set_option maxRecDepth 100000 in
set_option maxHeartbeats 1000000 in
theorem val_Bytes (k n : Int) (s : ByteArray) (w : World) (hk : i64 k) (hn : i64 n) (hs : okS s) :
    Calls Try.prog 69 #[.agg #[.int .i64 k, .int .i64 n, .string s]] w fun e w' => e = .returned (.string (valB k n s)) ∧ Below w.heap.size w w' := by
  have hcv : ∀ W : World, (convert 67 9 (.slice (some ⟨W.heap.size, 0, none⟩) 1 1)).run Try.prog (W.alloc (.cells #[.int .u8 (k % 256)] 5)) = .ok (.string (ofN [(k % 256).toNat])) (W.alloc (.cells #[.int .u8 (k % 256)] 5)) := fun W => by
    have h := lit_string (P := Try.prog) Try.underlying67 Try.underlying5 Try.underlying9 W [(k % 256).toNat] 1 rfl (by omega)
    have e : nums8 [(k % 256).toNat] = [.int .u8 (k % 256)] := by simp [nums8]; omega
    rw [e] at h
    exact h
  have hcv := hcv (w.alloc (.cells #[.int .i64 k, .int .i64 n, .string s] 50))
  rw [World.size_alloc] at hcv
  have hM := fun W => val_May k n s W
  have hbb : Below w.heap.size w ((w.alloc (.cells #[.int .i64 k, .int .i64 n, .string s] 50)).alloc (.cells #[.int .u8 (k % 256)] 5)) := ((Below.refl _ _).alloc (Nat.le_refl _) _).alloc (by simp) _
  have HB := Lib.hid hbb
  clear hbb
  by_cases hm : mayV k n s = true
  · obtain ⟨hk3, hs1⟩ := mayV_k hm
    have hv : valB k n s = ofN [k.toNat] ++ (if k = 3 then textB s else intB n) := by rw [valB, if_pos hm]
    have ek : (k % 256).toNat = k.toNat := by omega
    rw [ek] at hcv
    simp only [hm] at hM
    have HM := Lib.hid hM
    clear hM hm ek
    by_cases h3 : k = 3
    · rw [if_pos h3] at hv
      have h3b := beq_t h3
      have HV := Lib.hid hv
      have hsz : ¬ 9223372036854775807 < (ofN [k.toNat]).size + (textB s).size := by
        have := uintB_size (v := s.size) (by omega)
        rw [ofN_size, textB, ByteArray.size_append]
        simp
        omega
      clear hv hk3 h3
      go_enter Try.func69, Try.ntmps69
      go_wp2_with (first | (go_at_call 52; refine (HM.out _).mono ?_; rintro e w1 ⟨rfl, hb1⟩; have hc1 := (bcell hb1).1; have hz1 := hb1.size; simp only [World.size_alloc] at hc1 hz1) | (go_at_call 44; refine (wire_Text _ _ (by omega)).mono ?_; rintro e w2 ⟨rfl, hb2⟩))
      go_ret
      exact ⟨by rw [HV.out]; rfl, below2 (below2 HB.out hb1) hb2⟩
    · rw [if_neg h3] at hv
      have h3b := beq_f h3
      have HV := Lib.hid hv
      have hsz : ¬ 9223372036854775807 < (ofN [k.toNat]).size + (intB n).size := by
        have := intB_size hn.1 hn.2
        rw [ofN_size]
        simp
        omega
      clear hv hk3 h3
      go_enter Try.func69, Try.ntmps69
      go_wp2_with (first | (go_at_call 52; refine (HM.out _).mono ?_; rintro e w1 ⟨rfl, hb1⟩; have hc1 := (bcell hb1).1; have hz1 := hb1.size; simp only [World.size_alloc] at hc1 hz1) | (go_at_call 40; refine (wire_Int _ _ hn.1 hn.2).mono ?_; rintro e w2 ⟨rfl, hb2⟩))
      go_ret
      exact ⟨by rw [HV.out]; rfl, below2 (below2 HB.out hb1) hb2⟩
  · have hm : mayV k n s = false := by simpa using hm
    have hv : valB k n s = ByteArray.empty := by rw [valB, hm]; rfl
    simp only [hm] at hM
    have HM := Lib.hid hM
    have HV := Lib.hid hv
    clear hM hm hv
    go_enter Try.func69, Try.ntmps69
    go_wp2_with (go_at_call 52; refine (HM.out _).mono ?_; rintro e w1 ⟨rfl, hb1⟩)
    go_ret
    exact ⟨by rw [HV.out]; rfl, below2 HB.out hb1⟩
set_option maxHeartbeats 1000000 in
theorem val_Right (S : Nat → Prop) (l : List GVar) (n : Nat) (v : Value) (w : World) (hl : l.length = n) (hr : Row w S 4 n v (varCells l)) (hw : ∀ x ∈ l, x.wf) :
    Calls Try.prog 20 #[v] w fun e w' => e = .returned (.bool (rightV l)) ∧ Below w.heap.size w w' := by
  obtain ⟨A, c, rfl, hnc, hc⟩ := hr.open_
  by_cases h16 : n ≤ 16
  · have hm : rightV l = rightFrom none (l.drop 0) := by simp [rightV, hl, h16]
    have HM := Lib.hid hm
    have Hl := Lib.hid hl
    have Hr := Lib.hid hr
    have Hw := Lib.hid hw
    clear hm hl hr hw
    go_enter Try.func20, Try.ntmps20
    have hd : decide ((16 : Int) < n) = false := by simp; omega
    go_wp2_with fail
    go_loopw [3, 4, 10] (fun _ _ i wr => ∃ k : Nat, k ≤ n ∧ i = .int .i64 k ∧ Hid (rightV l = rightFrom (if k = 0 then none else (l[k - 1]?).map GVar.name) (l.drop k)) ∧ Below w.heap.size w wr) (fun _ _ i _ => n - (intOf i).toNat)
    case atStart => exact ⟨0, Nat.zero_le _, rfl, HM, Below.refl _ _⟩
    case round =>
      obtain ⟨k, hk, rfl, HK, HB⟩ := hrel
      by_cases hlt : k < n
      · have hkl : k < l.length := by rw [Hl.out]; exact hlt
        obtain ⟨b, o, rfl, hSb, hbl, hcell⟩ := Hr.out.at_ (by omega)
        obtain ⟨e0, e1, e2, e3⟩ := varCells_at hkl
        have c0 := (HB.cell (p := ⟨b, o + k * 4 + 0, none⟩) hbl).trans (hcell k 0 _ e0)
        have c1 := (HB.cell (p := ⟨b, o + k * 4 + 1, none⟩) hbl).trans (hcell k 1 _ e1)
        have c2 := (HB.cell (p := ⟨b, o + k * 4 + 2, none⟩) hbl).trans (hcell k 2 _ e2)
        have c3 := (HB.cell (p := ⟨b, o + k * 4 + 3, none⟩) hbl).trans (hcell k 3 _ e3)
        rw [Nat.add_zero] at c0
        have hwx := Hw.out _ (List.getElem_mem hkl)
        have hq := HK.out
        rw [List.drop_eq_getElem_cons hkl] at hq
        have hp1 : 0 < k → ∃ y, l[k - 1]? = some y ∧ w.cell? ⟨b, o + (k - 1) * 4, none⟩ = some (.string y.name) := fun h => by
          have h1 : k - 1 < l.length := by omega
          exact ⟨l[k - 1], List.getElem?_eq_getElem h1, by have := hcell (k - 1) 0 _ (varCells_at h1).1; simpa using this⟩
        have hx := List.getElem?_eq_getElem hkl
        generalize l[k] = x at *
        have HX := Lib.hid hx
        clear hx
        have HQ := Lib.hid hq
        have HCell := Lib.hid hcell
        have HP1 := Lib.hid hp1
        clear hq HK hcell hp1 e0 e1 e2 e3 hkl
        by_cases hN : named x.name = true
        · by_cases hM : mayV x.v.k x.v.n x.v.s = true
          · rcases Nat.eq_zero_or_pos k with hk0 | hk0
            · have hd0 : decide ((0 : Int) < k) = false := by simp; omega
              have hd1 : decide (0 < k) = false := by simp; omega
              have HK0 := Lib.hid hk0
              have hq2 : rightV l = rightFrom (if k + 1 = 0 then none else (l[k + 1 - 1]?).map GVar.name) (l.drop (k + 1)) := by
                have h0 : l[k]? = some x := HX.out
                rw [HQ.out, if_pos hk0, if_neg (by omega), Nat.add_sub_cancel, h0]; simp [rightFrom, hN, GVal.may, hM]
              have HQ2 := Lib.hid hq2
              clear hq2 HQ HM HX HP1 hk0
              have cN := fun d os => Calls.regrown_of (val_Named x.name (grow (redrawn (wr.alloc (.cells #[.string x.name, .int .i64 x.v.k, .int .i64 x.v.n, .string x.v.s] 52)) d) os) (by have := hwx.1; unfold okS at this; omega))
              simp only [hN] at cN
              have cM := fun d os => Calls.regrown_of (val_May x.v.k x.v.n x.v.s (grow (redrawn (wr.alloc (.cells #[.string x.name, .int .i64 x.v.k, .int .i64 x.v.n, .string x.v.s] 52)) d) os))
              simp only [hM] at cM
              have kx0 := cell_regrown (w := (wr.alloc (.cells #[.string x.name, .int .i64 x.v.k, .int .i64 x.v.n, .string x.v.s] 52))) (a := ⟨wr.heap.size, 0, none⟩) (v := .string x.name) (by simp)
              have kx1 := cell_regrown (w := (wr.alloc (.cells #[.string x.name, .int .i64 x.v.k, .int .i64 x.v.n, .string x.v.s] 52))) (a := ⟨wr.heap.size, 1, none⟩) (v := .int .i64 x.v.k) (by simp)
              have kx2 := cell_regrown (w := (wr.alloc (.cells #[.string x.name, .int .i64 x.v.k, .int .i64 x.v.n, .string x.v.s] 52))) (a := ⟨wr.heap.size, 2, none⟩) (v := .int .i64 x.v.n) (by simp)
              have kx3 := cell_regrown (w := (wr.alloc (.cells #[.string x.name, .int .i64 x.v.k, .int .i64 x.v.n, .string x.v.s] 52))) (a := ⟨wr.heap.size, 3, none⟩) (v := .string x.v.s) (by simp)
              go_wp2_with fail
              refine wp_region_quiet_below (by kernel_rfl) (by kernel_rfl) ?_
              repeat (first | go_big_quiet_step ((first | exact cN _ _ | exact cM _ _)) | quiet_step ((first | exact cN _ _ | exact cM _ _)))
              refine wpQuiet_nil ?_
              intro _ hw'
              obtain ⟨⟨dq, osq⟩, hw''⟩ := hw'
              subst hw''
              have hbq := below_regrown (wr.alloc (.cells #[.string x.name, .int .i64 x.v.k, .int .i64 x.v.n, .string x.v.s] 52)) dq osq
              have HB2 : Below w.heap.size w (grow (redrawn (wr.alloc (.cells #[.string x.name, .int .i64 x.v.k, .int .i64 x.v.n, .string x.v.s] 52)) dq) osq) := below2 (below_alloc HB _) hbq
              go_wp2_with fail
              go_roundw
              case rel => exact ⟨k + 1, by omega, by go_num, HQ2, HB2⟩
              case measure => simp [intOf]; omega
            · obtain ⟨y, hy, cp⟩ := HP1.out hk0
              have cp := (HB.cell (p := ⟨b, o + (k - 1) * 4, none⟩) hbl).trans cp
              have hp9 : (if k = 0 then none else (l[k - 1]?).map GVar.name) = some y.name := by rw [if_neg (by omega), hy]; rfl
              have HP9 := Lib.hid hp9
              clear hp9 hy
              by_cases hL : lessS y.name x.name = true
              · have hq2 : rightV l = rightFrom (if k + 1 = 0 then none else (l[k + 1 - 1]?).map GVar.name) (l.drop (k + 1)) := by
                  have h0 : l[k]? = some x := HX.out
                  rw [HQ.out, HP9.out]; simp [rightFrom, hN, GVal.may, hM, h0, hL]
                have HQ2 := Lib.hid hq2
                unfold lessS at hL
                clear hq2 HQ HM HX HP1 HP9
                have cN := fun d os => Calls.regrown_of (val_Named x.name (grow (redrawn (wr.alloc (.cells #[.string x.name, .int .i64 x.v.k, .int .i64 x.v.n, .string x.v.s] 52)) d) os) (by have := hwx.1; unfold okS at this; omega))
                simp only [hN] at cN
                have cM := fun d os => Calls.regrown_of (val_May x.v.k x.v.n x.v.s (grow (redrawn (wr.alloc (.cells #[.string x.name, .int .i64 x.v.k, .int .i64 x.v.n, .string x.v.s] 52)) d) os))
                simp only [hM] at cM
                have kx0 := cell_regrown (w := (wr.alloc (.cells #[.string x.name, .int .i64 x.v.k, .int .i64 x.v.n, .string x.v.s] 52))) (a := ⟨wr.heap.size, 0, none⟩) (v := .string x.name) (by simp)
                have kx1 := cell_regrown (w := (wr.alloc (.cells #[.string x.name, .int .i64 x.v.k, .int .i64 x.v.n, .string x.v.s] 52))) (a := ⟨wr.heap.size, 1, none⟩) (v := .int .i64 x.v.k) (by simp)
                have kx2 := cell_regrown (w := (wr.alloc (.cells #[.string x.name, .int .i64 x.v.k, .int .i64 x.v.n, .string x.v.s] 52))) (a := ⟨wr.heap.size, 2, none⟩) (v := .int .i64 x.v.n) (by simp)
                have kx3 := cell_regrown (w := (wr.alloc (.cells #[.string x.name, .int .i64 x.v.k, .int .i64 x.v.n, .string x.v.s] 52))) (a := ⟨wr.heap.size, 3, none⟩) (v := .string x.v.s) (by simp)
                have kp := cell_regrown (w := (wr.alloc (.cells #[.string x.name, .int .i64 x.v.k, .int .i64 x.v.n, .string x.v.s] 52))) (a := ⟨b, o + (k - 1) * 4, none⟩) (v := .string y.name) (by rw [World.cell?_alloc_lt _ _ _ (by have := HB.size; show b < _; omega)]; exact cp)
                go_wp2_with fail
                refine wp_region_quiet_below (by kernel_rfl) (by kernel_rfl) ?_
                repeat (first | go_big_quiet_step ((first | exact cN _ _ | exact cM _ _)) | quiet_step ((first | exact cN _ _ | exact cM _ _)))
                refine wpQuiet_nil ?_
                intro _ hw'
                obtain ⟨⟨dq, osq⟩, hw''⟩ := hw'
                subst hw''
                have hbq := below_regrown (wr.alloc (.cells #[.string x.name, .int .i64 x.v.k, .int .i64 x.v.n, .string x.v.s] 52)) dq osq
                have HB2 : Below w.heap.size w (grow (redrawn (wr.alloc (.cells #[.string x.name, .int .i64 x.v.k, .int .i64 x.v.n, .string x.v.s] 52)) dq) osq) := below2 (below_alloc HB _) hbq
                go_wp2_with fail
                go_roundw
                case rel => exact ⟨k + 1, by omega, by go_num, HQ2, HB2⟩
                case measure => simp [intOf]; omega
              · have hL : lessS y.name x.name = false := by simpa using hL
                have hm : rightV l = false := by rw [HQ.out, HP9.out]; simp [rightFrom, hL]
                have HM2 := Lib.hid hm
                unfold lessS at hL
                clear hm HQ HM HX HP1 HP9
                have cN := fun d os => Calls.regrown_of (val_Named x.name (grow (redrawn (wr.alloc (.cells #[.string x.name, .int .i64 x.v.k, .int .i64 x.v.n, .string x.v.s] 52)) d) os) (by have := hwx.1; unfold okS at this; omega))
                simp only [hN] at cN
                have cM := fun d os => Calls.regrown_of (val_May x.v.k x.v.n x.v.s (grow (redrawn (wr.alloc (.cells #[.string x.name, .int .i64 x.v.k, .int .i64 x.v.n, .string x.v.s] 52)) d) os))
                simp only [hM] at cM
                have kx0 := cell_regrown (w := (wr.alloc (.cells #[.string x.name, .int .i64 x.v.k, .int .i64 x.v.n, .string x.v.s] 52))) (a := ⟨wr.heap.size, 0, none⟩) (v := .string x.name) (by simp)
                have kx1 := cell_regrown (w := (wr.alloc (.cells #[.string x.name, .int .i64 x.v.k, .int .i64 x.v.n, .string x.v.s] 52))) (a := ⟨wr.heap.size, 1, none⟩) (v := .int .i64 x.v.k) (by simp)
                have kx2 := cell_regrown (w := (wr.alloc (.cells #[.string x.name, .int .i64 x.v.k, .int .i64 x.v.n, .string x.v.s] 52))) (a := ⟨wr.heap.size, 2, none⟩) (v := .int .i64 x.v.n) (by simp)
                have kx3 := cell_regrown (w := (wr.alloc (.cells #[.string x.name, .int .i64 x.v.k, .int .i64 x.v.n, .string x.v.s] 52))) (a := ⟨wr.heap.size, 3, none⟩) (v := .string x.v.s) (by simp)
                have kp := cell_regrown (w := (wr.alloc (.cells #[.string x.name, .int .i64 x.v.k, .int .i64 x.v.n, .string x.v.s] 52))) (a := ⟨b, o + (k - 1) * 4, none⟩) (v := .string y.name) (by rw [World.cell?_alloc_lt _ _ _ (by have := HB.size; show b < _; omega)]; exact cp)
                go_wp2_with fail
                refine wp_region_quiet_below (by kernel_rfl) (by kernel_rfl) ?_
                repeat (first | go_big_quiet_step ((first | exact cN _ _ | exact cM _ _)) | quiet_step ((first | exact cN _ _ | exact cM _ _)))
                refine wpQuiet_nil ?_
                intro _ hw'
                obtain ⟨⟨dq, osq⟩, hw''⟩ := hw'
                subst hw''
                have hbq := below_regrown (wr.alloc (.cells #[.string x.name, .int .i64 x.v.k, .int .i64 x.v.n, .string x.v.s] 52)) dq osq
                have HB2 : Below w.heap.size w (grow (redrawn (wr.alloc (.cells #[.string x.name, .int .i64 x.v.k, .int .i64 x.v.n, .string x.v.s] 52)) dq) osq) := below2 (below_alloc HB _) hbq
                go_wp2_with fail
                go_ret
                exact ⟨by rw [HM2.out]; rfl, HB2⟩
          · have hM : mayV x.v.k x.v.n x.v.s = false := by simpa using hM
            have hm : rightV l = false := by rw [HQ.out]; simp [rightFrom, GVal.may, hM]
            have HM2 := Lib.hid hm
            clear hm HQ HM
            have cN := fun d os => Calls.regrown_of (val_Named x.name (grow (redrawn (wr.alloc (.cells #[.string x.name, .int .i64 x.v.k, .int .i64 x.v.n, .string x.v.s] 52)) d) os) (by have := hwx.1; unfold okS at this; omega))
            simp only [hN] at cN
            have cM := fun d os => Calls.regrown_of (val_May x.v.k x.v.n x.v.s (grow (redrawn (wr.alloc (.cells #[.string x.name, .int .i64 x.v.k, .int .i64 x.v.n, .string x.v.s] 52)) d) os))
            simp only [hM] at cM
            have kx0 := cell_regrown (w := (wr.alloc (.cells #[.string x.name, .int .i64 x.v.k, .int .i64 x.v.n, .string x.v.s] 52))) (a := ⟨wr.heap.size, 0, none⟩) (v := .string x.name) (by simp)
            have kx1 := cell_regrown (w := (wr.alloc (.cells #[.string x.name, .int .i64 x.v.k, .int .i64 x.v.n, .string x.v.s] 52))) (a := ⟨wr.heap.size, 1, none⟩) (v := .int .i64 x.v.k) (by simp)
            have kx2 := cell_regrown (w := (wr.alloc (.cells #[.string x.name, .int .i64 x.v.k, .int .i64 x.v.n, .string x.v.s] 52))) (a := ⟨wr.heap.size, 2, none⟩) (v := .int .i64 x.v.n) (by simp)
            have kx3 := cell_regrown (w := (wr.alloc (.cells #[.string x.name, .int .i64 x.v.k, .int .i64 x.v.n, .string x.v.s] 52))) (a := ⟨wr.heap.size, 3, none⟩) (v := .string x.v.s) (by simp)
            go_wp2_with fail
            refine wp_region_quiet_below (by kernel_rfl) (by kernel_rfl) ?_
            repeat (first | go_big_quiet_step ((first | exact cN _ _ | exact cM _ _)) | quiet_step ((first | exact cN _ _ | exact cM _ _)))
            refine wpQuiet_nil ?_
            intro _ hw'
            obtain ⟨⟨dq, osq⟩, hw''⟩ := hw'
            subst hw''
            have hbq := below_regrown (wr.alloc (.cells #[.string x.name, .int .i64 x.v.k, .int .i64 x.v.n, .string x.v.s] 52)) dq osq
            have HB2 : Below w.heap.size w (grow (redrawn (wr.alloc (.cells #[.string x.name, .int .i64 x.v.k, .int .i64 x.v.n, .string x.v.s] 52)) dq) osq) := below2 (below_alloc HB _) hbq
            go_wp2_with fail
            go_ret
            exact ⟨by rw [HM2.out]; rfl, HB2⟩
        · have hN : named x.name = false := by simpa using hN
          have hm : rightV l = false := by rw [HQ.out]; simp [rightFrom, hN]
          have HM2 := Lib.hid hm
          clear hm HQ HM
          have cN := fun d os => Calls.regrown_of (val_Named x.name (grow (redrawn (wr.alloc (.cells #[.string x.name, .int .i64 x.v.k, .int .i64 x.v.n, .string x.v.s] 52)) d) os) (by have := hwx.1; unfold okS at this; omega))
          simp only [hN] at cN
          have kx0 := cell_regrown (w := (wr.alloc (.cells #[.string x.name, .int .i64 x.v.k, .int .i64 x.v.n, .string x.v.s] 52))) (a := ⟨wr.heap.size, 0, none⟩) (v := .string x.name) (by simp)
          have kx1 := cell_regrown (w := (wr.alloc (.cells #[.string x.name, .int .i64 x.v.k, .int .i64 x.v.n, .string x.v.s] 52))) (a := ⟨wr.heap.size, 1, none⟩) (v := .int .i64 x.v.k) (by simp)
          have kx2 := cell_regrown (w := (wr.alloc (.cells #[.string x.name, .int .i64 x.v.k, .int .i64 x.v.n, .string x.v.s] 52))) (a := ⟨wr.heap.size, 2, none⟩) (v := .int .i64 x.v.n) (by simp)
          have kx3 := cell_regrown (w := (wr.alloc (.cells #[.string x.name, .int .i64 x.v.k, .int .i64 x.v.n, .string x.v.s] 52))) (a := ⟨wr.heap.size, 3, none⟩) (v := .string x.v.s) (by simp)
          go_wp2_with fail
          refine wp_region_quiet_below (by kernel_rfl) (by kernel_rfl) ?_
          repeat (first | go_big_quiet_step (exact cN _ _) | quiet_step (exact cN _ _))
          refine wpQuiet_nil ?_
          intro _ hw'
          obtain ⟨⟨dq, osq⟩, hw''⟩ := hw'
          subst hw''
          have hbq := below_regrown (wr.alloc (.cells #[.string x.name, .int .i64 x.v.k, .int .i64 x.v.n, .string x.v.s] 52)) dq osq
          have HB2 : Below w.heap.size w (grow (redrawn (wr.alloc (.cells #[.string x.name, .int .i64 x.v.k, .int .i64 x.v.n, .string x.v.s] 52)) dq) osq) := below2 (below_alloc HB _) hbq
          go_wp2_with fail
          go_ret
          exact ⟨by rw [HM2.out]; rfl, HB2⟩
      · go_wp2_with fail
        go_ret
        have h9 := HK.out
        rw [List.drop_eq_nil_of_le (by rw [Hl.out]; omega)] at h9
        exact ⟨by rw [h9]; rfl, HB⟩
  · have hm : rightV l = false := by simp [rightV, hl, h16]
    have HM := Lib.hid hm
    clear hm hl hr hw
    go_enter Try.func20, Try.ntmps20
    go_wp2_with fail
    go_ret
    exact ⟨by rw [HM.out]; rfl, Below.refl _ _⟩
end Go.Proofs.Ytcfdbdmefdffdaa
/-
  A region that draws its order: quiet operations, then one last one that waits for all of them: walked in the order of the text.
-/
set_option linter.unusedVariables false
set_option linter.unusedSimpArgs false
namespace Go.Proofs.Base
open Go Go.RowKit
open Go.Sort (grow grow_empty)
def backB (l : List Oper) : Bool := (List.range l.length).all fun i => match l[i]? with
  | some o => o.after.all fun e => !Region.binds .any e || decide (e.on < i)
  | none => true
theorem backB_spec {l : List Oper} (h : backB l = true) {i : Nat} {o : Oper} (hi : l[i]? = some o) : ∀ e ∈ o.after, Region.binds .any e = true → e.on < i := by
  intro e he hb
  have hlt : i < l.length := (List.getElem?_eq_some_iff.1 hi).1
  have h1 := List.all_eq_true.1 h i (List.mem_range.2 hlt)
  simp only [hi] at h1
  have h2 := Array.all_eq_true_iff_forall_mem.1 h1 e he
  simp only [hb, Bool.not_true, Bool.false_or, decide_eq_true_eq] at h2
  exact h2
section
variable {P : Program} {l : List Oper} {t : Oper} {Q : Exit → Act → World → Prop} {C : World → Prop} {Q1 : Act → Prop}
def Agree (n : Nat) (lst lsa : Array Bool) : Prop := lsa.size = n ∧ lst.size = n + 1 ∧ ∀ j, j < n → ∀ d, lst.getD j d = lsa.getD j d
theorem ready_agree (hb : backB (l ++ [t]) = true) {lst lsa : Array Bool} (ha : Agree l.length lst lsa) {i : Nat} (hi : i < l.length) :
    i ∈ Region.ready .any (l ++ [t]).toArray lst ↔ i ∈ Region.ready .any l.toArray lsa := by
  rw [mem_ready, mem_ready, ha.2.2 i hi]
  have e1 : (l ++ [t]).toArray[i]? = l.toArray[i]? := by simp [List.getElem?_append_left hi]
  rw [e1]
  constructor
  · rintro ⟨h0, o, ho, h⟩
    refine ⟨h0, o, ho, fun e he hbd => ?_⟩
    have hlt := backB_spec hb (i := i) (o := o) (by simpa [List.getElem?_append_left hi] using ho) e he hbd
    rw [← ha.2.2 e.on (by omega)]
    exact h e he hbd
  · rintro ⟨h0, o, ho, h⟩
    refine ⟨h0, o, ho, fun e he hbd => ?_⟩
    have hlt := backB_spec hb (i := i) (o := o) (by simpa [List.getElem?_append_left hi] using ho) e he hbd
    rw [ha.2.2 e.on (by omega)]
    exact h e he hbd
theorem some_ready (hb : backB (l ++ [t]) = true) {lsa : Array Bool} (hs : lsa.size = l.length) : ∀ (i : Nat), i < l.length → lsa.getD i true = false → ∃ j, j < l.length ∧ j ∈ Region.ready .any l.toArray lsa := by
  intro i
  induction i using Nat.strongRecOn with
  | _ i ih =>
    intro hi hun
    by_cases hall : ∀ j, j < i → lsa.getD j false = true
    · refine ⟨i, hi, ?_⟩
      rw [mem_ready]
      refine ⟨hun, l[i], by simp [hi], fun e he hbd => ?_⟩
      have hlt := backB_spec hb (i := i) (o := l[i]) (by simp [List.getElem?_append_left hi]) e he hbd
      exact hall e.on hlt
    · obtain ⟨j, hj⟩ := Classical.not_forall.1 hall
      obtain ⟨hji, hj2⟩ := Classical.not_imp.1 hj
      have hf : lsa.getD j false = false := by simpa using hj2
      exact ih j hji (by omega) (getD_in (by omega) hf)
theorem set_agree {n : Nat} {lst lsa : Array Bool} (ha : Agree n lst lsa) (i : Nat) : Agree n (lst.setIfInBounds i true) (lsa.setIfInBounds i true) := by
  refine ⟨by simp [ha.1], by simp [ha.2.1], fun j hj d => ?_⟩
  by_cases hij : i = j
  · subst hij
    have h1 : i < lst.size := by rw [ha.2.1]; omega
    have h2 : i < lsa.size := by rw [ha.1]; exact hj
    simp [h1, h2]
  · rw [getD_set_ne d hij, getD_set_ne d hij]
    exact ha.2.2 j hj d
theorem all_done (hb : backB (l ++ [t]) = true) {lst : Array Bool} (hsz : lst.size = l.length + 1) (hall : ∀ j, j < l.length → lst.getD j false = true) (hn : lst.getD l.length true = false) {a : Act} {W : World}
    (h : wpList P (l ++ [t]).toArray Q [t] a W) (m : Nat) : wpAny P .any (l ++ [t]).toArray Q (m + 1) lst a W := by
  have hr : ∀ i, i ∈ Region.ready .any (l ++ [t]).toArray lst ↔ i = l.length := by
    intro i
    constructor
    · intro hi
      obtain ⟨h0, o, ho, _⟩ := mem_ready.1 hi
      have hlt : i < l.length + 1 := by have := (Array.getElem?_eq_some_iff.1 ho).1; simpa using this
      rcases Nat.lt_or_ge i l.length with h1 | h1
      · have := hall i h1
        rw [getD_both h0] at this
        cases this
      · omega
    · rintro rfl
      rw [mem_ready]
      refine ⟨hn, t, by simp, fun e he hbd => hall e.on ?_⟩
      exact backB_spec hb (i := l.length) (o := t) (by simp) e he hbd
  have hfin : ∀ i, i ∉ Region.ready .any (l ++ [t]).toArray (lst.setIfInBounds l.length true) := by
    intro i hi
    obtain ⟨h0, o, ho, _⟩ := mem_ready.1 hi
    have hlt : i < l.length + 1 := by have := (Array.getElem?_eq_some_iff.1 ho).1; simpa using this
    by_cases h1 : i = l.length
    · subst h1
      have h2 : l.length < lst.size := by omega
      simp [h2] at h0
    · rw [getD_set_ne true (Ne.symm h1)] at h0
      have := hall i (by omega)
      rw [getD_both h0] at this
      cases this
  have hnil : Region.ready .any (l ++ [t]).toArray (lst.setIfInBounds l.length true) = [] := List.eq_nil_iff_forall_not_mem.2 hfin
  have hK : ∀ a W, Q .normal a W → wpAny P .any (l ++ [t]).toArray Q m (lst.setIfInBounds l.length true) a W := by
    intro a W hq
    cases m with
    | zero => exact ⟨hnil, hq⟩
    | succ m => exact ⟨fun _ => hq, fun i hi => absurd hi (hfin i)⟩
  refine ⟨fun h0 => ?_, fun i hi => ?_⟩
  · have := (hr l.length).2 rfl
    rw [h0] at this
    cases this
  · rw [(hr i).1 hi]
    have e1 : (l ++ [t]).toArray[l.length]? = some t := by simp
    unfold wpOp
    simp only [e1]
    unfold wpList at h
    by_cases hw : Region.wanted t (yielded (l ++ [t]).toArray a.tmps) = true
    · rw [if_pos hw] at h ⊢
      rcases h with h | h
      · exact .inl (Oper.wp_mono (fun a W hq => hK a W hq) h)
      · exact .inr h
    · rw [if_neg hw] at h ⊢
      exact hK _ _ h
theorem yielded_app {a : Array Value} {o : Oper} (hg : ∀ g b, o.guard = some (g, b) → g < l.length) : Region.wanted o (yielded (l ++ [t]).toArray a) = Region.wanted o (yielded l.toArray a) := by
  unfold Region.wanted
  cases h : o.guard with
  | none => rfl
  | some p =>
    obtain ⟨g, b⟩ := p
    have := hg g b h
    simp only [yielded]
    have e : (l ++ [t]).toArray[g]? = l.toArray[g]? := by simp [List.getElem?_append_left this]
    rw [e]
def guardB (l : List Oper) : Bool := l.all fun o => match o.guard with
  | some (g, _) => decide (g < l.length)
  | none => true
theorem tail_any (hb : backB (l ++ [t]) = true) (hg : guardB l = true) (hs : Region.sinkB .any (l ++ [t]).toArray l.length = true) (hc : Region.chainB .any (l ++ [t]).toArray l.length = true)
    (hQ : ∀ a W, C W → Q1 a → wpList P (l ++ [t]).toArray Q [t] a W) : ∀ (f : Nat) (lst lsa : Array Bool) (a : Act) (W : World), HeadInv .any (l ++ [t]).toArray l.length lst → Agree l.length lst lsa → C W →
    wpAnyQ P .any l.toArray C Q1 f lsa a → wpAny P .any (l ++ [t]).toArray Q (f + 1) lst a W := by
  have hn : l.length < (l ++ [t]).toArray.size := by simp
  have htl : ∀ lst, HeadInv .any (l ++ [t]).toArray l.length lst → lst.getD l.length true = false := fun lst inv => inv.tail l.length (Nat.le_refl _) hn
  have hdone : ∀ (lst lsa : Array Bool), Agree l.length lst lsa → Region.ready .any l.toArray lsa = [] → ∀ j, j < l.length → lst.getD j false = true := by
    intro lst lsa ha hr j hj
    cases h : lst.getD j false with
    | true => rfl
    | false =>
      rw [ha.2.2 j hj] at h
      obtain ⟨k, _, hk⟩ := some_ready hb ha.1 j hj (getD_in (by rw [ha.1]; exact hj) h)
      rw [hr] at hk
      cases hk
  intro f
  induction f with
  | zero =>
    intro lst lsa a W inv ha hC h
    exact all_done hb (by rw [ha.2.1]) (hdone lst lsa ha h.1) (htl lst inv) (hQ a W hC h.2) 0
  | succ f ih =>
    intro lst lsa a W inv ha hC h
    by_cases hr : Region.ready .any l.toArray lsa = []
    · exact all_done hb (by rw [ha.2.1]) (hdone lst lsa ha hr) (htl lst inv) (hQ a W hC (h.1 hr)) (f + 1)
    · obtain ⟨k, hk⟩ := List.exists_mem_of_ne_nil _ hr
      have hkl : k < l.length := by
        obtain ⟨_, o, ho, _⟩ := mem_ready.1 hk
        have := (Array.getElem?_eq_some_iff.1 ho).1
        simpa using this
      have hk' := (ready_agree hb ha hkl).2 hk
      refine ⟨fun h0 => (by rw [h0] at hk'; cases hk'), fun i hi => ?_⟩
      have hil : i < l.length := by
        rcases Nat.lt_or_ge i l.length with h1 | h1
        · exact h1
        · exact absurd hi (tail_waits hs hc hn inv _ k rfl hkl (mem_ready.1 hk').1 i h1)
      have hq := h.2 i ((ready_agree hb ha hil).1 hi)
      have e1 : (l ++ [t]).toArray[i]? = some l[i] := by simp [List.getElem?_append_left hil]
      have e2 : l.toArray[i]? = some l[i] := by simp [hil]
      have hgi : ∀ g b, l[i].guard = some (g, b) → g < l.length := by
        intro g b hgb
        have h1 := List.all_eq_true.1 hg l[i] (List.getElem_mem hil)
        rw [hgb] at h1
        simpa using h1
      have hq' : qOp P (l ++ [t]).toArray C i (wpAnyQ P .any l.toArray C Q1 f (lsa.setIfInBounds i true)) a := by
        unfold qOp at hq ⊢
        simp only [e1, e2] at hq ⊢
        rw [yielded_app hgi]
        exact hq
      exact wpOp_of_qOp hC (fun a' W' hC' hK => ih _ _ a' W' (inv.set hi hil) (set_agree ha i) hC' hK) hq'
theorem wp_region_quiet_tail {id : Nat} {a : Act} {w : World} (l : List Oper) (t : Oper) (hm : P.follows .mixedOrders = true) (hB : Region.lexB .any l.toArray = true) (hb : backB (l ++ [t]) = true) (hg : guardB l = true)
    (hs : Region.sinkB .any (l ++ [t]).toArray l.length = true) (hc : Region.chainB .any (l ++ [t]).toArray l.length = true)
    (h : wpQuiet P l.toArray (fun w' => ∃ p : Regrown, w' = grow (redrawn w p.d) p.os) (fun a' => ∀ w', (∃ p : Regrown, w' = grow (redrawn w p.d) p.os) → wpList P (l ++ [t]).toArray Q [t] a' w') l a) :
    (Code.region id (l ++ [t]).toArray true).wp P Q a w := by
  have hC : (fun w' : World => ∃ p : Regrown, w' = grow (redrawn w p.d) p.os) { w with drawn := w.drawn + 1 } := ⟨⟨w.drawn + 1, #[]⟩, by rw [grow_empty]; rfl⟩
  simp only [Region.lexB, Bool.and_eq_true] at hB
  refine wp_region_any hm ?_
  have h1 := wpAnyQ_lex (C := fun w' : World => ∃ p : Regrown, w' = grow (redrawn w p.d) p.os) (md := .any) hB.1 l 0 (Array.replicate l.length false) a (by simp) (by simpa using hB.2) h
  have h2 := tail_any (P := P) (Q := Q) (C := fun w' : World => ∃ p : Regrown, w' = grow (redrawn w p.d) p.os) (Q1 := fun a' => ∀ w', (∃ p : Regrown, w' = grow (redrawn w p.d) p.os) → wpList P (l ++ [t]).toArray Q [t] a' w') hb hg hs hc (fun a W hC hq => hq W hC) l.length (Array.replicate (l.length + 1) false) (Array.replicate l.length false) a _
    ⟨by simp, (fun j oj hj hl => by rw [getD_replicate_false] at hl; cases hl), (fun t h1 h2 => by
      have h3 : t < l.length + 1 := by simpa using h2
      simp [h3])⟩
    ⟨by simp, by simp, (fun j hj d => by
      have h3 : j < l.length + 1 := by omega
      simp [hj, h3])⟩ hC h1
  simpa using h2
end
end Go.Proofs.Base
/-
  strings.Builder: a builder of the call's own, written and read.
-/
set_option linter.unusedVariables false
set_option linter.unusedSimpArgs false
namespace Go.Proofs.Ytcfdbdmefdffdaa
open Go Go.RowKit Go.Proofs.Base Go.Shelf
def lays169_ren : Go.Shelf.Ren := ⟨fun | 169 => 70 | n => n, fun | 70 => 93 | 9 => 9 | 0 => 0 | 72 => 95 | 37 => 67 | 127 => 106 | 3 => 3 | 5 => 5 | n => n, fun | n => n⟩
theorem lays169 : Go.Proofs.Lays.n169 Try.prog lays169_ren := {
  mixed := by kernel_rfl
  f169 := Try.func70.trans (congrArg some (by kernel_rfl))
  t0 := Try.underlying0
  a0 := Try.isAgg0
  z0 := Try.sizeOf0
  v0 := Try.zeroValue0
  t3 := Try.underlying3
  a3 := Try.isAgg3
  z3 := Try.sizeOf3
  v3 := Try.zeroValue3
  t9 := Try.underlying9
  a9 := Try.isAgg9
  z9 := Try.sizeOf9
  v9 := Try.zeroValue9
  t37 := Try.underlying67
  a37 := Try.isAgg67
  z37 := Try.sizeOf67
  v37 := Try.zeroValue67
  t70 := Try.underlying93
  a70 := Try.isAgg93
  z70 := Try.sizeOf93
  v70 := Try.zeroValue93
  t72 := Try.underlying95
  a72 := Try.isAgg95
  z72 := Try.sizeOf95
  v72 := Try.zeroValue95
  t127 := Try.underlying106
  a127 := Try.isAgg106
  z127 := Try.sizeOf106
  v127 := Try.zeroValue106 }
theorem extra169 : Builder.Extra Try.prog lays169_ren := {
  sizeBuilder := by kernel_rfl
  liesBuilder := by kernel_rfl
  t5 := Try.underlying5
  a5 := Try.isAgg5
  z5 := Try.sizeOf5
  v5 := Try.zeroValue5
  infoByte := by kernel_rfl
  cellsByte := by kernel_rfl
  sizeByte := by kernel_rfl
  neB5 := by decide }
def Bld (w : World) (B b : Nat) (s : ByteArray) : Prop := Lib.IsBuilder 95 5 B b (Lib.strCells s) w
def bldT (w : World) (b k : Nat) : Prop := k = b ∨ ∃ c f, w.heap[k]? = some (.cells c 5 f)
theorem Bld.new (w : World) : Bld (w.alloc (.cells #[.pointer none, .slice none 0 0] 95)) w.heap.size w.heap.size ByteArray.empty := Lib.fresh_isBuilder 95 5 w
theorem Bld.kept {w w' : World} {B b : Nat} {s : ByteArray} (h : Bld w B b s) (hb : Below w.heap.size w w') : Bld w' B b s := by
  have key : ∀ p, Lib.BuilderAt 95 5 B b p (Lib.strCells s) w → Lib.BuilderAt 95 5 B b p (Lib.strCells s) w' := by
    rintro p ⟨hB, v, hbk, hown, hne⟩
    exact ⟨hB, v, block_below hb hbk, hown.kept (grown_of_below hb none) (by cases v.ownBlock <;> simp), hne⟩
  rcases h with h | h
  · exact .inl (key _ h)
  · exact .inr (key _ h)
theorem Bld.lt {w : World} {B b : Nat} {s : ByteArray} (h : Bld w B b s) : B ≤ b ∧ b < w.heap.size := by
  rcases h with ⟨hB, v, hbk, _⟩ | ⟨hB, v, hbk, _⟩
  · exact ⟨hB, lt_of_blk hbk⟩
  · exact ⟨hB, lt_of_blk hbk⟩
set_option maxRecDepth 100000 in
set_option maxHeartbeats 1000000 in
theorem bld_check (B b : Nat) (bs : List Value) (w : World) (h : Lib.IsBuilder 95 5 B b bs w) :
    Calls Try.prog 73 #[.pointer (some ⟨b, 0, none⟩)] w fun e w' => e = .returned (.tuple #[]) ∧ Lib.BuilderAt 95 5 B b (.pointer (some ⟨b, 0, none⟩)) bs w' ∧ Below B w w' ∧ Mut (fun k => k = b) w w' := by
  have hsz : (Try.prog.info? 95).map (fun i => i.size) = some 2 := by kernel_rfl
  obtain ⟨j, hj, hjs⟩ := Option.map_eq_some_iff.1 hsz
  rcases h with h | h
  · have h0 := h.cell0
    have hsh := h.shape
    have hfz := h.frozen0
    have H := Lib.hid h
    clear h
    go_enter Try.func73, Try.ntmps73
    go_wp2
    rw [Lib.run_to_unsafe w ⟨b, 0, none⟩ Try.underlying93 Try.underlying108 hj (by rw [hjs]; decide) hsh (Nat.zero_lt_succ 1)]
    simp only [Result.andThen]
    rw [Oper.upon_value]
    go_wp2
    rw [run_callFunc_extern Try.func75 (by kernel_rfl) (by kernel_rfl) (by kernel_rfl) (e := Extern.AbiNoEscape.same) (by kernel_rfl)]
    rw [Lib.run_noEscape]
    simp only [Result.andThen]
    rw [Oper.upon_value]
    go_wp2
    rw [Lib.run_from_unsafe w ⟨b, 0, none⟩ Try.underlying108 Try.underlying93 hj hsh extra169.liesBuilder]
    simp only [Result.andThen]
    rw [Oper.upon_value]
    go_wp2
    go_end0
    exact ⟨rfl, H.out.used _, (Below.refl B w).setCell (p := ⟨b, 0, none⟩) H.out.1 _, Mut.setCell (T := fun k => k = b) (Mut.refl _ w) (p := ⟨b, 0, none⟩) (fun _ => rfl) _⟩
  · have h0 := h.cell0
    have H := Lib.hid h
    clear h
    go_enter Try.func73, Try.ntmps73
    go_wp2
    rw [Lib.run_neq_ptr_same w _ Try.underlying93 hj]
    go_wp2
    go_end0
    exact ⟨rfl, H.out, Below.refl B _, Mut.refl _ _⟩
set_option maxRecDepth 100000 in
set_option maxHeartbeats 2000000 in
theorem bld_WriteString (B b : Nat) (s t : ByteArray) (w : World) (h : Bld w B b s) (hlen : s.size + t.size ≤ 140737488355328) (hBw : B ≤ w.heap.size) :
    Calls Try.prog 68 #[.pointer (some ⟨b, 0, none⟩), .string t] w fun e w' => e = .returned (.tuple #[.int .i64 t.size, .nilIface]) ∧ Bld w' B b (s ++ t) ∧ Below B w w' ∧ Mut (bldT w b) w w' := by
  obtain ⟨i0, hi, hz0, hz1, hz2⟩ := info_parts extra169.infoByte
  have hl : (Lib.strCells s).length = s.size := Lib.strCells_length s
  have hcat : Lib.strCells (s ++ t) = Lib.strCells s ++ Lib.strCells t := by simp [Lib.strCells]
  have Hcat := Lib.hid hcat
  have Hl := Lib.hid hl
  clear hcat hl
  go_enter Try.func68, Try.ntmps68
  go_wp2_with (go_at_call 73; refine (bld_check B b _ _ h).mono ?_)
  rintro e w1 ⟨rfl, h1, hb1, hm1⟩
  obtain ⟨hB, v, hbk, hown, hne⟩ := h1
  have c0 : w1.cell? ⟨b, 0, none⟩ = some (.pointer (some ⟨b, 0, none⟩)) := by rw [Lib.cell_of_heap hbk]; rfl
  have c1 : w1.cell? ⟨b, 1, none⟩ = some v := by rw [Lib.cell_of_heap hbk]; rfl
  go_wp2_with (at_builtin; refine Lib.wpList_append_own_string _ rfl _ _ 67 9 rfl B 5 i0 Try.underlying67 Try.underlying9 hi hz0 hz1 hz2 _ _ _ rfl hown t rfl ?c3 ?c4 ?c5 ?_)
  case c3 => rw [Hl.out]; unfold maxLen; omega
  case c4 => rw [Hl.out]; omega
  case c5 => have := hb1.size; omega
  intro v' w2 hown' hgrow _
  have hlt : b < w1.heap.size := lt_of_blk hbk
  have hb2 : w2.heap[b]? = some (.cells #[.pointer (some ⟨b, 0, none⟩), v] 95 (0, 0)) := by
    rw [hgrow.block b hlt (fun e => hne e.symm)]
    exact hbk
  have d0 : w2.cell? ⟨b, 0, none⟩ = some (.pointer (some ⟨b, 0, none⟩)) := by rw [Lib.cell_of_heap hb2]; rfl
  have d1 : w2.cell? ⟨b, 1, none⟩ = some v := by rw [Lib.cell_of_heap hb2]; rfl
  have f1 : w2.frozen? ⟨b, 1, none⟩ = false := Lib.frozen_of_heap hb2 1
  have hblk : ∀ k, v.ownBlock = some k → k < w.heap.size → bldT w b k := by
    intro k hk hkw
    rcases hown.2 with ⟨rfl, _⟩ | ⟨g, cap, cur, rfl, _, hh, _⟩
    · cases hk
    · have : g = k := by simpa [Value.ownBlock] using hk
      subst this
      by_cases hgb : g = b
      · exact .inl hgb
      · exact .inr ⟨cur, (0, 0), by rw [← hm1.block g hkw hgb]; exact hh⟩
  obtain ⟨ao, n', cap, rfl⟩ : ∃ ao n' cap, v' = .slice ao n' cap := by
    rcases hown'.2 with ⟨hv, _⟩ | ⟨g, cap, cur, hv, _⟩
    · exact ⟨_, _, _, hv⟩
    · exact ⟨_, _, _, hv⟩
  have M1 : Mut (bldT w b) w w2 := (hm1.mono (fun k _ hk => .inl hk)).trans (T' := fun k => v.ownBlock = some k) (Mut.grown hgrow (fun k hk => hk)) (fun k hk h => hblk k h hk)
  have HM1 := Lib.hid M1
  clear hblk M1
  go_wp2
  go_ret2
  refine ⟨rfl, ?_, ?_, HM1.out.setCell (p := ⟨b, 1, none⟩) (fun _ => .inl rfl) _⟩
  · refine .inr (Lib.BuilderAt.put (T := 95) (e := 5) hB hb2 (bs' := Lib.strCells (s ++ t)) ?_ extra169.neB5)
    rw [Hcat.out]
    simpa [Lib.strCells_length] using hown'
  · exact (hb1.grown hgrow (by have := hb1.size; omega) (fun k hk => (hown.lt k hk).1)).setCell (p := ⟨b, 1, none⟩) hB _
theorem bld_String (B b : Nat) (s : ByteArray) (w : World) (h : Bld w B b s) (hBw : B ≤ w.heap.size) :
    Calls Try.prog 70 #[.pointer (some ⟨b, 0, none⟩)] w fun e w' => e = .returned (.string s) ∧ Below B w w' := by
  have := Any.Builder_String_any lays169 extra169 B b (toL s) w h hBw
  exact this
end Go.Proofs.Ytcfdbdmefdffdaa
/-
  The walks of value: VarsBytes, Take, TakeVars.
-/
set_option linter.unusedVariables false
set_option linter.unusedSimpArgs false
namespace Go.Proofs.Ytcfdbdmefdffdaa
open Go Go.RowKit Go.Proofs.Base
open Go.Sort (grow)
set_option maxRecDepth 100000 in
set_option maxHeartbeats 2000000 in
theorem val_VarsBytes (S : Nat → Prop) (l : List GVar) (n : Nat) (v : Value) (w : World) (hl : l.length = n) (hr : Row w S 4 n v (varCells l)) (hw : ∀ x ∈ l, x.wf) :
    Calls Try.prog 46 #[v] w fun e w' => e = .returned (.string (varsB l)) ∧ Below w.heap.size w w' := by
  have hR := val_Right S l n v w hl hr hw
  obtain ⟨A, c, rfl, hnc, hc⟩ := hr.open_
  by_cases hm : rightV l = true
  · obtain ⟨h16, hall⟩ := rightV_all hm
    rw [hl] at h16
    have hv : varsB l = uintB n ++ varsCat (l.drop 0) := by unfold varsB; rw [if_pos hm, hl]; rfl
    simp only [hm] at hR
    have HV := Lib.hid hv
    have HR := Lib.hid hR
    have Hl := Lib.hid hl
    have Hr := Lib.hid hr
    have Hw := Lib.hid hw
    have Hall := Lib.hid hall
    have hu := uintB_size (v := n) (by omega)
    clear hv hR hl hr hw hall hm
    go_enter Try.func46, Try.ntmps46
    go_wp2_with (first | (go_at_call 20; refine HR.out.mono ?_; rintro e w1 ⟨rfl, hb1⟩) | (go_at_call 39; refine (wire_Uint _ _ (by omega) (by omega)).mono ?_; rintro e w2 ⟨rfl, hb2⟩))
    refine (bld_WriteString w1.heap.size w1.heap.size ByteArray.empty (uintB n) w2 ((Bld.new w1).kept hb2) (by rw [show ByteArray.empty.size = 0 from rfl]; omega) (by have := hb2.size; simp at this; omega)).mono ?_
    rintro e w3 ⟨rfl, hB3, hb3, hm3⟩
    have hbl3 : Below w.heap.size w w3 := by
      have h1 := below2 (below_alloc hb1 (.cells #[.pointer none, .slice none 0 0] 95)) hb2
      exact h1.trans (hb3.mono hb1.size)
    rw [empty_app] at hB3
    have hbs := hb1.size
    generalize w1.heap.size = b0 at *
    clear hm3 hb3 hb2 hb1
    go_wp2_with fail
    go_loopw [5, 16] (fun _ i wr => ∃ (k : Nat) (acc : ByteArray), k ≤ n ∧ i = .int .i64 k ∧ Bld wr b0 b0 acc ∧ acc.size ≤ 10 + k * 2000 ∧ Hid (varsB l = acc ++ varsCat (l.drop k)) ∧ Below w.heap.size w wr) (fun _ i _ => n - (intOf i).toNat)
    case atStart => exact ⟨0, uintB n, Nat.zero_le _, rfl, hB3, by omega, HV, hbl3⟩
    case round =>
      clear hB3 hbl3
      obtain ⟨k, acc, hk, rfl, hA, hacc, HK, HB⟩ := hrel
      by_cases hlt : k < n
      · have hkl : k < l.length := by rw [Hl.out]; exact hlt
        obtain ⟨b, o, rfl, hSb, hbl, hcell⟩ := Hr.out.at_ (by omega)
        obtain ⟨e0, e1, e2, e3⟩ := varCells_at hkl
        have c0 := (HB.cell (p := ⟨b, o + k * 4 + 0, none⟩) hbl).trans (hcell k 0 _ e0)
        have c1 := (HB.cell (p := ⟨b, o + k * 4 + 1, none⟩) hbl).trans (hcell k 1 _ e1)
        have c2 := (HB.cell (p := ⟨b, o + k * 4 + 2, none⟩) hbl).trans (hcell k 2 _ e2)
        have c3 := (HB.cell (p := ⟨b, o + k * 4 + 3, none⟩) hbl).trans (hcell k 3 _ e3)
        rw [Nat.add_zero] at c0
        have hwx := Hw.out _ (List.getElem_mem hkl)
        have hax := Hall.out _ (List.getElem_mem hkl)
        have hq := HK.out
        rw [List.drop_eq_getElem_cons hkl] at hq
        generalize l[k] = x at *
        obtain ⟨hwn, hwk, hwi, hws⟩ := hwx
        obtain ⟨hxn, hxm⟩ := hax
        have hn32 := (named_size hxn).1
        have ht1 := textB_size (s := x.name) (by omega)
        have ht2 : (valB x.v.k x.v.n x.v.s).size ≤ 1100 := valB_size hwi hxm
        have hsz : ¬ 9223372036854775807 < (textB x.name).size + (valB x.v.k x.v.n x.v.s).size := by omega
        have hq2 : varsB l = (acc ++ (textB x.name ++ valB x.v.k x.v.n x.v.s)) ++ varsCat (l.drop (k + 1)) := by rw [hq, app_assoc]; rfl
        have HQ := Lib.hid hq2
        have HWn := Lib.hid hwn
        have HWk := Lib.hid hwk
        have HWi := Lib.hid hwi
        have HWs := Lib.hid hws
        have HA := Lib.hid hA
        clear hq hq2 HK hcell e0 e1 e2 e3 hkl hxn hxm hwn hwk hwi hws hA
        have cT := fun d os => Calls.regrown_of (wire_Text x.name (grow (redrawn (wr.alloc (.cells #[.string x.name, .int .i64 x.v.k, .int .i64 x.v.n, .string x.v.s] 52)) d) os) (by omega))
        have cB := fun d os => Calls.regrown_of (val_Bytes x.v.k x.v.n x.v.s (grow (redrawn (wr.alloc (.cells #[.string x.name, .int .i64 x.v.k, .int .i64 x.v.n, .string x.v.s] 52)) d) os) HWk.out HWi.out HWs.out)
        have kx0 := cell_regrown (w := (wr.alloc (.cells #[.string x.name, .int .i64 x.v.k, .int .i64 x.v.n, .string x.v.s] 52))) (a := ⟨wr.heap.size, 0, none⟩) (v := .string x.name) (by simp)
        have kx1 := cell_regrown (w := (wr.alloc (.cells #[.string x.name, .int .i64 x.v.k, .int .i64 x.v.n, .string x.v.s] 52))) (a := ⟨wr.heap.size, 1, none⟩) (v := .int .i64 x.v.k) (by simp)
        have kx2 := cell_regrown (w := (wr.alloc (.cells #[.string x.name, .int .i64 x.v.k, .int .i64 x.v.n, .string x.v.s] 52))) (a := ⟨wr.heap.size, 2, none⟩) (v := .int .i64 x.v.n) (by simp)
        have kx3 := cell_regrown (w := (wr.alloc (.cells #[.string x.name, .int .i64 x.v.k, .int .i64 x.v.n, .string x.v.s] 52))) (a := ⟨wr.heap.size, 3, none⟩) (v := .string x.v.s) (by simp)
        go_wp2_with fail
        refine wp_region_quiet_tail [_, _, _, _, _, _, _] _ (by kernel_rfl) (by kernel_rfl) (by kernel_rfl) (by kernel_rfl) (by kernel_rfl) (by kernel_rfl) ?_
        repeat (first | go_big_quiet_step (first | exact cT _ _ | exact cB _ _) | quiet_step (first | exact cT _ _ | exact cB _ _))
        refine wpQuiet_nil ?_
        intro _ hw'
        obtain ⟨⟨dq, osq⟩, hw''⟩ := hw'
        subst hw''
        have hbq := below_regrown (wr.alloc (.cells #[.string x.name, .int .i64 x.v.k, .int .i64 x.v.n, .string x.v.s] 52)) dq osq
        have HB2 : Below w.heap.size w (grow (redrawn (wr.alloc (.cells #[.string x.name, .int .i64 x.v.k, .int .i64 x.v.n, .string x.v.s] 52)) dq) osq) := below2 (below_alloc HB _) hbq
        have hA2 : Bld (grow (redrawn (wr.alloc (.cells #[.string x.name, .int .i64 x.v.k, .int .i64 x.v.n, .string x.v.s] 52)) dq) osq) b0 b0 acc := (HA.out.kept ((Below.refl _ _).alloc (Nat.le_refl _) _)).kept hbq
        have hszW := hA2.lt
        go_wp2_with (go_at_call 68; refine (bld_WriteString b0 b0 acc _ _ hA2 (by rw [app_size]; omega) (by omega)).mono ?_; rintro e w4 ⟨rfl, hB4, hb4, hm4⟩)
        go_roundw
        case rel => exact ⟨k + 1, _, by omega, by go_num, hB4, by rw [app_size, app_size]; omega, HQ, HB2.trans (hb4.mono hbs)⟩
        case measure => simp [intOf]; omega
      · have hA' := hA.lt
        have hf := HK.out
        rw [List.drop_eq_nil_of_le (by rw [Hl.out]; omega)] at hf
        have HF := Lib.hid hf
        clear hf HK
        go_wp2_with (go_at_call 70; refine (bld_String b0 b0 acc _ hA (by omega)).mono ?_; rintro e w4 ⟨rfl, hb4⟩)
        go_ret
        exact ⟨by rw [HF.out]; exact ret1 (vstr (app_empty _).symm), HB.trans (hb4.mono hbs)⟩
  · have hm : rightV l = false := by simpa using hm
    have hv : varsB l = ByteArray.empty := by unfold varsB; rw [hm]; rfl
    simp only [hm] at hR
    have HV := Lib.hid hv
    have HR := Lib.hid hR
    clear hv hR hl hr hw hm
    go_enter Try.func46, Try.ntmps46
    go_wp2_with (go_at_call 20; refine HR.out.mono ?_; rintro e w1 ⟨rfl, hb1⟩)
    go_ret
    exact ⟨by rw [HV.out]; rfl, hb1⟩
end Go.Proofs.Ytcfdbdmefdffdaa
/-
  The walks of value: Take, TakeVars.
-/
set_option linter.unusedVariables false
set_option linter.unusedSimpArgs false
namespace Go.Proofs.Ytcfdbdmefdffdaa
open Go Go.RowKit Go.Proofs.Base
open Go.Sort (grow)
theorem Rdr.setOther {w : World} {g : Nat} {s : ByteArray} {e : Nat} (h : Rdr w g s e) {b o : Nat} (hne : g ≠ b) (v : Value) : Rdr (w.setCell ⟨b, o, none⟩ v) g s e := (Below.heap_setCell _ _ _ _ hne).trans h
set_option maxRecDepth 100000 in
set_option maxHeartbeats 2000000 in
theorem val_Take (g : Nat) (s : ByteArray) (e0 : Nat) (w : World) (hr : Rdr w g s e0) (hs : s.size ≤ 9223372036854775807) :
    Calls Try.prog 64 #[.pointer (some ⟨g, 0, none⟩)] w fun e w' => e = .returned (.tuple #[.agg #[.int .i64 (takeV s e0).k, .int .i64 (takeV s e0).n, .string (takeV s e0).s], .bool (takeOk s e0)]) ∧ Rdr w' g (takeRaw s e0).2.1 (takeRaw s e0).2.2 ∧ Mut (fun b => b = g) w w' := by
  have hg := hr.facts.2.2.2.2
  have hr1 := hr.alloc (.cells #[.int .i64 0, .int .i64 0, .string ByteArray.empty] 50)
  have HR := Lib.hid hr
  clear hr
  have hb := rdByte_lt s e0
  by_cases h3 : (rdByte s e0).1 = 3
  · have hraw : takeRaw s e0 = (⟨3, 0, (rdText 1024 (rdByte s e0).2.1 (rdByte s e0).2.2).1⟩, (rdText 1024 (rdByte s e0).2.1 (rdByte s e0).2.2).2) := by unfold takeRaw; rw [if_pos h3]
    have HRaw := Lib.hid hraw
    clear hraw
    have h3b : ((rdByte s e0).1 : Int) = 3 := by omega
    go_enter Try.func64, Try.ntmps64
    go_wp2_with fail
    refine (rd_Byte g s e0 _ hr1 hs).mono ?_
    rintro e w1 ⟨rfl, hq1, hm1⟩
    have ho1 := hm1.blk (heap_alloc_new w _) (show ¬ w.heap.size = g by omega)
    have hz1 := hm1.size
    rw [World.size_alloc] at hz1
    have HO1 := Lib.hid ho1
    have HM1 := Lib.hid hm1
    clear ho1 hm1 hr1
    have hr2 := hq1.alloc (.cells #[.int .i64 3, .int .i64 0, .string ByteArray.empty] 50)
    go_wp2_with fail
    refine (rd_Text g (rdByte s e0).2.1 (rdByte s e0).2.2 1024 _ hr2 (by have := rdByte_size s e0; omega) (by omega) (by omega)).mono ?_
    rintro e w2 ⟨rfl, hq2, hm2⟩
    have ho2 := hm2.blk (block_below ((Below.refl _ _).alloc (Nat.le_refl _) _) HO1.out) (show ¬ w.heap.size = g by omega)
    have hv2 := hm2.blk (heap_alloc_new w1 _) (show ¬ w1.heap.size = g by omega)
    have hz2 := hm2.size
    rw [World.size_alloc] at hz2
    have vc0 := cell_of_blk hv2 0
    have vc1 := cell_of_blk hv2 1
    have vc2 := cell_of_blk hv2 2
    have vf0 := frozen_of_blk hv2 0
    have vf1 := frozen_of_blk hv2 1
    have vf2 := frozen_of_blk hv2 2
    have hM02 : Mut (fun b => b = g) w w2 := ((((Mut.refl _ w).alloc _).trans HM1.out (fun _ _ h => h)).alloc _).trans hm2 (fun _ _ h => h)
    have HV2 := Lib.hid (set_blk (o := 2) hv2 (.string (rdText 1024 (rdByte s e0).2.1 (rdByte s e0).2.2).1))
    have HO2 := Lib.hid ho2
    have HQ2 := Lib.hid hq2
    have HM02 := Lib.hid hM02
    clear ho2 hv2 hq2 hM02 hm2 hq1 hr2
    go_wp2_with fail
    have hq3 : Rdr (w2.setCell ⟨w1.heap.size, 2, none⟩ (.string (rdText 1024 (rdByte s e0).2.1 (rdByte s e0).2.2).1)) g (rdText 1024 (rdByte s e0).2.1 (rdByte s e0).2.2).2.1 (rdText 1024 (rdByte s e0).2.1 (rdByte s e0).2.2).2.2 := by
      unfold Rdr
      rw [Below.heap_setCell _ _ _ _ (show g ≠ w1.heap.size by omega)]
      exact HQ2.out
    have ho3 : (w2.setCell ⟨w1.heap.size, 2, none⟩ (.string (rdText 1024 (rdByte s e0).2.1 (rdByte s e0).2.2).1)).heap[w.heap.size]? = _ := (Below.heap_setCell _ _ _ _ (show w.heap.size ≠ w1.heap.size by omega)).trans HO2.out
    have hm3 : Mut (fun b => b = g) w (w2.setCell ⟨w1.heap.size, 2, none⟩ (.string (rdText 1024 (rdByte s e0).2.1 (rdByte s e0).2.2).1)) := HM02.out.setCell (p := ⟨w1.heap.size, 2, none⟩) (fun h => absurd h (show ¬ w1.heap.size < w.heap.size by omega)) _
    have hv3 := HV2.out
    have hz3 : w1.heap.size < (w2.setCell ⟨w1.heap.size, 2, none⟩ (.string (rdText 1024 (rdByte s e0).2.1 (rdByte s e0).2.2).1)).heap.size := lt_of_blk hv3
    generalize w2.setCell ⟨w1.heap.size, 2, none⟩ (.string (rdText 1024 (rdByte s e0).2.1 (rdByte s e0).2.2).1) = W3 at *
    generalize hgen : rdText 1024 (rdByte s e0).2.1 (rdByte s e0).2.2 = q at *
    obtain ⟨q1, s2, e2⟩ := q
    clear vc0 vc1 vc2 vf0 vf1 vf2 HV2 HQ2 HO2 HM02 HO1 HM1 hz2 hgen
    have hv4 : W3.heap[w1.heap.size]? = some (.cells #[.int .i64 3, .int .i64 0, .string q1] 50 (0, 0)) := hv3
    have HR3 := Lib.hid hq3
    have HO3 := Lib.hid ho3
    have HM3 := Lib.hid hm3
    have HV4 := Lib.hid hv4
    have fv0 := cell_of_blk hv4 0
    have fv1 := cell_of_blk hv4 1
    have fv2 := cell_of_blk hv4 2
    have fo0 := cell_of_blk ho3 0
    have fo1 := cell_of_blk ho3 1
    have fo2 := cell_of_blk ho3 2
    have ff0 := frozen_of_blk ho3 0
    have ff1 := frozen_of_blk ho3 1
    have ff2 := frozen_of_blk ho3 2
    clear hv3 hv4 hq3 ho3 hm3
    have hmm9 : True := trivial
    by_cases h2 : e2 = 0
    · have h2b := bne_f (a := (e2 : Int)) (b := 0) (by omega)
      by_cases hmm : mayV 3 0 q1 = true
      · have hmay := hmm
        have htk : takeOk s e0 = true := by unfold takeOk GVal.may; rw [HRaw.out]; simp [h2, hmm]
        have hv : takeV s e0 = ⟨3, 0, q1⟩ := by unfold takeV; rw [htk, HRaw.out]; rfl
        have HTK := Lib.hid htk
        have HV := Lib.hid hv
        have hM := fun W => val_May 3 0 q1 W
        simp only [hmm] at hM
        have HMay := Lib.hid hM
        clear htk hv hM hmm hmay
        go_wp2_with (go_at_call 65; refine (rd_Err g s2 e2 _ HR3.out).mono ?_; rintro e w' ⟨rfl, rfl⟩)
        refine (HMay.out _).mono ?_
        rintro e w4 ⟨rfl, hb4⟩
        have hv5 := block_below hb4 HV4.out
        have ho5 := block_below hb4 HO3.out
        have HO5 := Lib.hid ho5
        have HM4 := Lib.hid (HM3.out.trans (Mut.of_below hb4 (fun _ => False)) (fun _ _ h => h.elim))
        have HQ4 := Lib.hid (show Rdr w4 g s2 e2 from block_below hb4 HR3.out)
        have gv0 := cell_of_blk hv5 0
        have gv1 := cell_of_blk hv5 1
        have gv2 := cell_of_blk hv5 2
        have go0 := cell_of_blk ho5 0
        have go1 := cell_of_blk ho5 1
        have go2 := cell_of_blk ho5 2
        have gf0 := frozen_of_blk ho5 0
        have gf1 := frozen_of_blk ho5 1
        have gf2 := frozen_of_blk ho5 2
        clear hv5 ho5 fv0 fv1 fv2 fo0 fo1 fo2 ff0 ff1 ff2 hb4
        go_wp2_with fail
        have hb6 := set_blk3 HO5.out (.int .i64 3) (.int .i64 0) (.string q1)
        have r0 := cell_of_blk hb6 0
        have r1 := cell_of_blk hb6 1
        have r2 := cell_of_blk hb6 2
        refine bodyPost_ret (v := .tuple #[.agg #[.int .i64 3, .int .i64 0, .string q1], .bool true]) (by simp [results, Try.results64, go_sem, r0, r1, r2]) rfl ⟨?_, ?_, ?_⟩
        · first | (rw [HV.out, HTK.out]; done) | (rw [HV.out, HTK.out]; rfl)
        · rw [HRaw.out]; exact ((HQ4.out.setOther (by omega) _).setOther (by omega) _).setOther (by omega) _
        · exact ((HM4.out.setCell (p := ⟨w.heap.size, 0, none⟩) (fun h => absurd h (Nat.lt_irrefl _)) _).setCell (p := ⟨w.heap.size, 1, none⟩) (fun h => absurd h (Nat.lt_irrefl _)) _).setCell (p := ⟨w.heap.size, 2, none⟩) (fun h => absurd h (Nat.lt_irrefl _)) _
      · have hmm : mayV 3 0 q1 = false := by simpa using hmm
        have htk : takeOk s e0 = false := by unfold takeOk GVal.may; rw [HRaw.out]; simp [hmm]
        have hv : takeV s e0 = zeroV := by unfold takeV; rw [htk]; rfl
        have HTK := Lib.hid htk
        have HV := Lib.hid hv
        have hM := fun W => val_May 3 0 q1 W
        simp only [hmm] at hM
        have HMay := Lib.hid hM
        clear htk hv hM hmm
        go_wp2_with (go_at_call 65; refine (rd_Err g s2 e2 _ HR3.out).mono ?_; rintro e w' ⟨rfl, rfl⟩)
        refine (HMay.out _).mono ?_
        rintro e w4 ⟨rfl, hb4⟩
        have ho5 := block_below hb4 HO3.out
        have HO5 := Lib.hid ho5
        have HM4 := Lib.hid (HM3.out.trans (Mut.of_below hb4 (fun _ => False)) (fun _ _ h => h.elim))
        have HQ4 := Lib.hid (show Rdr w4 g s2 e2 from block_below hb4 HR3.out)
        have go0 := cell_of_blk ho5 0
        have go1 := cell_of_blk ho5 1
        have go2 := cell_of_blk ho5 2
        have gf0 := frozen_of_blk ho5 0
        have gf1 := frozen_of_blk ho5 1
        have gf2 := frozen_of_blk ho5 2
        clear ho5 fv0 fv1 fv2 fo0 fo1 fo2 ff0 ff1 ff2 hb4
        go_wp2_with fail
        have hb6 := set_blk3 HO5.out (.int .i64 0) (.int .i64 0) (.string ⟨#[]⟩)
        have r0 := cell_of_blk hb6 0
        have r1 := cell_of_blk hb6 1
        have r2 := cell_of_blk hb6 2
        refine bodyPost_ret (v := .tuple #[.agg #[.int .i64 0, .int .i64 0, .string ⟨#[]⟩], .bool false]) (by simp [results, Try.results64, go_sem, r0, r1, r2]) rfl ⟨?_, ?_, ?_⟩
        · first | (rw [HV.out, HTK.out]; done) | (rw [HV.out, HTK.out]; rfl)
        · rw [HRaw.out]; exact ((HQ4.out.setOther (by omega) _).setOther (by omega) _).setOther (by omega) _
        · exact ((HM4.out.setCell (p := ⟨w.heap.size, 0, none⟩) (fun h => absurd h (Nat.lt_irrefl _)) _).setCell (p := ⟨w.heap.size, 1, none⟩) (fun h => absurd h (Nat.lt_irrefl _)) _).setCell (p := ⟨w.heap.size, 2, none⟩) (fun h => absurd h (Nat.lt_irrefl _)) _
    · have h2b := bne_t (a := (e2 : Int)) (b := 0) (by omega)
      have htk : takeOk s e0 = false := by unfold takeOk; rw [HRaw.out]; simp [h2]
      have hv : takeV s e0 = zeroV := by unfold takeV; rw [htk]; rfl
      have HTK := Lib.hid htk
      have HV := Lib.hid hv
      clear htk hv
      go_wp2_with (go_at_call 65; refine (rd_Err g s2 e2 _ HR3.out).mono ?_; rintro e w' ⟨rfl, rfl⟩)
      have hb6 := set_blk3 HO3.out (.int .i64 0) (.int .i64 0) (.string ⟨#[]⟩)
      have r0 := cell_of_blk hb6 0
      have r1 := cell_of_blk hb6 1
      have r2 := cell_of_blk hb6 2
      refine bodyPost_ret (v := .tuple #[.agg #[.int .i64 0, .int .i64 0, .string ⟨#[]⟩], .bool false]) (by simp [results, Try.results64, go_sem, r0, r1, r2]) rfl ⟨?_, ?_, ?_⟩
      · first | (rw [HV.out, HTK.out]; done) | (rw [HV.out, HTK.out]; rfl)
      · rw [HRaw.out]; exact ((HR3.out.setOther (by omega) _).setOther (by omega) _).setOther (by omega) _
      · exact ((HM3.out.setCell (p := ⟨w.heap.size, 0, none⟩) (fun h => absurd h (Nat.lt_irrefl _)) _).setCell (p := ⟨w.heap.size, 1, none⟩) (fun h => absurd h (Nat.lt_irrefl _)) _).setCell (p := ⟨w.heap.size, 2, none⟩) (fun h => absurd h (Nat.lt_irrefl _)) _
  · have hraw : takeRaw s e0 = (⟨(rdByte s e0).1, (rdInt (rdByte s e0).2.1 (rdByte s e0).2.2).1, ByteArray.empty⟩, (rdInt (rdByte s e0).2.1 (rdByte s e0).2.2).2) := by unfold takeRaw; rw [if_neg h3]
    have HRaw := Lib.hid hraw
    clear hraw
    have h3b := beq_f (a := ((rdByte s e0).1 : Int)) (b := 3) (by omega)
    have HH3 := Lib.hid h3
    clear h3
    go_enter Try.func64, Try.ntmps64
    go_wp2_with fail
    refine (rd_Byte g s e0 _ hr1 hs).mono ?_
    rintro e w1 ⟨rfl, hq1, hm1⟩
    have ho1 := hm1.blk (heap_alloc_new w _) (show ¬ w.heap.size = g by omega)
    have hz1 := hm1.size
    rw [World.size_alloc] at hz1
    have HO1 := Lib.hid ho1
    have HM1 := Lib.hid hm1
    clear ho1 hm1 hr1
    have hr2 := hq1.alloc (.cells #[.int .i64 ((rdByte s e0).1 : Int), .int .i64 0, .string ByteArray.empty] 50)
    go_wp2_with fail
    refine (rd_Int g (rdByte s e0).2.1 (rdByte s e0).2.2 _ hr2 (by have := rdByte_size s e0; omega)).mono ?_
    rintro e w2 ⟨rfl, hq2, hm2⟩
    have ho2 := hm2.blk (block_below ((Below.refl _ _).alloc (Nat.le_refl _) _) HO1.out) (show ¬ w.heap.size = g by omega)
    have hv2 := hm2.blk (heap_alloc_new w1 _) (show ¬ w1.heap.size = g by omega)
    have hz2 := hm2.size
    rw [World.size_alloc] at hz2
    have vc0 := cell_of_blk hv2 0
    have vc1 := cell_of_blk hv2 1
    have vc2 := cell_of_blk hv2 2
    have vf0 := frozen_of_blk hv2 0
    have vf1 := frozen_of_blk hv2 1
    have vf2 := frozen_of_blk hv2 2
    have hM02 : Mut (fun b => b = g) w w2 := ((((Mut.refl _ w).alloc _).trans HM1.out (fun _ _ h => h)).alloc _).trans hm2 (fun _ _ h => h)
    have HV2 := Lib.hid (set_blk (o := 1) hv2 (.int .i64 (rdInt (rdByte s e0).2.1 (rdByte s e0).2.2).1))
    have HO2 := Lib.hid ho2
    have HQ2 := Lib.hid hq2
    have HM02 := Lib.hid hM02
    clear ho2 hv2 hq2 hM02 hm2 hq1 hr2
    go_wp2_with fail
    have hq3 : Rdr (w2.setCell ⟨w1.heap.size, 1, none⟩ (.int .i64 (rdInt (rdByte s e0).2.1 (rdByte s e0).2.2).1)) g (rdInt (rdByte s e0).2.1 (rdByte s e0).2.2).2.1 (rdInt (rdByte s e0).2.1 (rdByte s e0).2.2).2.2 := by
      unfold Rdr
      rw [Below.heap_setCell _ _ _ _ (show g ≠ w1.heap.size by omega)]
      exact HQ2.out
    have ho3 : (w2.setCell ⟨w1.heap.size, 1, none⟩ (.int .i64 (rdInt (rdByte s e0).2.1 (rdByte s e0).2.2).1)).heap[w.heap.size]? = _ := (Below.heap_setCell _ _ _ _ (show w.heap.size ≠ w1.heap.size by omega)).trans HO2.out
    have hm3 : Mut (fun b => b = g) w (w2.setCell ⟨w1.heap.size, 1, none⟩ (.int .i64 (rdInt (rdByte s e0).2.1 (rdByte s e0).2.2).1)) := HM02.out.setCell (p := ⟨w1.heap.size, 1, none⟩) (fun h => absurd h (show ¬ w1.heap.size < w.heap.size by omega)) _
    have hv3 := HV2.out
    have hz3 : w1.heap.size < (w2.setCell ⟨w1.heap.size, 1, none⟩ (.int .i64 (rdInt (rdByte s e0).2.1 (rdByte s e0).2.2).1)).heap.size := lt_of_blk hv3
    generalize w2.setCell ⟨w1.heap.size, 1, none⟩ (.int .i64 (rdInt (rdByte s e0).2.1 (rdByte s e0).2.2).1) = W3 at *
    generalize hgen : rdInt (rdByte s e0).2.1 (rdByte s e0).2.2 = q at *
    obtain ⟨q1, s2, e2⟩ := q
    clear vc0 vc1 vc2 vf0 vf1 vf2 HV2 HQ2 HO2 HM02 HO1 HM1 hz2 hgen
    have hv4 : W3.heap[w1.heap.size]? = some (.cells #[.int .i64 ((rdByte s e0).1 : Int), .int .i64 q1, .string ByteArray.empty] 50 (0, 0)) := hv3
    have HR3 := Lib.hid hq3
    have HO3 := Lib.hid ho3
    have HM3 := Lib.hid hm3
    have HV4 := Lib.hid hv4
    have fv0 := cell_of_blk hv4 0
    have fv1 := cell_of_blk hv4 1
    have fv2 := cell_of_blk hv4 2
    have fo0 := cell_of_blk ho3 0
    have fo1 := cell_of_blk ho3 1
    have fo2 := cell_of_blk ho3 2
    have ff0 := frozen_of_blk ho3 0
    have ff1 := frozen_of_blk ho3 1
    have ff2 := frozen_of_blk ho3 2
    clear hv3 hv4 hq3 ho3 hm3
    have hmm9 : True := trivial
    by_cases h2 : e2 = 0
    · have h2b := bne_f (a := (e2 : Int)) (b := 0) (by omega)
      by_cases hmm : mayV ((rdByte s e0).1 : Int) q1 ByteArray.empty = true
      · have hmay := hmm
        have htk : takeOk s e0 = true := by unfold takeOk GVal.may; rw [HRaw.out]; simp [h2, hmm]
        have hv : takeV s e0 = ⟨((rdByte s e0).1 : Int), q1, ByteArray.empty⟩ := by unfold takeV; rw [htk, HRaw.out]; rfl
        have HTK := Lib.hid htk
        have HV := Lib.hid hv
        have hM := fun W => val_May ((rdByte s e0).1 : Int) q1 ByteArray.empty W
        simp only [hmm] at hM
        have HMay := Lib.hid hM
        clear htk hv hM hmm hmay
        go_wp2_with (go_at_call 65; refine (rd_Err g s2 e2 _ HR3.out).mono ?_; rintro e w' ⟨rfl, rfl⟩)
        refine (HMay.out _).mono ?_
        rintro e w4 ⟨rfl, hb4⟩
        have hv5 := block_below hb4 HV4.out
        have ho5 := block_below hb4 HO3.out
        have HO5 := Lib.hid ho5
        have HM4 := Lib.hid (HM3.out.trans (Mut.of_below hb4 (fun _ => False)) (fun _ _ h => h.elim))
        have HQ4 := Lib.hid (show Rdr w4 g s2 e2 from block_below hb4 HR3.out)
        have gv0 := cell_of_blk hv5 0
        have gv1 := cell_of_blk hv5 1
        have gv2 := cell_of_blk hv5 2
        have go0 := cell_of_blk ho5 0
        have go1 := cell_of_blk ho5 1
        have go2 := cell_of_blk ho5 2
        have gf0 := frozen_of_blk ho5 0
        have gf1 := frozen_of_blk ho5 1
        have gf2 := frozen_of_blk ho5 2
        clear hv5 ho5 fv0 fv1 fv2 fo0 fo1 fo2 ff0 ff1 ff2 hb4
        go_wp2_with fail
        have hb6 := set_blk3 HO5.out (.int .i64 ((rdByte s e0).1 : Int)) (.int .i64 q1) (.string ByteArray.empty)
        have r0 := cell_of_blk hb6 0
        have r1 := cell_of_blk hb6 1
        have r2 := cell_of_blk hb6 2
        refine bodyPost_ret (v := .tuple #[.agg #[.int .i64 ((rdByte s e0).1 : Int), .int .i64 q1, .string ByteArray.empty], .bool true]) (by simp [results, Try.results64, go_sem, r0, r1, r2]) rfl ⟨?_, ?_, ?_⟩
        · first | (rw [HV.out, HTK.out]; done) | (rw [HV.out, HTK.out]; rfl)
        · rw [HRaw.out]; exact ((HQ4.out.setOther (by omega) _).setOther (by omega) _).setOther (by omega) _
        · exact ((HM4.out.setCell (p := ⟨w.heap.size, 0, none⟩) (fun h => absurd h (Nat.lt_irrefl _)) _).setCell (p := ⟨w.heap.size, 1, none⟩) (fun h => absurd h (Nat.lt_irrefl _)) _).setCell (p := ⟨w.heap.size, 2, none⟩) (fun h => absurd h (Nat.lt_irrefl _)) _
      · have hmm : mayV ((rdByte s e0).1 : Int) q1 ByteArray.empty = false := by simpa using hmm
        have htk : takeOk s e0 = false := by unfold takeOk GVal.may; rw [HRaw.out]; simp [hmm]
        have hv : takeV s e0 = zeroV := by unfold takeV; rw [htk]; rfl
        have HTK := Lib.hid htk
        have HV := Lib.hid hv
        have hM := fun W => val_May ((rdByte s e0).1 : Int) q1 ByteArray.empty W
        simp only [hmm] at hM
        have HMay := Lib.hid hM
        clear htk hv hM hmm
        go_wp2_with (go_at_call 65; refine (rd_Err g s2 e2 _ HR3.out).mono ?_; rintro e w' ⟨rfl, rfl⟩)
        refine (HMay.out _).mono ?_
        rintro e w4 ⟨rfl, hb4⟩
        have ho5 := block_below hb4 HO3.out
        have HO5 := Lib.hid ho5
        have HM4 := Lib.hid (HM3.out.trans (Mut.of_below hb4 (fun _ => False)) (fun _ _ h => h.elim))
        have HQ4 := Lib.hid (show Rdr w4 g s2 e2 from block_below hb4 HR3.out)
        have go0 := cell_of_blk ho5 0
        have go1 := cell_of_blk ho5 1
        have go2 := cell_of_blk ho5 2
        have gf0 := frozen_of_blk ho5 0
        have gf1 := frozen_of_blk ho5 1
        have gf2 := frozen_of_blk ho5 2
        clear ho5 fv0 fv1 fv2 fo0 fo1 fo2 ff0 ff1 ff2 hb4
        go_wp2_with fail
        have hb6 := set_blk3 HO5.out (.int .i64 0) (.int .i64 0) (.string ⟨#[]⟩)
        have r0 := cell_of_blk hb6 0
        have r1 := cell_of_blk hb6 1
        have r2 := cell_of_blk hb6 2
        refine bodyPost_ret (v := .tuple #[.agg #[.int .i64 0, .int .i64 0, .string ⟨#[]⟩], .bool false]) (by simp [results, Try.results64, go_sem, r0, r1, r2]) rfl ⟨?_, ?_, ?_⟩
        · first | (rw [HV.out, HTK.out]; done) | (rw [HV.out, HTK.out]; rfl)
        · rw [HRaw.out]; exact ((HQ4.out.setOther (by omega) _).setOther (by omega) _).setOther (by omega) _
        · exact ((HM4.out.setCell (p := ⟨w.heap.size, 0, none⟩) (fun h => absurd h (Nat.lt_irrefl _)) _).setCell (p := ⟨w.heap.size, 1, none⟩) (fun h => absurd h (Nat.lt_irrefl _)) _).setCell (p := ⟨w.heap.size, 2, none⟩) (fun h => absurd h (Nat.lt_irrefl _)) _
    · have h2b := bne_t (a := (e2 : Int)) (b := 0) (by omega)
      have htk : takeOk s e0 = false := by unfold takeOk; rw [HRaw.out]; simp [h2]
      have hv : takeV s e0 = zeroV := by unfold takeV; rw [htk]; rfl
      have HTK := Lib.hid htk
      have HV := Lib.hid hv
      clear htk hv
      go_wp2_with (go_at_call 65; refine (rd_Err g s2 e2 _ HR3.out).mono ?_; rintro e w' ⟨rfl, rfl⟩)
      have hb6 := set_blk3 HO3.out (.int .i64 0) (.int .i64 0) (.string ⟨#[]⟩)
      have r0 := cell_of_blk hb6 0
      have r1 := cell_of_blk hb6 1
      have r2 := cell_of_blk hb6 2
      refine bodyPost_ret (v := .tuple #[.agg #[.int .i64 0, .int .i64 0, .string ⟨#[]⟩], .bool false]) (by simp [results, Try.results64, go_sem, r0, r1, r2]) rfl ⟨?_, ?_, ?_⟩
      · first | (rw [HV.out, HTK.out]; done) | (rw [HV.out, HTK.out]; rfl)
      · rw [HRaw.out]; exact ((HR3.out.setOther (by omega) _).setOther (by omega) _).setOther (by omega) _
      · exact ((HM3.out.setCell (p := ⟨w.heap.size, 0, none⟩) (fun h => absurd h (Nat.lt_irrefl _)) _).setCell (p := ⟨w.heap.size, 1, none⟩) (fun h => absurd h (Nat.lt_irrefl _)) _).setCell (p := ⟨w.heap.size, 2, none⟩) (fun h => absurd h (Nat.lt_irrefl _)) _
end Go.Proofs.Ytcfdbdmefdffdaa
