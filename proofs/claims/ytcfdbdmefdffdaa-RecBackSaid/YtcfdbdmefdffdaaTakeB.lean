/-
  The walk of rec.Take. Printed by gentake.py.
-/
import Derived.Test.YtcfdbdmefdffdaaTake
set_option linter.unusedVariables false
set_option linter.unusedSimpArgs false
namespace Go.Proofs.Ytcfdbdmefdffdaa
open Go Go.RowKit Go.Proofs.Base
open Go.Sort (grow)

theorem rd_Byte' (g : Nat) (s : ByteArray) (e0 : Nat) (x : Nat) (s' : ByteArray) (e' : Nat) (w : World) (hr : Rdr w g s e0) (hs : s.size ≤ 140737488351232) (h : rdByte s e0 = (x, s', e')) :
    Calls Try.prog 26 #[.pointer (some ⟨g, 0, none⟩)] w fun e w' => e = .returned (.int .u8 x) ∧ Rdr w' g s' e' ∧ Mut (fun b => b = g) w w' := by
  have hc := rd_Byte g s e0 w hr (by omega)
  rw [h] at hc
  exact hc
theorem rd_Uint' (g : Nat) (s : ByteArray) (e0 : Nat) (x : Nat) (s' : ByteArray) (e' : Nat) (w : World) (hr : Rdr w g s e0) (hs : s.size ≤ 140737488351232) (h : rdUint s e0 = (x, s', e')) :
    Calls Try.prog 27 #[.pointer (some ⟨g, 0, none⟩)] w fun e w' => e = .returned (.int .u64 x) ∧ Rdr w' g s' e' ∧ Mut (fun b => b = g) w w' := by
  have hc := rd_Uint g s e0 w hr (by omega)
  rw [h] at hc
  exact hc
theorem rd_Int' (g : Nat) (s : ByteArray) (e0 : Nat) (x : Int) (s' : ByteArray) (e' : Nat) (w : World) (hr : Rdr w g s e0) (hs : s.size ≤ 140737488351232) (h : rdInt s e0 = (x, s', e')) :
    Calls Try.prog 28 #[.pointer (some ⟨g, 0, none⟩)] w fun e w' => e = .returned (.int .i64 x) ∧ Rdr w' g s' e' ∧ Mut (fun b => b = g) w w' := by
  have hc := rd_Int g s e0 w hr (by omega)
  rw [h] at hc
  exact hc
theorem rd_Text' (g : Nat) (s : ByteArray) (e0 : Nat) (most : Int) (x s' : ByteArray) (e' : Nat) (w : World) (hr : Rdr w g s e0) (hs : s.size ≤ 140737488351232) (h0 : 0 ≤ most) (h1 : most ≤ 8192) (h : rdText most s e0 = (x, s', e')) :
    Calls Try.prog 29 #[.pointer (some ⟨g, 0, none⟩), .int .i64 most] w fun e w' => e = .returned (.string x) ∧ Rdr w' g s' e' ∧ Mut (fun b => b = g) w w' := by
  have hc := rd_Text g s e0 most w hr (by omega) (by omega) (by omega)
  rw [h] at hc
  exact hc

theorem val_TakeVars' (g : Nat) (s : ByteArray) (e0 : Nat) (ov : Option (List GVar)) (l : List GVar) (b : Bool) (s' : ByteArray) (e' : Nat) (w : World) (hr : Rdr w g s e0) (hs : s.size ≤ 140737488351232) (h : takeVars s e0 = (ov, s', e')) (hb : ov.isSome = b) (hl : ov.getD [] = l) :
    Calls Try.prog 30 #[.pointer (some ⟨g, 0, none⟩)] w fun e w' => ∃ A c, e = .returned (.tuple #[.slice A l.length c, .bool b]) ∧ Row w' (fun b => w.heap.size ≤ b) 4 l.length (.slice A l.length c) (varCells l) ∧ Rdr w' g s' e' ∧ Mut (fun b => b = g) w w' := by
  refine (val_TakeVars g s e0 w hr hs).mono ?_
  rw [h]
  subst hb hl
  rintro e w' ⟨v, rfl, hrow, hq, hm⟩
  have hrow2 := hrow
  obtain ⟨A, c, rfl, _, _⟩ := hrow2.open_
  exact ⟨A, c, rfl, hrow, hq, hm⟩
theorem rec_May' (r : GRec) (b : Bool) (vv : Value) (S : Nat → Prop) (w : World) (hrow : Row w S 4 r.vars.length vv (varCells r.vars)) (hw : r.wf) (h : recMay r = b) :
    Calls Try.prog 11 #[.agg #[.int .i64 r.cls, .int .i64 r.kind, .int .u64 r.frm, .int .i64 r.time, .int .u64 r.key, .int .u64 r.key2, .int .u64 r.key3, .int .i64 r.n, .int .i64 r.m, .string r.a, .string r.b, .string r.c, vv]] w fun e w' => e = .returned (.bool b) ∧ Below w.heap.size w w' := by
  have hc := rec_May r vv S w hrow hw
  rw [h] at hc
  exact hc
theorem rd_End' (g : Nat) (s : ByteArray) (e0 n : Nat) (w : World) (hr : Rdr w g s e0) (h : rdEnd s e0 = n) :
    Calls Try.prog 31 #[.pointer (some ⟨g, 0, none⟩)] w fun e w' => e = .returned (.int .i64 n) ∧ w = w' := by
  have hc := rd_End g s e0 w hr
  rw [h] at hc
  exact hc

theorem take_start {w W0 W1 W2 : World} {s s2 : ByteArray} {e2 : Nat} (L0 : Below w.heap.size w W0) (R0 : W0.heap[w.heap.size]? = some (.cells #[.int .i64 0, .int .i64 0, .int .u64 0, .int .i64 0, .int .u64 0, .int .u64 0, .int .u64 0, .int .i64 0, .int .i64 0, .string ⟨#[]⟩, .string ⟨#[]⟩, .string ⟨#[]⟩, .slice none 0 0] 25 (0, 0))) (hq0 : Rdr W0 (w.heap.size + 1) s 0) (hm1 : Mut (fun b => b = w.heap.size + 1) W0 W1) (hm2 : Mut (fun b => b = w.heap.size + 1) W1 W2) (hq2 : Rdr W2 (w.heap.size + 1) s2 e2) (cs : Array Value) :
    TakeAt w (W2.alloc (.cells cs 25)) (w.heap.size + 1) w.heap.size W2.heap.size s2 e2 cs := by
  have r1 := hm1.blk R0 (by omega)
  have r2 := hm2.blk r1 (by omega)
  have hg := lt_of_blk hq2
  refine ⟨hq2.alloc _, blk_old _ r2, blk_new _ _ rfl, ?_, Nat.le_refl _, by omega, hg⟩
  have h1 : Below w.heap.size W0 W1 := ⟨hm1.os, hm1.tape, hm1.output, hm1.size, fun k hk => hm1.block k (by have := L0.size; omega) (by omega)⟩
  have h2 : Below w.heap.size W1 W2 := ⟨hm2.os, hm2.tape, hm2.output, hm2.size, fun k hk => hm2.block k (by have := L0.size; have := hm1.size; omega) (by omega)⟩
  exact ((L0.trans h1).trans h2).alloc (by omega) _

theorem row_fin1 {w : World} {B n b2 : Nat} {v : Value} {cs : List Value} (h : Row w (fun b => B ≤ b) 4 n v cs) (hb : b2 < B) (j : Nat) (u : Value) : Row (w.setCell ⟨b2, j, none⟩ u) (fun b => B ≤ b) 4 n v cs :=
  h.mut (mut0 w b2 j u) (fun b _ hS => by intro he; have : B ≤ b := hS; omega)
theorem row_fin {w W : World} {g b2 b5 B n e : Nat} {s : ByteArray} {v : Value} {cs : List Value} {ct : Array Value} (T : TakeAt w W g b2 b5 s e ct) (h : Row W (fun b => B ≤ b) 4 n v cs) (hB : b5 < B) {y0 y1 y2 y3 y4 y5 y6 y7 y8 y9 y10 y11 y12 : Value} : Row (((((((((((((W.setCell ⟨b2, 0, none⟩ y0).setCell ⟨b2, 1, none⟩ y1).setCell ⟨b2, 2, none⟩ y2).setCell ⟨b2, 3, none⟩ y3).setCell ⟨b2, 4, none⟩ y4).setCell ⟨b2, 5, none⟩ y5).setCell ⟨b2, 6, none⟩ y6).setCell ⟨b2, 7, none⟩ y7).setCell ⟨b2, 8, none⟩ y8).setCell ⟨b2, 9, none⟩ y9).setCell ⟨b2, 10, none⟩ y10).setCell ⟨b2, 11, none⟩ y11).setCell ⟨b2, 12, none⟩ y12) (fun b => w.heap.size ≤ b) 4 n v cs := by
  have h2 := T.n2; have hg := T.ng; have h5 := T.n5
  have h0 := row_fin1 (row_fin1 (row_fin1 (row_fin1 (row_fin1 (row_fin1 (row_fin1 (row_fin1 (row_fin1 (row_fin1 (row_fin1 (row_fin1 (row_fin1 h (show b2 < B by omega) 0 y0) (show b2 < B by omega) 1 y1) (show b2 < B by omega) 2 y2) (show b2 < B by omega) 3 y3) (show b2 < B by omega) 4 y4) (show b2 < B by omega) 5 y5) (show b2 < B by omega) 6 y6) (show b2 < B by omega) 7 y7) (show b2 < B by omega) 8 y8) (show b2 < B by omega) 9 y9) (show b2 < B by omega) 10 y10) (show b2 < B by omega) 11 y11) (show b2 < B by omega) 12 y12
  exact h0.weaken (fun b _ hS => by have : B ≤ b := hS; omega)
theorem row_set {w : World} {B n b5 : Nat} {v : Value} {cs : List Value} (h : Row w (fun b => B ≤ b) 4 n v cs) (hb : b5 < B) (u : Value) : Row (w.setCell ⟨b5, 12, none⟩ u) (fun b => B ≤ b) 4 n v cs :=
  h.mut (mut0 w b5 12 u) (fun b _ hS => by intro he; have : B ≤ b := hS; omega)

end Go.Proofs.Ytcfdbdmefdffdaa
