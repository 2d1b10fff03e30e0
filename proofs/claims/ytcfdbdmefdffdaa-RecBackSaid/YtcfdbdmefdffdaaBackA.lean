/-
  The walk of the law RecBack. Printed by genback.py.
-/
import Derived.Test.YtcfdbdmefdffdaaTakeT
import Derived.Test.YtcfdbdmefdffdaaSameC
import Derived.Test.YtcfdbdmefdffdaaRecE
set_option linter.unusedVariables false
set_option linter.unusedSimpArgs false
namespace Go.Proofs.Ytcfdbdmefdffdaa
open Go Go.RowKit Go.Proofs.Base
open Go.Sort (grow)

theorem rec_Take_none (s : ByteArray) (w : World) (hs : okS s) (h : recTake s = none) :
    Calls Try.prog 15 #[.string s] w fun e w' => e = .returned (.tuple #[.agg #[.int .i64 0, .int .i64 0, .int .u64 0, .int .i64 0, .int .u64 0, .int .u64 0, .int .u64 0, .int .i64 0, .int .i64 0, .string ⟨#[]⟩, .string ⟨#[]⟩, .string ⟨#[]⟩, .slice none 0 0], .int .i64 3]) ∧ Below w.heap.size w w' := by
  have hc := rec_Take s w hs
  rw [h] at hc
  exact hc
theorem rec_Take_some (s : ByteArray) (r : GRec) (w : World) (hs : okS s) (h : recTake s = some r) :
    Calls Try.prog 15 #[.string s] w fun e w' => ∃ A c, e = .returned (.tuple #[.agg #[.int .i64 r.cls, .int .i64 r.kind, .int .u64 r.frm, .int .i64 r.time, .int .u64 r.key, .int .u64 r.key2, .int .u64 r.key3, .int .i64 r.n, .int .i64 r.m, .string r.a, .string r.b, .string r.c, .slice A r.vars.length c], .int .i64 0]) ∧ Row w' (fun b => w.heap.size ≤ b) 4 r.vars.length (.slice A r.vars.length c) (varCells r.vars) ∧ Below w.heap.size w w' := by
  have hc := rec_Take s w hs
  rw [h] at hc
  refine hc.mono ?_
  rintro e w' ⟨vv, rfl, hrow, hb⟩
  have h2 := hrow
  obtain ⟨A, c, rfl, _, _⟩ := h2.open_
  exact ⟨A, c, rfl, hrow, hb⟩
theorem recText_rest {r s : GRec} (mr : recMayP r) (ms : recMayP s) {x y : ByteArray} (h : recText r ++ x = recText s ++ y) : x = y := by
  obtain ⟨_, _, _, _, _, _, _, _, _, _, vr, _⟩ := mr
  obtain ⟨_, _, _, _, _, _, _, _, _, _, vs, _⟩ := ms
  rw [recText_flat, recText_flat] at h
  obtain ⟨_, h⟩ := byte_pre (by omega) (by omega) h
  obtain ⟨_, h⟩ := byte_pre (by omega) (by omega) h
  obtain ⟨_, h⟩ := uintB_pre h
  obtain ⟨_, h⟩ := intB_pre h
  obtain ⟨_, h⟩ := uintB_pre h
  obtain ⟨_, h⟩ := uintB_pre h
  obtain ⟨_, h⟩ := uintB_pre h
  obtain ⟨_, h⟩ := intB_pre h
  obtain ⟨_, h⟩ := intB_pre h
  obtain ⟨_, h⟩ := textB_pre h
  obtain ⟨_, h⟩ := textB_pre h
  obtain ⟨_, h⟩ := textB_pre h
  exact (varsB_pre vr vs h).2
/-- more bytes, or less of them, are no record -/
theorem take_more {r : GRec} (hm : recMay r = true) {x : ByteArray} (hx : 0 < x.size) : recTake (recText r ++ x) = none := by
  cases h : recTake (recText r ++ x) with
  | none => rfl
  | some q =>
    obtain ⟨hq, he⟩ := recTake_back h
    have e := recText_rest (r := r) (s := q) (x := x) (y := ByteArray.empty) (of_decide_eq_true hm) (of_decide_eq_true hq) (by rw [he, app_empty])
    rw [e] at hx
    exact absurd hx (by decide)
theorem split_at (s : ByteArray) (i : Nat) : s.extract 0 i ++ s.extract i s.size = s := by
  refine toL_inj ?_
  rw [toL_append]
  show (s.extract 0 i).data.toList ++ (s.extract i s.size).data.toList = s.data.toList
  have hs : s.size = s.data.toList.length := rfl
  rw [ByteArray.data_extract, ByteArray.data_extract, Array.toList_extract, Array.toList_extract, List.extract_eq_take_drop, List.extract_eq_take_drop, hs, List.take_of_length_le (by simp : (List.drop i s.data.toList).length ≤ _), Nat.sub_zero, List.drop_zero, List.take_append_drop]
theorem take_less {r : GRec} (hm : recMay r = true) {i : Nat} (hi : i < (recText r).size) : recTake ((recText r).extract 0 i) = none := by
  cases h : recTake ((recText r).extract 0 i) with
  | none => rfl
  | some q =>
    obtain ⟨hq, he⟩ := recTake_back h
    have e := recText_rest (r := q) (s := r) (x := (recText r).extract i (recText r).size) (y := ByteArray.empty) (of_decide_eq_true hq) (of_decide_eq_true hm) (by rw [← he, split_at, app_empty])
    have e2 := congrArg ByteArray.size e
    rw [ByteArray.size_extract] at e2
    have e3 : ByteArray.empty.size = 0 := rfl
    omega

set_option maxRecDepth 100000 in
set_option maxHeartbeats 8000000 in
theorem recBack_0 (r : GRec) (A1 : Option Addr) (c1 : Nat) (S : Nat → Prop) (i : Int) (w : World) (h1 : Row w S 4 r.vars.length (.slice A1 r.vars.length c1) (varCells r.vars)) (hw1 : r.wf) (hm : recMay r = false) :
    Calls Try.prog 7 #[.agg #[.int .i64 r.cls, .int .i64 r.kind, .int .u64 r.frm, .int .i64 r.time, .int .u64 r.key, .int .u64 r.key2, .int .u64 r.key3, .int .i64 r.n, .int .i64 r.m, .string r.a, .string r.b, .string r.c, .slice A1 r.vars.length c1], .int .i64 i] w fun e w' => e = .returned (.bool true) ∧ Below w.heap.size w w' := by
  have hb : Below w.heap.size w (w.alloc (.cells #[.int .i64 r.cls, .int .i64 r.kind, .int .u64 r.frm, .int .i64 r.time, .int .u64 r.key, .int .u64 r.key2, .int .u64 r.key3, .int .i64 r.n, .int .i64 r.m, .string r.a, .string r.b, .string r.c, .slice A1 r.vars.length c1] 25)) := (Below.refl _ _).alloc (Nat.le_refl _) _
  have H1 := Lib.hid ((h1.below hb).weaken (S' := fun _ => True) (fun _ _ _ => trivial))
  have HB := Lib.hid hb
  have HB1 := Lib.hid (blk_new w (.cells #[.int .i64 r.cls, .int .i64 r.kind, .int .u64 r.frm, .int .i64 r.time, .int .u64 r.key, .int .u64 r.key2, .int .u64 r.key3, .int .i64 r.n, .int .i64 r.m, .string r.a, .string r.b, .string r.c, .slice A1 r.vars.length c1] 25) rfl)
  have hc1 := fun W h => rec_Bytes r (.slice A1 r.vars.length c1) (fun _ => True) W h hw1
  have e1 : recB r = (⟨#[]⟩, 1) := by unfold recB; rw [hm]; rfl
  rw [e1] at hc1
  have HC1 := Lib.hid hc1
  clear hc1 e1 hm hb h1 hw1
  go_enter Try.func7, Try.ntmps7
  go_wp2_with (first | (go_at_call 8; refine (rec_shown _).mono ?_; rintro e w1 ⟨rfl, hb1⟩; have B1 := block_below hb1 HB1.out; have p0 := (cell_of_blk B1 0).trans (rfl : _ = some (Value.int .i64 r.cls)); have p1 := (cell_of_blk B1 1).trans (rfl : _ = some (Value.int .i64 r.kind)); have p2 := (cell_of_blk B1 2).trans (rfl : _ = some (Value.int .u64 r.frm)); have p3 := (cell_of_blk B1 3).trans (rfl : _ = some (Value.int .i64 r.time)); have p4 := (cell_of_blk B1 4).trans (rfl : _ = some (Value.int .u64 r.key)); have p5 := (cell_of_blk B1 5).trans (rfl : _ = some (Value.int .u64 r.key2)); have p6 := (cell_of_blk B1 6).trans (rfl : _ = some (Value.int .u64 r.key3)); have p7 := (cell_of_blk B1 7).trans (rfl : _ = some (Value.int .i64 r.n)); have p8 := (cell_of_blk B1 8).trans (rfl : _ = some (Value.int .i64 r.m)); have p9 := (cell_of_blk B1 9).trans (rfl : _ = some (Value.string r.a)); have p10 := (cell_of_blk B1 10).trans (rfl : _ = some (Value.string r.b)); have p11 := (cell_of_blk B1 11).trans (rfl : _ = some (Value.string r.c)); have p12 := (cell_of_blk B1 12).trans (rfl : _ = some (Value.slice A1 r.vars.length c1)); have HS1 := Lib.hid (below2 HB.out hb1)) | (go_at_call 9; refine (HC1.out _ (H1.out.below hb1)).mono ?_; rintro e w2 ⟨rfl, hb2⟩; have D1 := block_below hb2 B1; clear B1; clear p0 p1 p2 p3 p4 p5 p6 p7 p8 p9 p10 p11 p12; have p0 := (cell_of_blk D1 0).trans (rfl : _ = some (Value.int .i64 r.cls)); have p1 := (cell_of_blk D1 1).trans (rfl : _ = some (Value.int .i64 r.kind)); have p2 := (cell_of_blk D1 2).trans (rfl : _ = some (Value.int .u64 r.frm)); have p3 := (cell_of_blk D1 3).trans (rfl : _ = some (Value.int .i64 r.time)); have p4 := (cell_of_blk D1 4).trans (rfl : _ = some (Value.int .u64 r.key)); have p5 := (cell_of_blk D1 5).trans (rfl : _ = some (Value.int .u64 r.key2)); have p6 := (cell_of_blk D1 6).trans (rfl : _ = some (Value.int .u64 r.key3)); have p7 := (cell_of_blk D1 7).trans (rfl : _ = some (Value.int .i64 r.n)); have p8 := (cell_of_blk D1 8).trans (rfl : _ = some (Value.int .i64 r.m)); have p9 := (cell_of_blk D1 9).trans (rfl : _ = some (Value.string r.a)); have p10 := (cell_of_blk D1 10).trans (rfl : _ = some (Value.string r.b)); have p11 := (cell_of_blk D1 11).trans (rfl : _ = some (Value.string r.c)); have p12 := (cell_of_blk D1 12).trans (rfl : _ = some (Value.slice A1 r.vars.length c1)); have HR2 := Lib.hid ((H1.out.below hb1).below hb2); have HS2 := Lib.hid (below2 HS1.out hb2); clear hb1 hb2 HS1))
  go_ret
  exact ⟨rfl, HS2.out⟩

end Go.Proofs.Ytcfdbdmefdffdaa
