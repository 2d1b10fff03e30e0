/-
  Merged from RTakeD, RTakeE, RTakeF, RTakeT, Eq, Same, EqB, SameB, SameC0, SameC1, SameC2, SameC3, SameC4, SameC5, SameC, RecE, TakesL, Open.
-/
import Derived.Test.YtcfdbdmefdffdaaRTakeC
import Derived.Test.YtcfdbdmefdffdaaValD
import Derived.Laws.StructEq
import Derived.Test.YtcfdbdmefdffdaaGen
import Derived.Test.YtcfdbdmefdffdaaRows
import Derived.Deep.Slices
import Derived.Deep.Fields
import Derived.SizedLaws
import Derived.OpenShut
/-
  The reference's Take of chapter 12: one of the ways of its walk. Printed by gentakeref.py.
-/
set_option linter.unusedVariables false
set_option linter.unusedSimpArgs false
namespace Go.Proofs.Ytcfdbdmefdffdaa
open Go Go.RowKit Go.Proofs.Base
open Go.Sort (grow)
set_option maxRecDepth 100000 in
set_option maxHeartbeats 8000000 in
theorem ref12_Take_b (s : ByteArray) (w : World) (x0 : Nat) (s1 : ByteArray) (e1 : Nat) (x1 : Nat) (s2 : ByteArray) (e2 : Nat) (x2 : Nat) (s3 : ByteArray) (e3 : Nat) (x3 : Int) (s4 : ByteArray) (e4 : Nat) (x4 : Nat) (s5 : ByteArray) (e5 : Nat) (x5 : Nat) (s6 : ByteArray) (e6 : Nat) (x6 : Nat) (s7 : ByteArray) (e7 : Nat) (x7 : Int) (s8 : ByteArray) (e8 : Nat) (x8 : Int) (s9 : ByteArray) (e9 : Nat) (x9 : ByteArray) (s10 : ByteArray) (e10 : Nat) (x10 : ByteArray) (s11 : ByteArray) (e11 : Nat) (x11 : ByteArray) (s12 : ByteArray) (e12 : Nat) (l : List GVar) (s13 : ByteArray) (e13 : Nat) (hs : s.size ≤ 140737488351232) (hx0 : (x0 : Int) ≤ 255) (hx1 : (x1 : Int) ≤ 255) (h0 : rdByte s 0 = (x0, s1, e1)) (h1 : rdByte s1 e1 = (x1, s2, e2)) (h2 : rdUint s2 e2 = (x2, s3, e3)) (h3 : rdInt s3 e3 = (x3, s4, e4)) (h4 : rdUint s4 e4 = (x4, s5, e5)) (h5 : rdUint s5 e5 = (x5, s6, e6)) (h6 : rdUint s6 e6 = (x6, s7, e7)) (h7 : rdInt s7 e7 = (x7, s8, e8)) (h8 : rdInt s8 e8 = (x8, s9, e9)) (h9 : rdText 8192 s9 e9 = (x9, s10, e10)) (h10 : rdText 8192 s10 e10 = (x10, s11, e11)) (h11 : rdText 32 s11 e11 = (x11, s12, e12)) (hz1 : s1.size ≤ 140737488351232) (hz2 : s2.size ≤ 140737488351232) (hz3 : s3.size ≤ 140737488351232) (hz4 : s4.size ≤ 140737488351232) (hz5 : s5.size ≤ 140737488351232) (hz6 : s6.size ≤ 140737488351232) (hz7 : s7.size ≤ 140737488351232) (hz8 : s8.size ≤ 140737488351232) (hz9 : s9.size ≤ 140737488351232) (hz10 : s10.size ≤ 140737488351232) (hz11 : s11.size ≤ 140737488351232) (hz12 : s12.size ≤ 140737488351232) (h12 : takeVars s12 e12 = (some l, s13, e13)) (en : Nat) (h13 : rdEnd s13 e13 = en) (hen : en ≠ 0) (MB : Bool) (hwf : (⟨(x0 : Int), (x1 : Int), (x2 : Int), x3, (x4 : Int), (x5 : Int), (x6 : Int), x7, x8, x9, x10, x11, l⟩ : GRec).wf) (hM : recMay ⟨(x0 : Int), (x1 : Int), (x2 : Int), x3, (x4 : Int), (x5 : Int), (x6 : Int), x7, x8, x9, x10, x11, l⟩ = MB) (hz13 : s13.size ≤ 140737488351232) :
    Calls Try.prog 16 #[.string s] w fun e w' => e = .returned (.tuple #[.agg #[.int .i64 0, .int .i64 0, .int .u64 0, .int .i64 0, .int .u64 0, .int .u64 0, .int .u64 0, .int .i64 0, .int .i64 0, .string ⟨#[]⟩, .string ⟨#[]⟩, .string ⟨#[]⟩, .slice none 0 0], .int .i64 3]) ∧ Below w.heap.size w w' := by
  have HZ0 := Lib.hid hs
  have HZ1 := Lib.hid hz1
  have HZ2 := Lib.hid hz2
  have HZ3 := Lib.hid hz3
  have HZ4 := Lib.hid hz4
  have HZ5 := Lib.hid hz5
  have HZ6 := Lib.hid hz6
  have HZ7 := Lib.hid hz7
  have HZ8 := Lib.hid hz8
  have HZ9 := Lib.hid hz9
  have HZ10 := Lib.hid hz10
  have HZ11 := Lib.hid hz11
  have HZ12 := Lib.hid hz12
  have H0 := Lib.hid h0
  have H1 := Lib.hid h1
  have H2 := Lib.hid h2
  have H3 := Lib.hid h3
  have H4 := Lib.hid h4
  have H5 := Lib.hid h5
  have H6 := Lib.hid h6
  have H7 := Lib.hid h7
  have H8 := Lib.hid h8
  have H9 := Lib.hid h9
  have H10 := Lib.hid h10
  have H11 := Lib.hid h11
  have H12 := Lib.hid h12
  clear hs hz1 hz2 hz3 hz4 hz5 hz6 hz7 hz8 hz9 hz10 hz11 hz12 h0 h1 h2 h3 h4 h5 h6 h7 h8 h9 h10 h11 h12
  have H13 := Lib.hid h13
  have g13 := bne_t (a := (en : Int)) (b := 0) (by omega)
  clear h13 hen
  have HWF := Lib.hid hwf
  have HM := Lib.hid hM
  clear hwf hM
  have HZ13 := Lib.hid hz13
  clear hz13
  have n5a : w.heap.size ≠ w.heap.size + 1 + 1 := (by omega)
  have n5b : w.heap.size + 1 + 1 ≠ w.heap.size := (by omega)
  go_enter Try.func16, Try.ntmps16
  go_wp2_with (first | (go_at_call 32; refine (rrd_Byte (w.heap.size + 1) s 0 x0 s1 e1 _ (rtake_start s w).rdr HZ0.out H0.out).mono ?_; rintro e W1 ⟨rfl, hq, hm⟩; have T1 : Hid (RTakeAt w W1 (w.heap.size + 1) w.heap.size (w.heap.size + 1 + 1) s1 e1 #[.int .i64 0, .int .i64 0, .int .u64 0, .int .i64 0, .int .u64 0, .int .u64 0, .int .u64 0, .int .i64 0, .int .i64 0, .string ⟨#[]⟩, .string ⟨#[]⟩, .string ⟨#[]⟩, .slice none 0 0]) := Lib.hid ((rtake_start s w).call hq hm); clear hq hm; have bb := T1.out.rcd; have c0 := (cell_of_blk bb 0).trans (rfl : _ = some (Value.int .i64 0)); have f0 := frozen_of_blk bb 0; clear bb) | (go_at_call 32; refine (rrd_Byte (w.heap.size + 1) s1 e1 x1 s2 e2 _ (T1.out.set 0 (.int .i64 (x0 : Int))).rdr HZ1.out H1.out).mono ?_; rintro e W2 ⟨rfl, hq, hm⟩; have T2 : Hid (RTakeAt w W2 (w.heap.size + 1) w.heap.size (w.heap.size + 1 + 1) s2 e2 #[.int .i64 (x0 : Int), .int .i64 0, .int .u64 0, .int .i64 0, .int .u64 0, .int .u64 0, .int .u64 0, .int .i64 0, .int .i64 0, .string ⟨#[]⟩, .string ⟨#[]⟩, .string ⟨#[]⟩, .slice none 0 0]) := Lib.hid ((T1.out.set 0 (.int .i64 (x0 : Int))).call hq hm); clear hq hm T1 c0 f0; have bb := T2.out.rcd; have c1 := (cell_of_blk bb 1).trans (rfl : _ = some (Value.int .i64 0)); have f1 := frozen_of_blk bb 1; clear bb) | (go_at_call 33; refine (rrd_Uint (w.heap.size + 1) s2 e2 x2 s3 e3 _ (T2.out.set 1 (.int .i64 (x1 : Int))).rdr HZ2.out H2.out).mono ?_; rintro e W3 ⟨rfl, hq, hm⟩; have T3 : Hid (RTakeAt w W3 (w.heap.size + 1) w.heap.size (w.heap.size + 1 + 1) s3 e3 #[.int .i64 (x0 : Int), .int .i64 (x1 : Int), .int .u64 0, .int .i64 0, .int .u64 0, .int .u64 0, .int .u64 0, .int .i64 0, .int .i64 0, .string ⟨#[]⟩, .string ⟨#[]⟩, .string ⟨#[]⟩, .slice none 0 0]) := Lib.hid ((T2.out.set 1 (.int .i64 (x1 : Int))).call hq hm); clear hq hm T2 c1 f1; have bb := T3.out.rcd; have c2 := (cell_of_blk bb 2).trans (rfl : _ = some (Value.int .u64 0)); have f2 := frozen_of_blk bb 2; clear bb) | (go_at_call 34; refine (rrd_Int (w.heap.size + 1) s3 e3 x3 s4 e4 _ (T3.out.set 2 (.int .u64 (x2 : Int))).rdr HZ3.out H3.out).mono ?_; rintro e W4 ⟨rfl, hq, hm⟩; have T4 : Hid (RTakeAt w W4 (w.heap.size + 1) w.heap.size (w.heap.size + 1 + 1) s4 e4 #[.int .i64 (x0 : Int), .int .i64 (x1 : Int), .int .u64 (x2 : Int), .int .i64 0, .int .u64 0, .int .u64 0, .int .u64 0, .int .i64 0, .int .i64 0, .string ⟨#[]⟩, .string ⟨#[]⟩, .string ⟨#[]⟩, .slice none 0 0]) := Lib.hid ((T3.out.set 2 (.int .u64 (x2 : Int))).call hq hm); clear hq hm T3 c2 f2; have bb := T4.out.rcd; have c3 := (cell_of_blk bb 3).trans (rfl : _ = some (Value.int .i64 0)); have f3 := frozen_of_blk bb 3; clear bb) | (go_at_call 33; refine (rrd_Uint (w.heap.size + 1) s4 e4 x4 s5 e5 _ (T4.out.set 3 (.int .i64 x3)).rdr HZ4.out H4.out).mono ?_; rintro e W5 ⟨rfl, hq, hm⟩; have T5 : Hid (RTakeAt w W5 (w.heap.size + 1) w.heap.size (w.heap.size + 1 + 1) s5 e5 #[.int .i64 (x0 : Int), .int .i64 (x1 : Int), .int .u64 (x2 : Int), .int .i64 x3, .int .u64 0, .int .u64 0, .int .u64 0, .int .i64 0, .int .i64 0, .string ⟨#[]⟩, .string ⟨#[]⟩, .string ⟨#[]⟩, .slice none 0 0]) := Lib.hid ((T4.out.set 3 (.int .i64 x3)).call hq hm); clear hq hm T4 c3 f3; have bb := T5.out.rcd; have c4 := (cell_of_blk bb 4).trans (rfl : _ = some (Value.int .u64 0)); have f4 := frozen_of_blk bb 4; clear bb) | (go_at_call 33; refine (rrd_Uint (w.heap.size + 1) s5 e5 x5 s6 e6 _ (T5.out.set 4 (.int .u64 (x4 : Int))).rdr HZ5.out H5.out).mono ?_; rintro e W6 ⟨rfl, hq, hm⟩; have T6 : Hid (RTakeAt w W6 (w.heap.size + 1) w.heap.size (w.heap.size + 1 + 1) s6 e6 #[.int .i64 (x0 : Int), .int .i64 (x1 : Int), .int .u64 (x2 : Int), .int .i64 x3, .int .u64 (x4 : Int), .int .u64 0, .int .u64 0, .int .i64 0, .int .i64 0, .string ⟨#[]⟩, .string ⟨#[]⟩, .string ⟨#[]⟩, .slice none 0 0]) := Lib.hid ((T5.out.set 4 (.int .u64 (x4 : Int))).call hq hm); clear hq hm T5 c4 f4; have bb := T6.out.rcd; have c5 := (cell_of_blk bb 5).trans (rfl : _ = some (Value.int .u64 0)); have f5 := frozen_of_blk bb 5; clear bb) | (go_at_call 33; refine (rrd_Uint (w.heap.size + 1) s6 e6 x6 s7 e7 _ (T6.out.set 5 (.int .u64 (x5 : Int))).rdr HZ6.out H6.out).mono ?_; rintro e W7 ⟨rfl, hq, hm⟩; have T7 : Hid (RTakeAt w W7 (w.heap.size + 1) w.heap.size (w.heap.size + 1 + 1) s7 e7 #[.int .i64 (x0 : Int), .int .i64 (x1 : Int), .int .u64 (x2 : Int), .int .i64 x3, .int .u64 (x4 : Int), .int .u64 (x5 : Int), .int .u64 0, .int .i64 0, .int .i64 0, .string ⟨#[]⟩, .string ⟨#[]⟩, .string ⟨#[]⟩, .slice none 0 0]) := Lib.hid ((T6.out.set 5 (.int .u64 (x5 : Int))).call hq hm); clear hq hm T6 c5 f5; have bb := T7.out.rcd; have c6 := (cell_of_blk bb 6).trans (rfl : _ = some (Value.int .u64 0)); have f6 := frozen_of_blk bb 6; clear bb) | (go_at_call 34; refine (rrd_Int (w.heap.size + 1) s7 e7 x7 s8 e8 _ (T7.out.set 6 (.int .u64 (x6 : Int))).rdr HZ7.out H7.out).mono ?_; rintro e W8 ⟨rfl, hq, hm⟩; have T8 : Hid (RTakeAt w W8 (w.heap.size + 1) w.heap.size (w.heap.size + 1 + 1) s8 e8 #[.int .i64 (x0 : Int), .int .i64 (x1 : Int), .int .u64 (x2 : Int), .int .i64 x3, .int .u64 (x4 : Int), .int .u64 (x5 : Int), .int .u64 (x6 : Int), .int .i64 0, .int .i64 0, .string ⟨#[]⟩, .string ⟨#[]⟩, .string ⟨#[]⟩, .slice none 0 0]) := Lib.hid ((T7.out.set 6 (.int .u64 (x6 : Int))).call hq hm); clear hq hm T7 c6 f6; have bb := T8.out.rcd; have c7 := (cell_of_blk bb 7).trans (rfl : _ = some (Value.int .i64 0)); have f7 := frozen_of_blk bb 7; clear bb) | (go_at_call 34; refine (rrd_Int (w.heap.size + 1) s8 e8 x8 s9 e9 _ (T8.out.set 7 (.int .i64 x7)).rdr HZ8.out H8.out).mono ?_; rintro e W9 ⟨rfl, hq, hm⟩; have T9 : Hid (RTakeAt w W9 (w.heap.size + 1) w.heap.size (w.heap.size + 1 + 1) s9 e9 #[.int .i64 (x0 : Int), .int .i64 (x1 : Int), .int .u64 (x2 : Int), .int .i64 x3, .int .u64 (x4 : Int), .int .u64 (x5 : Int), .int .u64 (x6 : Int), .int .i64 x7, .int .i64 0, .string ⟨#[]⟩, .string ⟨#[]⟩, .string ⟨#[]⟩, .slice none 0 0]) := Lib.hid ((T8.out.set 7 (.int .i64 x7)).call hq hm); clear hq hm T8 c7 f7; have bb := T9.out.rcd; have c8 := (cell_of_blk bb 8).trans (rfl : _ = some (Value.int .i64 0)); have f8 := frozen_of_blk bb 8; clear bb) | (go_at_call 35; refine (rrd_Text (w.heap.size + 1) s9 e9 8192 x9 s10 e10 _ (T9.out.set 8 (.int .i64 x8)).rdr HZ9.out (by decide) (by decide) H9.out).mono ?_; rintro e W10 ⟨rfl, hq, hm⟩; have T10 : Hid (RTakeAt w W10 (w.heap.size + 1) w.heap.size (w.heap.size + 1 + 1) s10 e10 #[.int .i64 (x0 : Int), .int .i64 (x1 : Int), .int .u64 (x2 : Int), .int .i64 x3, .int .u64 (x4 : Int), .int .u64 (x5 : Int), .int .u64 (x6 : Int), .int .i64 x7, .int .i64 x8, .string ⟨#[]⟩, .string ⟨#[]⟩, .string ⟨#[]⟩, .slice none 0 0]) := Lib.hid ((T9.out.set 8 (.int .i64 x8)).call hq hm); clear hq hm T9 c8 f8; have bb := T10.out.rcd; have c9 := (cell_of_blk bb 9).trans (rfl : _ = some (Value.string ⟨#[]⟩)); have f9 := frozen_of_blk bb 9; clear bb) | (go_at_call 35; refine (rrd_Text (w.heap.size + 1) s10 e10 8192 x10 s11 e11 _ (T10.out.set 9 (.string x9)).rdr HZ10.out (by decide) (by decide) H10.out).mono ?_; rintro e W11 ⟨rfl, hq, hm⟩; have T11 : Hid (RTakeAt w W11 (w.heap.size + 1) w.heap.size (w.heap.size + 1 + 1) s11 e11 #[.int .i64 (x0 : Int), .int .i64 (x1 : Int), .int .u64 (x2 : Int), .int .i64 x3, .int .u64 (x4 : Int), .int .u64 (x5 : Int), .int .u64 (x6 : Int), .int .i64 x7, .int .i64 x8, .string x9, .string ⟨#[]⟩, .string ⟨#[]⟩, .slice none 0 0]) := Lib.hid ((T10.out.set 9 (.string x9)).call hq hm); clear hq hm T10 c9 f9; have bb := T11.out.rcd; have c10 := (cell_of_blk bb 10).trans (rfl : _ = some (Value.string ⟨#[]⟩)); have f10 := frozen_of_blk bb 10; clear bb) | (go_at_call 35; refine (rrd_Text (w.heap.size + 1) s11 e11 32 x11 s12 e12 _ (T11.out.set 10 (.string x10)).rdr HZ11.out (by decide) (by decide) H11.out).mono ?_; rintro e W12 ⟨rfl, hq, hm⟩; have T12 : Hid (RTakeAt w W12 (w.heap.size + 1) w.heap.size (w.heap.size + 1 + 1) s12 e12 #[.int .i64 (x0 : Int), .int .i64 (x1 : Int), .int .u64 (x2 : Int), .int .i64 x3, .int .u64 (x4 : Int), .int .u64 (x5 : Int), .int .u64 (x6 : Int), .int .i64 x7, .int .i64 x8, .string x9, .string x10, .string ⟨#[]⟩, .slice none 0 0]) := Lib.hid ((T11.out.set 10 (.string x10)).call hq hm); clear hq hm T11 c10 f10; have bb := T12.out.rcd; have c11 := (cell_of_blk bb 11).trans (rfl : _ = some (Value.string ⟨#[]⟩)); have f11 := frozen_of_blk bb 11; clear bb) | (go_at_call 36; refine (rTakeVars (w.heap.size + 1) s12 e12 (some l) (l) true s13 e13 _ (T12.out.set 11 (.string x11)).rdr HZ12.out H12.out rfl rfl).mono ?_; rintro e W13 ⟨A, c, rfl, hrow, hq, hm⟩; have T13 : Hid (RTakeAt w W13 (w.heap.size + 1) w.heap.size (w.heap.size + 1 + 1) s13 e13 #[.int .i64 (x0 : Int), .int .i64 (x1 : Int), .int .u64 (x2 : Int), .int .i64 x3, .int .u64 (x4 : Int), .int .u64 (x5 : Int), .int .u64 (x6 : Int), .int .i64 x7, .int .i64 x8, .string x9, .string x10, .string x11, .slice none 0 0]) := Lib.hid ((T12.out.set 11 (.string x11)).call hq hm); have hlt := lt_of_blk (T12.out.set 11 (.string x11)).rcd; have HLT := Lib.hid hlt; have HR13 := Lib.hid (row_set (w := W13) hrow hlt (.slice A (l).length c)); clear hq hm hrow hlt T12 c11 f11; have bb := T13.out.rcd; have d0 := (cell_of_blk bb 0).trans (rfl : _ = some (Value.int .i64 (x0 : Int))); have d1 := (cell_of_blk bb 1).trans (rfl : _ = some (Value.int .i64 (x1 : Int))); have d2 := (cell_of_blk bb 2).trans (rfl : _ = some (Value.int .u64 (x2 : Int))); have d3 := (cell_of_blk bb 3).trans (rfl : _ = some (Value.int .i64 x3)); have d4 := (cell_of_blk bb 4).trans (rfl : _ = some (Value.int .u64 (x4 : Int))); have d5 := (cell_of_blk bb 5).trans (rfl : _ = some (Value.int .u64 (x5 : Int))); have d6 := (cell_of_blk bb 6).trans (rfl : _ = some (Value.int .u64 (x6 : Int))); have d7 := (cell_of_blk bb 7).trans (rfl : _ = some (Value.int .i64 x7)); have d8 := (cell_of_blk bb 8).trans (rfl : _ = some (Value.int .i64 x8)); have d9 := (cell_of_blk bb 9).trans (rfl : _ = some (Value.string x9)); have d10 := (cell_of_blk bb 10).trans (rfl : _ = some (Value.string x10)); have d11 := (cell_of_blk bb 11).trans (rfl : _ = some (Value.string x11)); have d12 := (cell_of_blk bb 12).trans (rfl : _ = some (Value.slice none 0 0)); have df12 := frozen_of_blk bb 12; clear bb) | (go_at_call 12; refine (rMay ⟨(x0 : Int), (x1 : Int), (x2 : Int), x3, (x4 : Int), (x5 : Int), (x6 : Int), x7, x8, x9, x10, x11, l⟩ MB (.slice A (l).length c) _ _ HR13.out HWF.out HM.out).mono ?_; rintro e W15 ⟨rfl, hb15⟩; have T15 := Lib.hid (((T13.out.set 12 (.slice A (l).length c)).below hb15) : RTakeAt w W15 (w.heap.size + 1) w.heap.size (w.heap.size + 1 + 1) s13 e13 #[.int .i64 (x0 : Int), .int .i64 (x1 : Int), .int .u64 (x2 : Int), .int .i64 x3, .int .u64 (x4 : Int), .int .u64 (x5 : Int), .int .u64 (x6 : Int), .int .i64 x7, .int .i64 x8, .string x9, .string x10, .string x11, .slice A (l).length c]); have HR15 := Lib.hid (HR13.out.below hb15); clear hb15 d0 d1 d2 d3 d4 d5 d6 d7 d8 d9 d10 d11 d12 df12; have bb := T15.out.rcd; have d0 := (cell_of_blk bb 0).trans (rfl : _ = some (Value.int .i64 (x0 : Int))); have d1 := (cell_of_blk bb 1).trans (rfl : _ = some (Value.int .i64 (x1 : Int))); have d2 := (cell_of_blk bb 2).trans (rfl : _ = some (Value.int .u64 (x2 : Int))); have d3 := (cell_of_blk bb 3).trans (rfl : _ = some (Value.int .i64 x3)); have d4 := (cell_of_blk bb 4).trans (rfl : _ = some (Value.int .u64 (x4 : Int))); have d5 := (cell_of_blk bb 5).trans (rfl : _ = some (Value.int .u64 (x5 : Int))); have d6 := (cell_of_blk bb 6).trans (rfl : _ = some (Value.int .u64 (x6 : Int))); have d7 := (cell_of_blk bb 7).trans (rfl : _ = some (Value.int .i64 x7)); have d8 := (cell_of_blk bb 8).trans (rfl : _ = some (Value.int .i64 x8)); have d9 := (cell_of_blk bb 9).trans (rfl : _ = some (Value.string x9)); have d10 := (cell_of_blk bb 10).trans (rfl : _ = some (Value.string x10)); have d11 := (cell_of_blk bb 11).trans (rfl : _ = some (Value.string x11)); have d12 := (cell_of_blk bb 12).trans (rfl : _ = some (Value.slice A (l).length c)); have br := T15.out.res; have z0 := (cell_of_blk br 0).trans (rfl : _ = some (Value.int .i64 0)); have z1 := (cell_of_blk br 1).trans (rfl : _ = some (Value.int .i64 0)); have z2 := (cell_of_blk br 2).trans (rfl : _ = some (Value.int .u64 0)); have z3 := (cell_of_blk br 3).trans (rfl : _ = some (Value.int .i64 0)); have z4 := (cell_of_blk br 4).trans (rfl : _ = some (Value.int .u64 0)); have z5 := (cell_of_blk br 5).trans (rfl : _ = some (Value.int .u64 0)); have z6 := (cell_of_blk br 6).trans (rfl : _ = some (Value.int .u64 0)); have z7 := (cell_of_blk br 7).trans (rfl : _ = some (Value.int .i64 0)); have z8 := (cell_of_blk br 8).trans (rfl : _ = some (Value.int .i64 0)); have z9 := (cell_of_blk br 9).trans (rfl : _ = some (Value.string ⟨#[]⟩)); have z10 := (cell_of_blk br 10).trans (rfl : _ = some (Value.string ⟨#[]⟩)); have z11 := (cell_of_blk br 11).trans (rfl : _ = some (Value.string ⟨#[]⟩)); have z12 := (cell_of_blk br 12).trans (rfl : _ = some (Value.slice none 0 0)); have zf0 := frozen_of_blk br 0; have zf1 := frozen_of_blk br 1; have zf2 := frozen_of_blk br 2; have zf3 := frozen_of_blk br 3; have zf4 := frozen_of_blk br 4; have zf5 := frozen_of_blk br 5; have zf6 := frozen_of_blk br 6; have zf7 := frozen_of_blk br 7; have zf8 := frozen_of_blk br 8; have zf9 := frozen_of_blk br 9; have zf10 := frozen_of_blk br 10; have zf11 := frozen_of_blk br 11; have zf12 := frozen_of_blk br 12; clear bb br) | (go_at_call 37; refine (rrd_End (w.heap.size + 1) s13 e13 en _ T15.out.rdr HZ13.out H13.out).mono ?_; rintro e w' ⟨rfl, rfl⟩))
  have hfin := set_blk13 T15.out.res (.int .i64 0) (.int .i64 0) (.int .u64 0) (.int .i64 0) (.int .u64 0) (.int .u64 0) (.int .u64 0) (.int .i64 0) (.int .i64 0) (.string ⟨#[]⟩) (.string ⟨#[]⟩) (.string ⟨#[]⟩) (.slice none 0 0)
  have hbel := (((((((((((((T15.out.low.setCell (p := ⟨w.heap.size, 0, none⟩) (Nat.le_refl _) (.int .i64 0)).setCell (p := ⟨w.heap.size, 1, none⟩) (Nat.le_refl _) (.int .i64 0)).setCell (p := ⟨w.heap.size, 2, none⟩) (Nat.le_refl _) (.int .u64 0)).setCell (p := ⟨w.heap.size, 3, none⟩) (Nat.le_refl _) (.int .i64 0)).setCell (p := ⟨w.heap.size, 4, none⟩) (Nat.le_refl _) (.int .u64 0)).setCell (p := ⟨w.heap.size, 5, none⟩) (Nat.le_refl _) (.int .u64 0)).setCell (p := ⟨w.heap.size, 6, none⟩) (Nat.le_refl _) (.int .u64 0)).setCell (p := ⟨w.heap.size, 7, none⟩) (Nat.le_refl _) (.int .i64 0)).setCell (p := ⟨w.heap.size, 8, none⟩) (Nat.le_refl _) (.int .i64 0)).setCell (p := ⟨w.heap.size, 9, none⟩) (Nat.le_refl _) (.string ⟨#[]⟩)).setCell (p := ⟨w.heap.size, 10, none⟩) (Nat.le_refl _) (.string ⟨#[]⟩)).setCell (p := ⟨w.heap.size, 11, none⟩) (Nat.le_refl _) (.string ⟨#[]⟩)).setCell (p := ⟨w.heap.size, 12, none⟩) (Nat.le_refl _) (.slice none 0 0))
  generalize (((((((((((((W15.setCell ⟨w.heap.size, 0, none⟩ (.int .i64 0)).setCell ⟨w.heap.size, 1, none⟩ (.int .i64 0)).setCell ⟨w.heap.size, 2, none⟩ (.int .u64 0)).setCell ⟨w.heap.size, 3, none⟩ (.int .i64 0)).setCell ⟨w.heap.size, 4, none⟩ (.int .u64 0)).setCell ⟨w.heap.size, 5, none⟩ (.int .u64 0)).setCell ⟨w.heap.size, 6, none⟩ (.int .u64 0)).setCell ⟨w.heap.size, 7, none⟩ (.int .i64 0)).setCell ⟨w.heap.size, 8, none⟩ (.int .i64 0)).setCell ⟨w.heap.size, 9, none⟩ (.string ⟨#[]⟩)).setCell ⟨w.heap.size, 10, none⟩ (.string ⟨#[]⟩)).setCell ⟨w.heap.size, 11, none⟩ (.string ⟨#[]⟩)).setCell ⟨w.heap.size, 12, none⟩ (.slice none 0 0)) = Fw at *
  have r0 := (cell_of_blk hfin 0).trans (rfl : _ = some (Value.int .i64 0))
  have r1 := (cell_of_blk hfin 1).trans (rfl : _ = some (Value.int .i64 0))
  have r2 := (cell_of_blk hfin 2).trans (rfl : _ = some (Value.int .u64 0))
  have r3 := (cell_of_blk hfin 3).trans (rfl : _ = some (Value.int .i64 0))
  have r4 := (cell_of_blk hfin 4).trans (rfl : _ = some (Value.int .u64 0))
  have r5 := (cell_of_blk hfin 5).trans (rfl : _ = some (Value.int .u64 0))
  have r6 := (cell_of_blk hfin 6).trans (rfl : _ = some (Value.int .u64 0))
  have r7 := (cell_of_blk hfin 7).trans (rfl : _ = some (Value.int .i64 0))
  have r8 := (cell_of_blk hfin 8).trans (rfl : _ = some (Value.int .i64 0))
  have r9 := (cell_of_blk hfin 9).trans (rfl : _ = some (Value.string ⟨#[]⟩))
  have r10 := (cell_of_blk hfin 10).trans (rfl : _ = some (Value.string ⟨#[]⟩))
  have r11 := (cell_of_blk hfin 11).trans (rfl : _ = some (Value.string ⟨#[]⟩))
  have r12 := (cell_of_blk hfin 12).trans (rfl : _ = some (Value.slice none 0 0))
  clear hfin
  refine bodyPost_ret (v := .tuple #[.agg #[.int .i64 0, .int .i64 0, .int .u64 0, .int .i64 0, .int .u64 0, .int .u64 0, .int .u64 0, .int .i64 0, .int .i64 0, .string ⟨#[]⟩, .string ⟨#[]⟩, .string ⟨#[]⟩, .slice none 0 0], .int .i64 3]) (by simp [results, Try.results16, go_sem, r0, r1, r2, r3, r4, r5, r6, r7, r8, r9, r10, r11, r12]) rfl ?_
  exact ⟨rfl, hbel⟩
end Go.Proofs.Ytcfdbdmefdffdaa
/-
  The reference's Take of chapter 12: one of the ways of its walk. Printed by gentakeref.py.
-/
set_option linter.unusedVariables false
set_option linter.unusedSimpArgs false
namespace Go.Proofs.Ytcfdbdmefdffdaa
open Go Go.RowKit Go.Proofs.Base
open Go.Sort (grow)
set_option maxRecDepth 100000 in
set_option maxHeartbeats 8000000 in
theorem ref12_Take_c (s : ByteArray) (w : World) (x0 : Nat) (s1 : ByteArray) (e1 : Nat) (x1 : Nat) (s2 : ByteArray) (e2 : Nat) (x2 : Nat) (s3 : ByteArray) (e3 : Nat) (x3 : Int) (s4 : ByteArray) (e4 : Nat) (x4 : Nat) (s5 : ByteArray) (e5 : Nat) (x5 : Nat) (s6 : ByteArray) (e6 : Nat) (x6 : Nat) (s7 : ByteArray) (e7 : Nat) (x7 : Int) (s8 : ByteArray) (e8 : Nat) (x8 : Int) (s9 : ByteArray) (e9 : Nat) (x9 : ByteArray) (s10 : ByteArray) (e10 : Nat) (x10 : ByteArray) (s11 : ByteArray) (e11 : Nat) (x11 : ByteArray) (s12 : ByteArray) (e12 : Nat) (l : List GVar) (s13 : ByteArray) (e13 : Nat) (hs : s.size ≤ 140737488351232) (hx0 : (x0 : Int) ≤ 255) (hx1 : (x1 : Int) ≤ 255) (h0 : rdByte s 0 = (x0, s1, e1)) (h1 : rdByte s1 e1 = (x1, s2, e2)) (h2 : rdUint s2 e2 = (x2, s3, e3)) (h3 : rdInt s3 e3 = (x3, s4, e4)) (h4 : rdUint s4 e4 = (x4, s5, e5)) (h5 : rdUint s5 e5 = (x5, s6, e6)) (h6 : rdUint s6 e6 = (x6, s7, e7)) (h7 : rdInt s7 e7 = (x7, s8, e8)) (h8 : rdInt s8 e8 = (x8, s9, e9)) (h9 : rdText 8192 s9 e9 = (x9, s10, e10)) (h10 : rdText 8192 s10 e10 = (x10, s11, e11)) (h11 : rdText 32 s11 e11 = (x11, s12, e12)) (hz1 : s1.size ≤ 140737488351232) (hz2 : s2.size ≤ 140737488351232) (hz3 : s3.size ≤ 140737488351232) (hz4 : s4.size ≤ 140737488351232) (hz5 : s5.size ≤ 140737488351232) (hz6 : s6.size ≤ 140737488351232) (hz7 : s7.size ≤ 140737488351232) (hz8 : s8.size ≤ 140737488351232) (hz9 : s9.size ≤ 140737488351232) (hz10 : s10.size ≤ 140737488351232) (hz11 : s11.size ≤ 140737488351232) (hz12 : s12.size ≤ 140737488351232) (h12 : takeVars s12 e12 = (some l, s13, e13)) (h13 : rdEnd s13 e13 = 0) (hwf : (⟨(x0 : Int), (x1 : Int), (x2 : Int), x3, (x4 : Int), (x5 : Int), (x6 : Int), x7, x8, x9, x10, x11, l⟩ : GRec).wf) (hM : recMay ⟨(x0 : Int), (x1 : Int), (x2 : Int), x3, (x4 : Int), (x5 : Int), (x6 : Int), x7, x8, x9, x10, x11, l⟩ = false) (hz13 : s13.size ≤ 140737488351232) :
    Calls Try.prog 16 #[.string s] w fun e w' => e = .returned (.tuple #[.agg #[.int .i64 0, .int .i64 0, .int .u64 0, .int .i64 0, .int .u64 0, .int .u64 0, .int .u64 0, .int .i64 0, .int .i64 0, .string ⟨#[]⟩, .string ⟨#[]⟩, .string ⟨#[]⟩, .slice none 0 0], .int .i64 3]) ∧ Below w.heap.size w w' := by
  have HZ0 := Lib.hid hs
  have HZ1 := Lib.hid hz1
  have HZ2 := Lib.hid hz2
  have HZ3 := Lib.hid hz3
  have HZ4 := Lib.hid hz4
  have HZ5 := Lib.hid hz5
  have HZ6 := Lib.hid hz6
  have HZ7 := Lib.hid hz7
  have HZ8 := Lib.hid hz8
  have HZ9 := Lib.hid hz9
  have HZ10 := Lib.hid hz10
  have HZ11 := Lib.hid hz11
  have HZ12 := Lib.hid hz12
  have H0 := Lib.hid h0
  have H1 := Lib.hid h1
  have H2 := Lib.hid h2
  have H3 := Lib.hid h3
  have H4 := Lib.hid h4
  have H5 := Lib.hid h5
  have H6 := Lib.hid h6
  have H7 := Lib.hid h7
  have H8 := Lib.hid h8
  have H9 := Lib.hid h9
  have H10 := Lib.hid h10
  have H11 := Lib.hid h11
  have H12 := Lib.hid h12
  clear hs hz1 hz2 hz3 hz4 hz5 hz6 hz7 hz8 hz9 hz10 hz11 hz12 h0 h1 h2 h3 h4 h5 h6 h7 h8 h9 h10 h11 h12
  have H13 := Lib.hid h13
  have HWF := Lib.hid hwf
  have HM := Lib.hid hM
  clear h13 hwf hM
  have HZ13 := Lib.hid hz13
  clear hz13
  have n5a : w.heap.size ≠ w.heap.size + 1 + 1 := (by omega)
  have n5b : w.heap.size + 1 + 1 ≠ w.heap.size := (by omega)
  go_enter Try.func16, Try.ntmps16
  go_wp2_with (first | (go_at_call 32; refine (rrd_Byte (w.heap.size + 1) s 0 x0 s1 e1 _ (rtake_start s w).rdr HZ0.out H0.out).mono ?_; rintro e W1 ⟨rfl, hq, hm⟩; have T1 : Hid (RTakeAt w W1 (w.heap.size + 1) w.heap.size (w.heap.size + 1 + 1) s1 e1 #[.int .i64 0, .int .i64 0, .int .u64 0, .int .i64 0, .int .u64 0, .int .u64 0, .int .u64 0, .int .i64 0, .int .i64 0, .string ⟨#[]⟩, .string ⟨#[]⟩, .string ⟨#[]⟩, .slice none 0 0]) := Lib.hid ((rtake_start s w).call hq hm); clear hq hm; have bb := T1.out.rcd; have c0 := (cell_of_blk bb 0).trans (rfl : _ = some (Value.int .i64 0)); have f0 := frozen_of_blk bb 0; clear bb) | (go_at_call 32; refine (rrd_Byte (w.heap.size + 1) s1 e1 x1 s2 e2 _ (T1.out.set 0 (.int .i64 (x0 : Int))).rdr HZ1.out H1.out).mono ?_; rintro e W2 ⟨rfl, hq, hm⟩; have T2 : Hid (RTakeAt w W2 (w.heap.size + 1) w.heap.size (w.heap.size + 1 + 1) s2 e2 #[.int .i64 (x0 : Int), .int .i64 0, .int .u64 0, .int .i64 0, .int .u64 0, .int .u64 0, .int .u64 0, .int .i64 0, .int .i64 0, .string ⟨#[]⟩, .string ⟨#[]⟩, .string ⟨#[]⟩, .slice none 0 0]) := Lib.hid ((T1.out.set 0 (.int .i64 (x0 : Int))).call hq hm); clear hq hm T1 c0 f0; have bb := T2.out.rcd; have c1 := (cell_of_blk bb 1).trans (rfl : _ = some (Value.int .i64 0)); have f1 := frozen_of_blk bb 1; clear bb) | (go_at_call 33; refine (rrd_Uint (w.heap.size + 1) s2 e2 x2 s3 e3 _ (T2.out.set 1 (.int .i64 (x1 : Int))).rdr HZ2.out H2.out).mono ?_; rintro e W3 ⟨rfl, hq, hm⟩; have T3 : Hid (RTakeAt w W3 (w.heap.size + 1) w.heap.size (w.heap.size + 1 + 1) s3 e3 #[.int .i64 (x0 : Int), .int .i64 (x1 : Int), .int .u64 0, .int .i64 0, .int .u64 0, .int .u64 0, .int .u64 0, .int .i64 0, .int .i64 0, .string ⟨#[]⟩, .string ⟨#[]⟩, .string ⟨#[]⟩, .slice none 0 0]) := Lib.hid ((T2.out.set 1 (.int .i64 (x1 : Int))).call hq hm); clear hq hm T2 c1 f1; have bb := T3.out.rcd; have c2 := (cell_of_blk bb 2).trans (rfl : _ = some (Value.int .u64 0)); have f2 := frozen_of_blk bb 2; clear bb) | (go_at_call 34; refine (rrd_Int (w.heap.size + 1) s3 e3 x3 s4 e4 _ (T3.out.set 2 (.int .u64 (x2 : Int))).rdr HZ3.out H3.out).mono ?_; rintro e W4 ⟨rfl, hq, hm⟩; have T4 : Hid (RTakeAt w W4 (w.heap.size + 1) w.heap.size (w.heap.size + 1 + 1) s4 e4 #[.int .i64 (x0 : Int), .int .i64 (x1 : Int), .int .u64 (x2 : Int), .int .i64 0, .int .u64 0, .int .u64 0, .int .u64 0, .int .i64 0, .int .i64 0, .string ⟨#[]⟩, .string ⟨#[]⟩, .string ⟨#[]⟩, .slice none 0 0]) := Lib.hid ((T3.out.set 2 (.int .u64 (x2 : Int))).call hq hm); clear hq hm T3 c2 f2; have bb := T4.out.rcd; have c3 := (cell_of_blk bb 3).trans (rfl : _ = some (Value.int .i64 0)); have f3 := frozen_of_blk bb 3; clear bb) | (go_at_call 33; refine (rrd_Uint (w.heap.size + 1) s4 e4 x4 s5 e5 _ (T4.out.set 3 (.int .i64 x3)).rdr HZ4.out H4.out).mono ?_; rintro e W5 ⟨rfl, hq, hm⟩; have T5 : Hid (RTakeAt w W5 (w.heap.size + 1) w.heap.size (w.heap.size + 1 + 1) s5 e5 #[.int .i64 (x0 : Int), .int .i64 (x1 : Int), .int .u64 (x2 : Int), .int .i64 x3, .int .u64 0, .int .u64 0, .int .u64 0, .int .i64 0, .int .i64 0, .string ⟨#[]⟩, .string ⟨#[]⟩, .string ⟨#[]⟩, .slice none 0 0]) := Lib.hid ((T4.out.set 3 (.int .i64 x3)).call hq hm); clear hq hm T4 c3 f3; have bb := T5.out.rcd; have c4 := (cell_of_blk bb 4).trans (rfl : _ = some (Value.int .u64 0)); have f4 := frozen_of_blk bb 4; clear bb) | (go_at_call 33; refine (rrd_Uint (w.heap.size + 1) s5 e5 x5 s6 e6 _ (T5.out.set 4 (.int .u64 (x4 : Int))).rdr HZ5.out H5.out).mono ?_; rintro e W6 ⟨rfl, hq, hm⟩; have T6 : Hid (RTakeAt w W6 (w.heap.size + 1) w.heap.size (w.heap.size + 1 + 1) s6 e6 #[.int .i64 (x0 : Int), .int .i64 (x1 : Int), .int .u64 (x2 : Int), .int .i64 x3, .int .u64 (x4 : Int), .int .u64 0, .int .u64 0, .int .i64 0, .int .i64 0, .string ⟨#[]⟩, .string ⟨#[]⟩, .string ⟨#[]⟩, .slice none 0 0]) := Lib.hid ((T5.out.set 4 (.int .u64 (x4 : Int))).call hq hm); clear hq hm T5 c4 f4; have bb := T6.out.rcd; have c5 := (cell_of_blk bb 5).trans (rfl : _ = some (Value.int .u64 0)); have f5 := frozen_of_blk bb 5; clear bb) | (go_at_call 33; refine (rrd_Uint (w.heap.size + 1) s6 e6 x6 s7 e7 _ (T6.out.set 5 (.int .u64 (x5 : Int))).rdr HZ6.out H6.out).mono ?_; rintro e W7 ⟨rfl, hq, hm⟩; have T7 : Hid (RTakeAt w W7 (w.heap.size + 1) w.heap.size (w.heap.size + 1 + 1) s7 e7 #[.int .i64 (x0 : Int), .int .i64 (x1 : Int), .int .u64 (x2 : Int), .int .i64 x3, .int .u64 (x4 : Int), .int .u64 (x5 : Int), .int .u64 0, .int .i64 0, .int .i64 0, .string ⟨#[]⟩, .string ⟨#[]⟩, .string ⟨#[]⟩, .slice none 0 0]) := Lib.hid ((T6.out.set 5 (.int .u64 (x5 : Int))).call hq hm); clear hq hm T6 c5 f5; have bb := T7.out.rcd; have c6 := (cell_of_blk bb 6).trans (rfl : _ = some (Value.int .u64 0)); have f6 := frozen_of_blk bb 6; clear bb) | (go_at_call 34; refine (rrd_Int (w.heap.size + 1) s7 e7 x7 s8 e8 _ (T7.out.set 6 (.int .u64 (x6 : Int))).rdr HZ7.out H7.out).mono ?_; rintro e W8 ⟨rfl, hq, hm⟩; have T8 : Hid (RTakeAt w W8 (w.heap.size + 1) w.heap.size (w.heap.size + 1 + 1) s8 e8 #[.int .i64 (x0 : Int), .int .i64 (x1 : Int), .int .u64 (x2 : Int), .int .i64 x3, .int .u64 (x4 : Int), .int .u64 (x5 : Int), .int .u64 (x6 : Int), .int .i64 0, .int .i64 0, .string ⟨#[]⟩, .string ⟨#[]⟩, .string ⟨#[]⟩, .slice none 0 0]) := Lib.hid ((T7.out.set 6 (.int .u64 (x6 : Int))).call hq hm); clear hq hm T7 c6 f6; have bb := T8.out.rcd; have c7 := (cell_of_blk bb 7).trans (rfl : _ = some (Value.int .i64 0)); have f7 := frozen_of_blk bb 7; clear bb) | (go_at_call 34; refine (rrd_Int (w.heap.size + 1) s8 e8 x8 s9 e9 _ (T8.out.set 7 (.int .i64 x7)).rdr HZ8.out H8.out).mono ?_; rintro e W9 ⟨rfl, hq, hm⟩; have T9 : Hid (RTakeAt w W9 (w.heap.size + 1) w.heap.size (w.heap.size + 1 + 1) s9 e9 #[.int .i64 (x0 : Int), .int .i64 (x1 : Int), .int .u64 (x2 : Int), .int .i64 x3, .int .u64 (x4 : Int), .int .u64 (x5 : Int), .int .u64 (x6 : Int), .int .i64 x7, .int .i64 0, .string ⟨#[]⟩, .string ⟨#[]⟩, .string ⟨#[]⟩, .slice none 0 0]) := Lib.hid ((T8.out.set 7 (.int .i64 x7)).call hq hm); clear hq hm T8 c7 f7; have bb := T9.out.rcd; have c8 := (cell_of_blk bb 8).trans (rfl : _ = some (Value.int .i64 0)); have f8 := frozen_of_blk bb 8; clear bb) | (go_at_call 35; refine (rrd_Text (w.heap.size + 1) s9 e9 8192 x9 s10 e10 _ (T9.out.set 8 (.int .i64 x8)).rdr HZ9.out (by decide) (by decide) H9.out).mono ?_; rintro e W10 ⟨rfl, hq, hm⟩; have T10 : Hid (RTakeAt w W10 (w.heap.size + 1) w.heap.size (w.heap.size + 1 + 1) s10 e10 #[.int .i64 (x0 : Int), .int .i64 (x1 : Int), .int .u64 (x2 : Int), .int .i64 x3, .int .u64 (x4 : Int), .int .u64 (x5 : Int), .int .u64 (x6 : Int), .int .i64 x7, .int .i64 x8, .string ⟨#[]⟩, .string ⟨#[]⟩, .string ⟨#[]⟩, .slice none 0 0]) := Lib.hid ((T9.out.set 8 (.int .i64 x8)).call hq hm); clear hq hm T9 c8 f8; have bb := T10.out.rcd; have c9 := (cell_of_blk bb 9).trans (rfl : _ = some (Value.string ⟨#[]⟩)); have f9 := frozen_of_blk bb 9; clear bb) | (go_at_call 35; refine (rrd_Text (w.heap.size + 1) s10 e10 8192 x10 s11 e11 _ (T10.out.set 9 (.string x9)).rdr HZ10.out (by decide) (by decide) H10.out).mono ?_; rintro e W11 ⟨rfl, hq, hm⟩; have T11 : Hid (RTakeAt w W11 (w.heap.size + 1) w.heap.size (w.heap.size + 1 + 1) s11 e11 #[.int .i64 (x0 : Int), .int .i64 (x1 : Int), .int .u64 (x2 : Int), .int .i64 x3, .int .u64 (x4 : Int), .int .u64 (x5 : Int), .int .u64 (x6 : Int), .int .i64 x7, .int .i64 x8, .string x9, .string ⟨#[]⟩, .string ⟨#[]⟩, .slice none 0 0]) := Lib.hid ((T10.out.set 9 (.string x9)).call hq hm); clear hq hm T10 c9 f9; have bb := T11.out.rcd; have c10 := (cell_of_blk bb 10).trans (rfl : _ = some (Value.string ⟨#[]⟩)); have f10 := frozen_of_blk bb 10; clear bb) | (go_at_call 35; refine (rrd_Text (w.heap.size + 1) s11 e11 32 x11 s12 e12 _ (T11.out.set 10 (.string x10)).rdr HZ11.out (by decide) (by decide) H11.out).mono ?_; rintro e W12 ⟨rfl, hq, hm⟩; have T12 : Hid (RTakeAt w W12 (w.heap.size + 1) w.heap.size (w.heap.size + 1 + 1) s12 e12 #[.int .i64 (x0 : Int), .int .i64 (x1 : Int), .int .u64 (x2 : Int), .int .i64 x3, .int .u64 (x4 : Int), .int .u64 (x5 : Int), .int .u64 (x6 : Int), .int .i64 x7, .int .i64 x8, .string x9, .string x10, .string ⟨#[]⟩, .slice none 0 0]) := Lib.hid ((T11.out.set 10 (.string x10)).call hq hm); clear hq hm T11 c10 f10; have bb := T12.out.rcd; have c11 := (cell_of_blk bb 11).trans (rfl : _ = some (Value.string ⟨#[]⟩)); have f11 := frozen_of_blk bb 11; clear bb) | (go_at_call 36; refine (rTakeVars (w.heap.size + 1) s12 e12 (some l) (l) true s13 e13 _ (T12.out.set 11 (.string x11)).rdr HZ12.out H12.out rfl rfl).mono ?_; rintro e W13 ⟨A, c, rfl, hrow, hq, hm⟩; have T13 : Hid (RTakeAt w W13 (w.heap.size + 1) w.heap.size (w.heap.size + 1 + 1) s13 e13 #[.int .i64 (x0 : Int), .int .i64 (x1 : Int), .int .u64 (x2 : Int), .int .i64 x3, .int .u64 (x4 : Int), .int .u64 (x5 : Int), .int .u64 (x6 : Int), .int .i64 x7, .int .i64 x8, .string x9, .string x10, .string x11, .slice none 0 0]) := Lib.hid ((T12.out.set 11 (.string x11)).call hq hm); have hlt := lt_of_blk (T12.out.set 11 (.string x11)).rcd; have HLT := Lib.hid hlt; have HR13 := Lib.hid (row_set (w := W13) hrow hlt (.slice A (l).length c)); clear hq hm hrow hlt T12 c11 f11; have bb := T13.out.rcd; have d0 := (cell_of_blk bb 0).trans (rfl : _ = some (Value.int .i64 (x0 : Int))); have d1 := (cell_of_blk bb 1).trans (rfl : _ = some (Value.int .i64 (x1 : Int))); have d2 := (cell_of_blk bb 2).trans (rfl : _ = some (Value.int .u64 (x2 : Int))); have d3 := (cell_of_blk bb 3).trans (rfl : _ = some (Value.int .i64 x3)); have d4 := (cell_of_blk bb 4).trans (rfl : _ = some (Value.int .u64 (x4 : Int))); have d5 := (cell_of_blk bb 5).trans (rfl : _ = some (Value.int .u64 (x5 : Int))); have d6 := (cell_of_blk bb 6).trans (rfl : _ = some (Value.int .u64 (x6 : Int))); have d7 := (cell_of_blk bb 7).trans (rfl : _ = some (Value.int .i64 x7)); have d8 := (cell_of_blk bb 8).trans (rfl : _ = some (Value.int .i64 x8)); have d9 := (cell_of_blk bb 9).trans (rfl : _ = some (Value.string x9)); have d10 := (cell_of_blk bb 10).trans (rfl : _ = some (Value.string x10)); have d11 := (cell_of_blk bb 11).trans (rfl : _ = some (Value.string x11)); have d12 := (cell_of_blk bb 12).trans (rfl : _ = some (Value.slice none 0 0)); have df12 := frozen_of_blk bb 12; clear bb) | (go_at_call 12; refine (rMay ⟨(x0 : Int), (x1 : Int), (x2 : Int), x3, (x4 : Int), (x5 : Int), (x6 : Int), x7, x8, x9, x10, x11, l⟩ false (.slice A (l).length c) _ _ HR13.out HWF.out HM.out).mono ?_; rintro e W15 ⟨rfl, hb15⟩; have T15 := Lib.hid (((T13.out.set 12 (.slice A (l).length c)).below hb15) : RTakeAt w W15 (w.heap.size + 1) w.heap.size (w.heap.size + 1 + 1) s13 e13 #[.int .i64 (x0 : Int), .int .i64 (x1 : Int), .int .u64 (x2 : Int), .int .i64 x3, .int .u64 (x4 : Int), .int .u64 (x5 : Int), .int .u64 (x6 : Int), .int .i64 x7, .int .i64 x8, .string x9, .string x10, .string x11, .slice A (l).length c]); have HR15 := Lib.hid (HR13.out.below hb15); clear hb15 d0 d1 d2 d3 d4 d5 d6 d7 d8 d9 d10 d11 d12 df12; have bb := T15.out.rcd; have d0 := (cell_of_blk bb 0).trans (rfl : _ = some (Value.int .i64 (x0 : Int))); have d1 := (cell_of_blk bb 1).trans (rfl : _ = some (Value.int .i64 (x1 : Int))); have d2 := (cell_of_blk bb 2).trans (rfl : _ = some (Value.int .u64 (x2 : Int))); have d3 := (cell_of_blk bb 3).trans (rfl : _ = some (Value.int .i64 x3)); have d4 := (cell_of_blk bb 4).trans (rfl : _ = some (Value.int .u64 (x4 : Int))); have d5 := (cell_of_blk bb 5).trans (rfl : _ = some (Value.int .u64 (x5 : Int))); have d6 := (cell_of_blk bb 6).trans (rfl : _ = some (Value.int .u64 (x6 : Int))); have d7 := (cell_of_blk bb 7).trans (rfl : _ = some (Value.int .i64 x7)); have d8 := (cell_of_blk bb 8).trans (rfl : _ = some (Value.int .i64 x8)); have d9 := (cell_of_blk bb 9).trans (rfl : _ = some (Value.string x9)); have d10 := (cell_of_blk bb 10).trans (rfl : _ = some (Value.string x10)); have d11 := (cell_of_blk bb 11).trans (rfl : _ = some (Value.string x11)); have d12 := (cell_of_blk bb 12).trans (rfl : _ = some (Value.slice A (l).length c)); have br := T15.out.res; have z0 := (cell_of_blk br 0).trans (rfl : _ = some (Value.int .i64 0)); have z1 := (cell_of_blk br 1).trans (rfl : _ = some (Value.int .i64 0)); have z2 := (cell_of_blk br 2).trans (rfl : _ = some (Value.int .u64 0)); have z3 := (cell_of_blk br 3).trans (rfl : _ = some (Value.int .i64 0)); have z4 := (cell_of_blk br 4).trans (rfl : _ = some (Value.int .u64 0)); have z5 := (cell_of_blk br 5).trans (rfl : _ = some (Value.int .u64 0)); have z6 := (cell_of_blk br 6).trans (rfl : _ = some (Value.int .u64 0)); have z7 := (cell_of_blk br 7).trans (rfl : _ = some (Value.int .i64 0)); have z8 := (cell_of_blk br 8).trans (rfl : _ = some (Value.int .i64 0)); have z9 := (cell_of_blk br 9).trans (rfl : _ = some (Value.string ⟨#[]⟩)); have z10 := (cell_of_blk br 10).trans (rfl : _ = some (Value.string ⟨#[]⟩)); have z11 := (cell_of_blk br 11).trans (rfl : _ = some (Value.string ⟨#[]⟩)); have z12 := (cell_of_blk br 12).trans (rfl : _ = some (Value.slice none 0 0)); have zf0 := frozen_of_blk br 0; have zf1 := frozen_of_blk br 1; have zf2 := frozen_of_blk br 2; have zf3 := frozen_of_blk br 3; have zf4 := frozen_of_blk br 4; have zf5 := frozen_of_blk br 5; have zf6 := frozen_of_blk br 6; have zf7 := frozen_of_blk br 7; have zf8 := frozen_of_blk br 8; have zf9 := frozen_of_blk br 9; have zf10 := frozen_of_blk br 10; have zf11 := frozen_of_blk br 11; have zf12 := frozen_of_blk br 12; clear bb br) | (go_at_call 37; refine (rrd_End (w.heap.size + 1) s13 e13 0 _ T15.out.rdr HZ13.out H13.out).mono ?_; rintro e w' ⟨rfl, rfl⟩))
  have hfin := set_blk13 T15.out.res (.int .i64 0) (.int .i64 0) (.int .u64 0) (.int .i64 0) (.int .u64 0) (.int .u64 0) (.int .u64 0) (.int .i64 0) (.int .i64 0) (.string ⟨#[]⟩) (.string ⟨#[]⟩) (.string ⟨#[]⟩) (.slice none 0 0)
  have hbel := (((((((((((((T15.out.low.setCell (p := ⟨w.heap.size, 0, none⟩) (Nat.le_refl _) (.int .i64 0)).setCell (p := ⟨w.heap.size, 1, none⟩) (Nat.le_refl _) (.int .i64 0)).setCell (p := ⟨w.heap.size, 2, none⟩) (Nat.le_refl _) (.int .u64 0)).setCell (p := ⟨w.heap.size, 3, none⟩) (Nat.le_refl _) (.int .i64 0)).setCell (p := ⟨w.heap.size, 4, none⟩) (Nat.le_refl _) (.int .u64 0)).setCell (p := ⟨w.heap.size, 5, none⟩) (Nat.le_refl _) (.int .u64 0)).setCell (p := ⟨w.heap.size, 6, none⟩) (Nat.le_refl _) (.int .u64 0)).setCell (p := ⟨w.heap.size, 7, none⟩) (Nat.le_refl _) (.int .i64 0)).setCell (p := ⟨w.heap.size, 8, none⟩) (Nat.le_refl _) (.int .i64 0)).setCell (p := ⟨w.heap.size, 9, none⟩) (Nat.le_refl _) (.string ⟨#[]⟩)).setCell (p := ⟨w.heap.size, 10, none⟩) (Nat.le_refl _) (.string ⟨#[]⟩)).setCell (p := ⟨w.heap.size, 11, none⟩) (Nat.le_refl _) (.string ⟨#[]⟩)).setCell (p := ⟨w.heap.size, 12, none⟩) (Nat.le_refl _) (.slice none 0 0))
  generalize (((((((((((((W15.setCell ⟨w.heap.size, 0, none⟩ (.int .i64 0)).setCell ⟨w.heap.size, 1, none⟩ (.int .i64 0)).setCell ⟨w.heap.size, 2, none⟩ (.int .u64 0)).setCell ⟨w.heap.size, 3, none⟩ (.int .i64 0)).setCell ⟨w.heap.size, 4, none⟩ (.int .u64 0)).setCell ⟨w.heap.size, 5, none⟩ (.int .u64 0)).setCell ⟨w.heap.size, 6, none⟩ (.int .u64 0)).setCell ⟨w.heap.size, 7, none⟩ (.int .i64 0)).setCell ⟨w.heap.size, 8, none⟩ (.int .i64 0)).setCell ⟨w.heap.size, 9, none⟩ (.string ⟨#[]⟩)).setCell ⟨w.heap.size, 10, none⟩ (.string ⟨#[]⟩)).setCell ⟨w.heap.size, 11, none⟩ (.string ⟨#[]⟩)).setCell ⟨w.heap.size, 12, none⟩ (.slice none 0 0)) = Fw at *
  have r0 := (cell_of_blk hfin 0).trans (rfl : _ = some (Value.int .i64 0))
  have r1 := (cell_of_blk hfin 1).trans (rfl : _ = some (Value.int .i64 0))
  have r2 := (cell_of_blk hfin 2).trans (rfl : _ = some (Value.int .u64 0))
  have r3 := (cell_of_blk hfin 3).trans (rfl : _ = some (Value.int .i64 0))
  have r4 := (cell_of_blk hfin 4).trans (rfl : _ = some (Value.int .u64 0))
  have r5 := (cell_of_blk hfin 5).trans (rfl : _ = some (Value.int .u64 0))
  have r6 := (cell_of_blk hfin 6).trans (rfl : _ = some (Value.int .u64 0))
  have r7 := (cell_of_blk hfin 7).trans (rfl : _ = some (Value.int .i64 0))
  have r8 := (cell_of_blk hfin 8).trans (rfl : _ = some (Value.int .i64 0))
  have r9 := (cell_of_blk hfin 9).trans (rfl : _ = some (Value.string ⟨#[]⟩))
  have r10 := (cell_of_blk hfin 10).trans (rfl : _ = some (Value.string ⟨#[]⟩))
  have r11 := (cell_of_blk hfin 11).trans (rfl : _ = some (Value.string ⟨#[]⟩))
  have r12 := (cell_of_blk hfin 12).trans (rfl : _ = some (Value.slice none 0 0))
  clear hfin
  refine bodyPost_ret (v := .tuple #[.agg #[.int .i64 0, .int .i64 0, .int .u64 0, .int .i64 0, .int .u64 0, .int .u64 0, .int .u64 0, .int .i64 0, .int .i64 0, .string ⟨#[]⟩, .string ⟨#[]⟩, .string ⟨#[]⟩, .slice none 0 0], .int .i64 3]) (by simp [results, Try.results16, go_sem, r0, r1, r2, r3, r4, r5, r6, r7, r8, r9, r10, r11, r12]) rfl ?_
  exact ⟨rfl, hbel⟩
end Go.Proofs.Ytcfdbdmefdffdaa
/-
  The reference's Take of chapter 12: one of the ways of its walk. Printed by gentakeref.py.
-/
set_option linter.unusedVariables false
set_option linter.unusedSimpArgs false
namespace Go.Proofs.Ytcfdbdmefdffdaa
open Go Go.RowKit Go.Proofs.Base
open Go.Sort (grow)
set_option maxRecDepth 100000 in
set_option maxHeartbeats 8000000 in
theorem ref12_Take_d (s : ByteArray) (w : World) (x0 : Nat) (s1 : ByteArray) (e1 : Nat) (x1 : Nat) (s2 : ByteArray) (e2 : Nat) (x2 : Nat) (s3 : ByteArray) (e3 : Nat) (x3 : Int) (s4 : ByteArray) (e4 : Nat) (x4 : Nat) (s5 : ByteArray) (e5 : Nat) (x5 : Nat) (s6 : ByteArray) (e6 : Nat) (x6 : Nat) (s7 : ByteArray) (e7 : Nat) (x7 : Int) (s8 : ByteArray) (e8 : Nat) (x8 : Int) (s9 : ByteArray) (e9 : Nat) (x9 : ByteArray) (s10 : ByteArray) (e10 : Nat) (x10 : ByteArray) (s11 : ByteArray) (e11 : Nat) (x11 : ByteArray) (s12 : ByteArray) (e12 : Nat) (l : List GVar) (s13 : ByteArray) (e13 : Nat) (hs : s.size ≤ 140737488351232) (hx0 : (x0 : Int) ≤ 255) (hx1 : (x1 : Int) ≤ 255) (h0 : rdByte s 0 = (x0, s1, e1)) (h1 : rdByte s1 e1 = (x1, s2, e2)) (h2 : rdUint s2 e2 = (x2, s3, e3)) (h3 : rdInt s3 e3 = (x3, s4, e4)) (h4 : rdUint s4 e4 = (x4, s5, e5)) (h5 : rdUint s5 e5 = (x5, s6, e6)) (h6 : rdUint s6 e6 = (x6, s7, e7)) (h7 : rdInt s7 e7 = (x7, s8, e8)) (h8 : rdInt s8 e8 = (x8, s9, e9)) (h9 : rdText 8192 s9 e9 = (x9, s10, e10)) (h10 : rdText 8192 s10 e10 = (x10, s11, e11)) (h11 : rdText 32 s11 e11 = (x11, s12, e12)) (hz1 : s1.size ≤ 140737488351232) (hz2 : s2.size ≤ 140737488351232) (hz3 : s3.size ≤ 140737488351232) (hz4 : s4.size ≤ 140737488351232) (hz5 : s5.size ≤ 140737488351232) (hz6 : s6.size ≤ 140737488351232) (hz7 : s7.size ≤ 140737488351232) (hz8 : s8.size ≤ 140737488351232) (hz9 : s9.size ≤ 140737488351232) (hz10 : s10.size ≤ 140737488351232) (hz11 : s11.size ≤ 140737488351232) (hz12 : s12.size ≤ 140737488351232) (h12 : takeVars s12 e12 = (some l, s13, e13)) (h13 : rdEnd s13 e13 = 0) (hwf : (⟨(x0 : Int), (x1 : Int), (x2 : Int), x3, (x4 : Int), (x5 : Int), (x6 : Int), x7, x8, x9, x10, x11, l⟩ : GRec).wf) (hM : recMay ⟨(x0 : Int), (x1 : Int), (x2 : Int), x3, (x4 : Int), (x5 : Int), (x6 : Int), x7, x8, x9, x10, x11, l⟩ = true) (hz13 : s13.size ≤ 140737488351232) :
    Calls Try.prog 16 #[.string s] w fun e w' => ∃ vv, e = .returned (.tuple #[.agg #[.int .i64 (x0 : Int), .int .i64 (x1 : Int), .int .u64 (x2 : Int), .int .i64 x3, .int .u64 (x4 : Int), .int .u64 (x5 : Int), .int .u64 (x6 : Int), .int .i64 x7, .int .i64 x8, .string x9, .string x10, .string x11, vv], .int .i64 0]) ∧ Row w' (fun b => w.heap.size ≤ b) 4 l.length vv (varCells l) ∧ Below w.heap.size w w' := by
  have HZ0 := Lib.hid hs
  have HZ1 := Lib.hid hz1
  have HZ2 := Lib.hid hz2
  have HZ3 := Lib.hid hz3
  have HZ4 := Lib.hid hz4
  have HZ5 := Lib.hid hz5
  have HZ6 := Lib.hid hz6
  have HZ7 := Lib.hid hz7
  have HZ8 := Lib.hid hz8
  have HZ9 := Lib.hid hz9
  have HZ10 := Lib.hid hz10
  have HZ11 := Lib.hid hz11
  have HZ12 := Lib.hid hz12
  have H0 := Lib.hid h0
  have H1 := Lib.hid h1
  have H2 := Lib.hid h2
  have H3 := Lib.hid h3
  have H4 := Lib.hid h4
  have H5 := Lib.hid h5
  have H6 := Lib.hid h6
  have H7 := Lib.hid h7
  have H8 := Lib.hid h8
  have H9 := Lib.hid h9
  have H10 := Lib.hid h10
  have H11 := Lib.hid h11
  have H12 := Lib.hid h12
  clear hs hz1 hz2 hz3 hz4 hz5 hz6 hz7 hz8 hz9 hz10 hz11 hz12 h0 h1 h2 h3 h4 h5 h6 h7 h8 h9 h10 h11 h12
  have H13 := Lib.hid h13
  have HWF := Lib.hid hwf
  have HM := Lib.hid hM
  clear h13 hwf hM
  have HZ13 := Lib.hid hz13
  clear hz13
  have n5a : w.heap.size ≠ w.heap.size + 1 + 1 := (by omega)
  have n5b : w.heap.size + 1 + 1 ≠ w.heap.size := (by omega)
  go_enter Try.func16, Try.ntmps16
  go_wp2_with (first | (go_at_call 32; refine (rrd_Byte (w.heap.size + 1) s 0 x0 s1 e1 _ (rtake_start s w).rdr HZ0.out H0.out).mono ?_; rintro e W1 ⟨rfl, hq, hm⟩; have T1 : Hid (RTakeAt w W1 (w.heap.size + 1) w.heap.size (w.heap.size + 1 + 1) s1 e1 #[.int .i64 0, .int .i64 0, .int .u64 0, .int .i64 0, .int .u64 0, .int .u64 0, .int .u64 0, .int .i64 0, .int .i64 0, .string ⟨#[]⟩, .string ⟨#[]⟩, .string ⟨#[]⟩, .slice none 0 0]) := Lib.hid ((rtake_start s w).call hq hm); clear hq hm; have bb := T1.out.rcd; have c0 := (cell_of_blk bb 0).trans (rfl : _ = some (Value.int .i64 0)); have f0 := frozen_of_blk bb 0; clear bb) | (go_at_call 32; refine (rrd_Byte (w.heap.size + 1) s1 e1 x1 s2 e2 _ (T1.out.set 0 (.int .i64 (x0 : Int))).rdr HZ1.out H1.out).mono ?_; rintro e W2 ⟨rfl, hq, hm⟩; have T2 : Hid (RTakeAt w W2 (w.heap.size + 1) w.heap.size (w.heap.size + 1 + 1) s2 e2 #[.int .i64 (x0 : Int), .int .i64 0, .int .u64 0, .int .i64 0, .int .u64 0, .int .u64 0, .int .u64 0, .int .i64 0, .int .i64 0, .string ⟨#[]⟩, .string ⟨#[]⟩, .string ⟨#[]⟩, .slice none 0 0]) := Lib.hid ((T1.out.set 0 (.int .i64 (x0 : Int))).call hq hm); clear hq hm T1 c0 f0; have bb := T2.out.rcd; have c1 := (cell_of_blk bb 1).trans (rfl : _ = some (Value.int .i64 0)); have f1 := frozen_of_blk bb 1; clear bb) | (go_at_call 33; refine (rrd_Uint (w.heap.size + 1) s2 e2 x2 s3 e3 _ (T2.out.set 1 (.int .i64 (x1 : Int))).rdr HZ2.out H2.out).mono ?_; rintro e W3 ⟨rfl, hq, hm⟩; have T3 : Hid (RTakeAt w W3 (w.heap.size + 1) w.heap.size (w.heap.size + 1 + 1) s3 e3 #[.int .i64 (x0 : Int), .int .i64 (x1 : Int), .int .u64 0, .int .i64 0, .int .u64 0, .int .u64 0, .int .u64 0, .int .i64 0, .int .i64 0, .string ⟨#[]⟩, .string ⟨#[]⟩, .string ⟨#[]⟩, .slice none 0 0]) := Lib.hid ((T2.out.set 1 (.int .i64 (x1 : Int))).call hq hm); clear hq hm T2 c1 f1; have bb := T3.out.rcd; have c2 := (cell_of_blk bb 2).trans (rfl : _ = some (Value.int .u64 0)); have f2 := frozen_of_blk bb 2; clear bb) | (go_at_call 34; refine (rrd_Int (w.heap.size + 1) s3 e3 x3 s4 e4 _ (T3.out.set 2 (.int .u64 (x2 : Int))).rdr HZ3.out H3.out).mono ?_; rintro e W4 ⟨rfl, hq, hm⟩; have T4 : Hid (RTakeAt w W4 (w.heap.size + 1) w.heap.size (w.heap.size + 1 + 1) s4 e4 #[.int .i64 (x0 : Int), .int .i64 (x1 : Int), .int .u64 (x2 : Int), .int .i64 0, .int .u64 0, .int .u64 0, .int .u64 0, .int .i64 0, .int .i64 0, .string ⟨#[]⟩, .string ⟨#[]⟩, .string ⟨#[]⟩, .slice none 0 0]) := Lib.hid ((T3.out.set 2 (.int .u64 (x2 : Int))).call hq hm); clear hq hm T3 c2 f2; have bb := T4.out.rcd; have c3 := (cell_of_blk bb 3).trans (rfl : _ = some (Value.int .i64 0)); have f3 := frozen_of_blk bb 3; clear bb) | (go_at_call 33; refine (rrd_Uint (w.heap.size + 1) s4 e4 x4 s5 e5 _ (T4.out.set 3 (.int .i64 x3)).rdr HZ4.out H4.out).mono ?_; rintro e W5 ⟨rfl, hq, hm⟩; have T5 : Hid (RTakeAt w W5 (w.heap.size + 1) w.heap.size (w.heap.size + 1 + 1) s5 e5 #[.int .i64 (x0 : Int), .int .i64 (x1 : Int), .int .u64 (x2 : Int), .int .i64 x3, .int .u64 0, .int .u64 0, .int .u64 0, .int .i64 0, .int .i64 0, .string ⟨#[]⟩, .string ⟨#[]⟩, .string ⟨#[]⟩, .slice none 0 0]) := Lib.hid ((T4.out.set 3 (.int .i64 x3)).call hq hm); clear hq hm T4 c3 f3; have bb := T5.out.rcd; have c4 := (cell_of_blk bb 4).trans (rfl : _ = some (Value.int .u64 0)); have f4 := frozen_of_blk bb 4; clear bb) | (go_at_call 33; refine (rrd_Uint (w.heap.size + 1) s5 e5 x5 s6 e6 _ (T5.out.set 4 (.int .u64 (x4 : Int))).rdr HZ5.out H5.out).mono ?_; rintro e W6 ⟨rfl, hq, hm⟩; have T6 : Hid (RTakeAt w W6 (w.heap.size + 1) w.heap.size (w.heap.size + 1 + 1) s6 e6 #[.int .i64 (x0 : Int), .int .i64 (x1 : Int), .int .u64 (x2 : Int), .int .i64 x3, .int .u64 (x4 : Int), .int .u64 0, .int .u64 0, .int .i64 0, .int .i64 0, .string ⟨#[]⟩, .string ⟨#[]⟩, .string ⟨#[]⟩, .slice none 0 0]) := Lib.hid ((T5.out.set 4 (.int .u64 (x4 : Int))).call hq hm); clear hq hm T5 c4 f4; have bb := T6.out.rcd; have c5 := (cell_of_blk bb 5).trans (rfl : _ = some (Value.int .u64 0)); have f5 := frozen_of_blk bb 5; clear bb) | (go_at_call 33; refine (rrd_Uint (w.heap.size + 1) s6 e6 x6 s7 e7 _ (T6.out.set 5 (.int .u64 (x5 : Int))).rdr HZ6.out H6.out).mono ?_; rintro e W7 ⟨rfl, hq, hm⟩; have T7 : Hid (RTakeAt w W7 (w.heap.size + 1) w.heap.size (w.heap.size + 1 + 1) s7 e7 #[.int .i64 (x0 : Int), .int .i64 (x1 : Int), .int .u64 (x2 : Int), .int .i64 x3, .int .u64 (x4 : Int), .int .u64 (x5 : Int), .int .u64 0, .int .i64 0, .int .i64 0, .string ⟨#[]⟩, .string ⟨#[]⟩, .string ⟨#[]⟩, .slice none 0 0]) := Lib.hid ((T6.out.set 5 (.int .u64 (x5 : Int))).call hq hm); clear hq hm T6 c5 f5; have bb := T7.out.rcd; have c6 := (cell_of_blk bb 6).trans (rfl : _ = some (Value.int .u64 0)); have f6 := frozen_of_blk bb 6; clear bb) | (go_at_call 34; refine (rrd_Int (w.heap.size + 1) s7 e7 x7 s8 e8 _ (T7.out.set 6 (.int .u64 (x6 : Int))).rdr HZ7.out H7.out).mono ?_; rintro e W8 ⟨rfl, hq, hm⟩; have T8 : Hid (RTakeAt w W8 (w.heap.size + 1) w.heap.size (w.heap.size + 1 + 1) s8 e8 #[.int .i64 (x0 : Int), .int .i64 (x1 : Int), .int .u64 (x2 : Int), .int .i64 x3, .int .u64 (x4 : Int), .int .u64 (x5 : Int), .int .u64 (x6 : Int), .int .i64 0, .int .i64 0, .string ⟨#[]⟩, .string ⟨#[]⟩, .string ⟨#[]⟩, .slice none 0 0]) := Lib.hid ((T7.out.set 6 (.int .u64 (x6 : Int))).call hq hm); clear hq hm T7 c6 f6; have bb := T8.out.rcd; have c7 := (cell_of_blk bb 7).trans (rfl : _ = some (Value.int .i64 0)); have f7 := frozen_of_blk bb 7; clear bb) | (go_at_call 34; refine (rrd_Int (w.heap.size + 1) s8 e8 x8 s9 e9 _ (T8.out.set 7 (.int .i64 x7)).rdr HZ8.out H8.out).mono ?_; rintro e W9 ⟨rfl, hq, hm⟩; have T9 : Hid (RTakeAt w W9 (w.heap.size + 1) w.heap.size (w.heap.size + 1 + 1) s9 e9 #[.int .i64 (x0 : Int), .int .i64 (x1 : Int), .int .u64 (x2 : Int), .int .i64 x3, .int .u64 (x4 : Int), .int .u64 (x5 : Int), .int .u64 (x6 : Int), .int .i64 x7, .int .i64 0, .string ⟨#[]⟩, .string ⟨#[]⟩, .string ⟨#[]⟩, .slice none 0 0]) := Lib.hid ((T8.out.set 7 (.int .i64 x7)).call hq hm); clear hq hm T8 c7 f7; have bb := T9.out.rcd; have c8 := (cell_of_blk bb 8).trans (rfl : _ = some (Value.int .i64 0)); have f8 := frozen_of_blk bb 8; clear bb) | (go_at_call 35; refine (rrd_Text (w.heap.size + 1) s9 e9 8192 x9 s10 e10 _ (T9.out.set 8 (.int .i64 x8)).rdr HZ9.out (by decide) (by decide) H9.out).mono ?_; rintro e W10 ⟨rfl, hq, hm⟩; have T10 : Hid (RTakeAt w W10 (w.heap.size + 1) w.heap.size (w.heap.size + 1 + 1) s10 e10 #[.int .i64 (x0 : Int), .int .i64 (x1 : Int), .int .u64 (x2 : Int), .int .i64 x3, .int .u64 (x4 : Int), .int .u64 (x5 : Int), .int .u64 (x6 : Int), .int .i64 x7, .int .i64 x8, .string ⟨#[]⟩, .string ⟨#[]⟩, .string ⟨#[]⟩, .slice none 0 0]) := Lib.hid ((T9.out.set 8 (.int .i64 x8)).call hq hm); clear hq hm T9 c8 f8; have bb := T10.out.rcd; have c9 := (cell_of_blk bb 9).trans (rfl : _ = some (Value.string ⟨#[]⟩)); have f9 := frozen_of_blk bb 9; clear bb) | (go_at_call 35; refine (rrd_Text (w.heap.size + 1) s10 e10 8192 x10 s11 e11 _ (T10.out.set 9 (.string x9)).rdr HZ10.out (by decide) (by decide) H10.out).mono ?_; rintro e W11 ⟨rfl, hq, hm⟩; have T11 : Hid (RTakeAt w W11 (w.heap.size + 1) w.heap.size (w.heap.size + 1 + 1) s11 e11 #[.int .i64 (x0 : Int), .int .i64 (x1 : Int), .int .u64 (x2 : Int), .int .i64 x3, .int .u64 (x4 : Int), .int .u64 (x5 : Int), .int .u64 (x6 : Int), .int .i64 x7, .int .i64 x8, .string x9, .string ⟨#[]⟩, .string ⟨#[]⟩, .slice none 0 0]) := Lib.hid ((T10.out.set 9 (.string x9)).call hq hm); clear hq hm T10 c9 f9; have bb := T11.out.rcd; have c10 := (cell_of_blk bb 10).trans (rfl : _ = some (Value.string ⟨#[]⟩)); have f10 := frozen_of_blk bb 10; clear bb) | (go_at_call 35; refine (rrd_Text (w.heap.size + 1) s11 e11 32 x11 s12 e12 _ (T11.out.set 10 (.string x10)).rdr HZ11.out (by decide) (by decide) H11.out).mono ?_; rintro e W12 ⟨rfl, hq, hm⟩; have T12 : Hid (RTakeAt w W12 (w.heap.size + 1) w.heap.size (w.heap.size + 1 + 1) s12 e12 #[.int .i64 (x0 : Int), .int .i64 (x1 : Int), .int .u64 (x2 : Int), .int .i64 x3, .int .u64 (x4 : Int), .int .u64 (x5 : Int), .int .u64 (x6 : Int), .int .i64 x7, .int .i64 x8, .string x9, .string x10, .string ⟨#[]⟩, .slice none 0 0]) := Lib.hid ((T11.out.set 10 (.string x10)).call hq hm); clear hq hm T11 c10 f10; have bb := T12.out.rcd; have c11 := (cell_of_blk bb 11).trans (rfl : _ = some (Value.string ⟨#[]⟩)); have f11 := frozen_of_blk bb 11; clear bb) | (go_at_call 36; refine (rTakeVars (w.heap.size + 1) s12 e12 (some l) (l) true s13 e13 _ (T12.out.set 11 (.string x11)).rdr HZ12.out H12.out rfl rfl).mono ?_; rintro e W13 ⟨A, c, rfl, hrow, hq, hm⟩; have T13 : Hid (RTakeAt w W13 (w.heap.size + 1) w.heap.size (w.heap.size + 1 + 1) s13 e13 #[.int .i64 (x0 : Int), .int .i64 (x1 : Int), .int .u64 (x2 : Int), .int .i64 x3, .int .u64 (x4 : Int), .int .u64 (x5 : Int), .int .u64 (x6 : Int), .int .i64 x7, .int .i64 x8, .string x9, .string x10, .string x11, .slice none 0 0]) := Lib.hid ((T12.out.set 11 (.string x11)).call hq hm); have hlt := lt_of_blk (T12.out.set 11 (.string x11)).rcd; have HLT := Lib.hid hlt; have HR13 := Lib.hid (row_set (w := W13) hrow hlt (.slice A (l).length c)); clear hq hm hrow hlt T12 c11 f11; have bb := T13.out.rcd; have d0 := (cell_of_blk bb 0).trans (rfl : _ = some (Value.int .i64 (x0 : Int))); have d1 := (cell_of_blk bb 1).trans (rfl : _ = some (Value.int .i64 (x1 : Int))); have d2 := (cell_of_blk bb 2).trans (rfl : _ = some (Value.int .u64 (x2 : Int))); have d3 := (cell_of_blk bb 3).trans (rfl : _ = some (Value.int .i64 x3)); have d4 := (cell_of_blk bb 4).trans (rfl : _ = some (Value.int .u64 (x4 : Int))); have d5 := (cell_of_blk bb 5).trans (rfl : _ = some (Value.int .u64 (x5 : Int))); have d6 := (cell_of_blk bb 6).trans (rfl : _ = some (Value.int .u64 (x6 : Int))); have d7 := (cell_of_blk bb 7).trans (rfl : _ = some (Value.int .i64 x7)); have d8 := (cell_of_blk bb 8).trans (rfl : _ = some (Value.int .i64 x8)); have d9 := (cell_of_blk bb 9).trans (rfl : _ = some (Value.string x9)); have d10 := (cell_of_blk bb 10).trans (rfl : _ = some (Value.string x10)); have d11 := (cell_of_blk bb 11).trans (rfl : _ = some (Value.string x11)); have d12 := (cell_of_blk bb 12).trans (rfl : _ = some (Value.slice none 0 0)); have df12 := frozen_of_blk bb 12; clear bb) | (go_at_call 12; refine (rMay ⟨(x0 : Int), (x1 : Int), (x2 : Int), x3, (x4 : Int), (x5 : Int), (x6 : Int), x7, x8, x9, x10, x11, l⟩ true (.slice A (l).length c) _ _ HR13.out HWF.out HM.out).mono ?_; rintro e W15 ⟨rfl, hb15⟩; have T15 := Lib.hid (((T13.out.set 12 (.slice A (l).length c)).below hb15) : RTakeAt w W15 (w.heap.size + 1) w.heap.size (w.heap.size + 1 + 1) s13 e13 #[.int .i64 (x0 : Int), .int .i64 (x1 : Int), .int .u64 (x2 : Int), .int .i64 x3, .int .u64 (x4 : Int), .int .u64 (x5 : Int), .int .u64 (x6 : Int), .int .i64 x7, .int .i64 x8, .string x9, .string x10, .string x11, .slice A (l).length c]); have HR15 := Lib.hid (HR13.out.below hb15); clear hb15 d0 d1 d2 d3 d4 d5 d6 d7 d8 d9 d10 d11 d12 df12; have bb := T15.out.rcd; have d0 := (cell_of_blk bb 0).trans (rfl : _ = some (Value.int .i64 (x0 : Int))); have d1 := (cell_of_blk bb 1).trans (rfl : _ = some (Value.int .i64 (x1 : Int))); have d2 := (cell_of_blk bb 2).trans (rfl : _ = some (Value.int .u64 (x2 : Int))); have d3 := (cell_of_blk bb 3).trans (rfl : _ = some (Value.int .i64 x3)); have d4 := (cell_of_blk bb 4).trans (rfl : _ = some (Value.int .u64 (x4 : Int))); have d5 := (cell_of_blk bb 5).trans (rfl : _ = some (Value.int .u64 (x5 : Int))); have d6 := (cell_of_blk bb 6).trans (rfl : _ = some (Value.int .u64 (x6 : Int))); have d7 := (cell_of_blk bb 7).trans (rfl : _ = some (Value.int .i64 x7)); have d8 := (cell_of_blk bb 8).trans (rfl : _ = some (Value.int .i64 x8)); have d9 := (cell_of_blk bb 9).trans (rfl : _ = some (Value.string x9)); have d10 := (cell_of_blk bb 10).trans (rfl : _ = some (Value.string x10)); have d11 := (cell_of_blk bb 11).trans (rfl : _ = some (Value.string x11)); have d12 := (cell_of_blk bb 12).trans (rfl : _ = some (Value.slice A (l).length c)); have br := T15.out.res; have z0 := (cell_of_blk br 0).trans (rfl : _ = some (Value.int .i64 0)); have z1 := (cell_of_blk br 1).trans (rfl : _ = some (Value.int .i64 0)); have z2 := (cell_of_blk br 2).trans (rfl : _ = some (Value.int .u64 0)); have z3 := (cell_of_blk br 3).trans (rfl : _ = some (Value.int .i64 0)); have z4 := (cell_of_blk br 4).trans (rfl : _ = some (Value.int .u64 0)); have z5 := (cell_of_blk br 5).trans (rfl : _ = some (Value.int .u64 0)); have z6 := (cell_of_blk br 6).trans (rfl : _ = some (Value.int .u64 0)); have z7 := (cell_of_blk br 7).trans (rfl : _ = some (Value.int .i64 0)); have z8 := (cell_of_blk br 8).trans (rfl : _ = some (Value.int .i64 0)); have z9 := (cell_of_blk br 9).trans (rfl : _ = some (Value.string ⟨#[]⟩)); have z10 := (cell_of_blk br 10).trans (rfl : _ = some (Value.string ⟨#[]⟩)); have z11 := (cell_of_blk br 11).trans (rfl : _ = some (Value.string ⟨#[]⟩)); have z12 := (cell_of_blk br 12).trans (rfl : _ = some (Value.slice none 0 0)); have zf0 := frozen_of_blk br 0; have zf1 := frozen_of_blk br 1; have zf2 := frozen_of_blk br 2; have zf3 := frozen_of_blk br 3; have zf4 := frozen_of_blk br 4; have zf5 := frozen_of_blk br 5; have zf6 := frozen_of_blk br 6; have zf7 := frozen_of_blk br 7; have zf8 := frozen_of_blk br 8; have zf9 := frozen_of_blk br 9; have zf10 := frozen_of_blk br 10; have zf11 := frozen_of_blk br 11; have zf12 := frozen_of_blk br 12; clear bb br) | (go_at_call 37; refine (rrd_End (w.heap.size + 1) s13 e13 0 _ T15.out.rdr HZ13.out H13.out).mono ?_; rintro e w' ⟨rfl, rfl⟩))
  have hfin := set_blk13 T15.out.res (.int .i64 (x0 : Int)) (.int .i64 (x1 : Int)) (.int .u64 (x2 : Int)) (.int .i64 x3) (.int .u64 (x4 : Int)) (.int .u64 (x5 : Int)) (.int .u64 (x6 : Int)) (.int .i64 x7) (.int .i64 x8) (.string x9) (.string x10) (.string x11) (.slice A l.length c)
  have hbel := (((((((((((((T15.out.low.setCell (p := ⟨w.heap.size, 0, none⟩) (Nat.le_refl _) (.int .i64 (x0 : Int))).setCell (p := ⟨w.heap.size, 1, none⟩) (Nat.le_refl _) (.int .i64 (x1 : Int))).setCell (p := ⟨w.heap.size, 2, none⟩) (Nat.le_refl _) (.int .u64 (x2 : Int))).setCell (p := ⟨w.heap.size, 3, none⟩) (Nat.le_refl _) (.int .i64 x3)).setCell (p := ⟨w.heap.size, 4, none⟩) (Nat.le_refl _) (.int .u64 (x4 : Int))).setCell (p := ⟨w.heap.size, 5, none⟩) (Nat.le_refl _) (.int .u64 (x5 : Int))).setCell (p := ⟨w.heap.size, 6, none⟩) (Nat.le_refl _) (.int .u64 (x6 : Int))).setCell (p := ⟨w.heap.size, 7, none⟩) (Nat.le_refl _) (.int .i64 x7)).setCell (p := ⟨w.heap.size, 8, none⟩) (Nat.le_refl _) (.int .i64 x8)).setCell (p := ⟨w.heap.size, 9, none⟩) (Nat.le_refl _) (.string x9)).setCell (p := ⟨w.heap.size, 10, none⟩) (Nat.le_refl _) (.string x10)).setCell (p := ⟨w.heap.size, 11, none⟩) (Nat.le_refl _) (.string x11)).setCell (p := ⟨w.heap.size, 12, none⟩) (Nat.le_refl _) (.slice A l.length c))
  have hrow9 := row_finR T15.out HR15.out HLT.out (y0 := .int .i64 (x0 : Int)) (y1 := .int .i64 (x1 : Int)) (y2 := .int .u64 (x2 : Int)) (y3 := .int .i64 x3) (y4 := .int .u64 (x4 : Int)) (y5 := .int .u64 (x5 : Int)) (y6 := .int .u64 (x6 : Int)) (y7 := .int .i64 x7) (y8 := .int .i64 x8) (y9 := .string x9) (y10 := .string x10) (y11 := .string x11) (y12 := .slice A l.length c)
  generalize (((((((((((((W15.setCell ⟨w.heap.size, 0, none⟩ (.int .i64 (x0 : Int))).setCell ⟨w.heap.size, 1, none⟩ (.int .i64 (x1 : Int))).setCell ⟨w.heap.size, 2, none⟩ (.int .u64 (x2 : Int))).setCell ⟨w.heap.size, 3, none⟩ (.int .i64 x3)).setCell ⟨w.heap.size, 4, none⟩ (.int .u64 (x4 : Int))).setCell ⟨w.heap.size, 5, none⟩ (.int .u64 (x5 : Int))).setCell ⟨w.heap.size, 6, none⟩ (.int .u64 (x6 : Int))).setCell ⟨w.heap.size, 7, none⟩ (.int .i64 x7)).setCell ⟨w.heap.size, 8, none⟩ (.int .i64 x8)).setCell ⟨w.heap.size, 9, none⟩ (.string x9)).setCell ⟨w.heap.size, 10, none⟩ (.string x10)).setCell ⟨w.heap.size, 11, none⟩ (.string x11)).setCell ⟨w.heap.size, 12, none⟩ (.slice A l.length c)) = Fw at *
  have r0 := (cell_of_blk hfin 0).trans (rfl : _ = some (Value.int .i64 (x0 : Int)))
  have r1 := (cell_of_blk hfin 1).trans (rfl : _ = some (Value.int .i64 (x1 : Int)))
  have r2 := (cell_of_blk hfin 2).trans (rfl : _ = some (Value.int .u64 (x2 : Int)))
  have r3 := (cell_of_blk hfin 3).trans (rfl : _ = some (Value.int .i64 x3))
  have r4 := (cell_of_blk hfin 4).trans (rfl : _ = some (Value.int .u64 (x4 : Int)))
  have r5 := (cell_of_blk hfin 5).trans (rfl : _ = some (Value.int .u64 (x5 : Int)))
  have r6 := (cell_of_blk hfin 6).trans (rfl : _ = some (Value.int .u64 (x6 : Int)))
  have r7 := (cell_of_blk hfin 7).trans (rfl : _ = some (Value.int .i64 x7))
  have r8 := (cell_of_blk hfin 8).trans (rfl : _ = some (Value.int .i64 x8))
  have r9 := (cell_of_blk hfin 9).trans (rfl : _ = some (Value.string x9))
  have r10 := (cell_of_blk hfin 10).trans (rfl : _ = some (Value.string x10))
  have r11 := (cell_of_blk hfin 11).trans (rfl : _ = some (Value.string x11))
  have r12 := (cell_of_blk hfin 12).trans (rfl : _ = some (Value.slice A l.length c))
  clear hfin
  refine bodyPost_ret (v := .tuple #[.agg #[.int .i64 (x0 : Int), .int .i64 (x1 : Int), .int .u64 (x2 : Int), .int .i64 x3, .int .u64 (x4 : Int), .int .u64 (x5 : Int), .int .u64 (x6 : Int), .int .i64 x7, .int .i64 x8, .string x9, .string x10, .string x11, .slice A l.length c], .int .i64 0]) (by simp [results, Try.results16, go_sem, r0, r1, r2, r3, r4, r5, r6, r7, r8, r9, r10, r11, r12]) rfl ?_
  exact ⟨_, rfl, hrow9, hbel⟩
end Go.Proofs.Ytcfdbdmefdffdaa
/-
  The reference's Take of chapter 12: its contract. Printed by gentakeref.py.
-/
set_option linter.unusedVariables false
set_option linter.unusedSimpArgs false
namespace Go.Proofs.Ytcfdbdmefdffdaa
open Go Go.RowKit Go.Proofs.Base
theorem ref12_Take (s : ByteArray) (w : World) (hs : s.size ≤ 140737488351232) :
    Calls Try.prog 16 #[.string s] w (TakePost w (recTake s)) := by
  have d0 : rdByte s 0 = tk0 s := rfl
  have z0 := rdByte_size s 0
  have y0 := rdByte_lt s 0
  rw [d0] at z0 y0
  have d1 : rdByte (tk0 s).2.1 (tk0 s).2.2 = tk1 s := rfl
  have z1 := rdByte_size (tk0 s).2.1 (tk0 s).2.2
  have y1 := rdByte_lt (tk0 s).2.1 (tk0 s).2.2
  rw [d1] at z1 y1
  have d2 : rdUint (tk1 s).2.1 (tk1 s).2.2 = tk2 s := rfl
  have z2 := rdUint_size (tk1 s).2.1 (tk1 s).2.2
  have y2 := rdUint_lt (tk1 s).2.1 (tk1 s).2.2
  rw [d2] at z2 y2
  have d3 : rdInt (tk2 s).2.1 (tk2 s).2.2 = tk3 s := rfl
  have z3 := rdInt_size (tk2 s).2.1 (tk2 s).2.2
  have y3 := rdInt_i64 (tk2 s).2.1 (tk2 s).2.2
  rw [d3] at z3 y3
  have d4 : rdUint (tk3 s).2.1 (tk3 s).2.2 = tk4 s := rfl
  have z4 := rdUint_size (tk3 s).2.1 (tk3 s).2.2
  have y4 := rdUint_lt (tk3 s).2.1 (tk3 s).2.2
  rw [d4] at z4 y4
  have d5 : rdUint (tk4 s).2.1 (tk4 s).2.2 = tk5 s := rfl
  have z5 := rdUint_size (tk4 s).2.1 (tk4 s).2.2
  have y5 := rdUint_lt (tk4 s).2.1 (tk4 s).2.2
  rw [d5] at z5 y5
  have d6 : rdUint (tk5 s).2.1 (tk5 s).2.2 = tk6 s := rfl
  have z6 := rdUint_size (tk5 s).2.1 (tk5 s).2.2
  have y6 := rdUint_lt (tk5 s).2.1 (tk5 s).2.2
  rw [d6] at z6 y6
  have d7 : rdInt (tk6 s).2.1 (tk6 s).2.2 = tk7 s := rfl
  have z7 := rdInt_size (tk6 s).2.1 (tk6 s).2.2
  have y7 := rdInt_i64 (tk6 s).2.1 (tk6 s).2.2
  rw [d7] at z7 y7
  have d8 : rdInt (tk7 s).2.1 (tk7 s).2.2 = tk8 s := rfl
  have z8 := rdInt_size (tk7 s).2.1 (tk7 s).2.2
  have y8 := rdInt_i64 (tk7 s).2.1 (tk7 s).2.2
  rw [d8] at z8 y8
  have d9 : rdText 8192 (tk8 s).2.1 (tk8 s).2.2 = tk9 s := rfl
  have z9 := rdText_size 8192 (tk8 s).2.1 (tk8 s).2.2
  have y9 := rdText_res 8192 (tk8 s).2.1 (tk8 s).2.2
  rw [d9] at z9 y9
  have d10 : rdText 8192 (tk9 s).2.1 (tk9 s).2.2 = tk10 s := rfl
  have z10 := rdText_size 8192 (tk9 s).2.1 (tk9 s).2.2
  have y10 := rdText_res 8192 (tk9 s).2.1 (tk9 s).2.2
  rw [d10] at z10 y10
  have d11 : rdText 32 (tk10 s).2.1 (tk10 s).2.2 = tk11 s := rfl
  have z11 := rdText_size 32 (tk10 s).2.1 (tk10 s).2.2
  have y11 := rdText_res 32 (tk10 s).2.1 (tk10 s).2.2
  rw [d11] at z11 y11
  have d12 : takeVars (tk11 s).2.1 (tk11 s).2.2 = tk12 s := rfl
  unfold recTake tkRec
  generalize tk0 s = q0 at *
  generalize tk1 s = q1 at *
  generalize tk2 s = q2 at *
  generalize tk3 s = q3 at *
  generalize tk4 s = q4 at *
  generalize tk5 s = q5 at *
  generalize tk6 s = q6 at *
  generalize tk7 s = q7 at *
  generalize tk8 s = q8 at *
  generalize tk9 s = q9 at *
  generalize tk10 s = q10 at *
  generalize tk11 s = q11 at *
  generalize tk12 s = q12 at *
  obtain ⟨x0, s1, e1⟩ := q0
  obtain ⟨x1, s2, e2⟩ := q1
  obtain ⟨x2, s3, e3⟩ := q2
  obtain ⟨x3, s4, e4⟩ := q3
  obtain ⟨x4, s5, e5⟩ := q4
  obtain ⟨x5, s6, e6⟩ := q5
  obtain ⟨x6, s7, e7⟩ := q6
  obtain ⟨x7, s8, e8⟩ := q7
  obtain ⟨x8, s9, e9⟩ := q8
  obtain ⟨x9, s10, e10⟩ := q9
  obtain ⟨x10, s11, e11⟩ := q10
  obtain ⟨x11, s12, e12⟩ := q11
  obtain ⟨o, s13, e13⟩ := q12
  simp only at *
  have u1 : s1.size ≤ 140737488351232 := by omega
  have u2 : s2.size ≤ 140737488351232 := by omega
  have u3 : s3.size ≤ 140737488351232 := by omega
  have u4 : s4.size ≤ 140737488351232 := by omega
  have u5 : s5.size ≤ 140737488351232 := by omega
  have u6 : s6.size ≤ 140737488351232 := by omega
  have u7 : s7.size ≤ 140737488351232 := by omega
  have u8 : s8.size ≤ 140737488351232 := by omega
  have u9 : s9.size ≤ 140737488351232 := by omega
  have u10 : s10.size ≤ 140737488351232 := by omega
  have u11 : s11.size ≤ 140737488351232 := by omega
  have u12 : s12.size ≤ 140737488351232 := by omega
  have u13 : s13.size ≤ 140737488351232 := by have := takeVars_size s12 e12; rw [d12] at this; simp only at this; omega
  cases o with
  | none => exact ref12_Take_a s w x0 s1 e1 x1 s2 e2 x2 s3 e3 x3 s4 e4 x4 s5 e5 x5 s6 e6 x6 s7 e7 x7 s8 e8 x8 s9 e9 x9 s10 e10 x10 s11 e11 x11 s12 e12 s13 e13 hs (by omega) (by omega) d0 d1 d2 d3 d4 d5 d6 d7 d8 d9 d10 d11 u1 u2 u3 u4 u5 u6 u7 u8 u9 u10 u11 u12 d12 _ (⟨(⟨by omega, by omega⟩ : i64 (x0 : Int)), (⟨by omega, by omega⟩ : i64 (x1 : Int)), (⟨by omega, by omega⟩ : u64 (x2 : Int)), y3, (⟨by omega, by omega⟩ : u64 (x4 : Int)), (⟨by omega, by omega⟩ : u64 (x5 : Int)), (⟨by omega, by omega⟩ : u64 (x6 : Int)), y7, y8, (show x9.size ≤ _ by omega), (show x10.size ≤ _ by omega), (show x11.size ≤ _ by omega),(fun x hx => by cases hx)⟩ : (⟨(x0 : Int), (x1 : Int), (x2 : Int), x3, (x4 : Int), (x5 : Int), (x6 : Int), x7, x8, x9, x10, x11, ([] : List GVar)⟩ : GRec).wf) rfl u13
  | some l =>
    simp only
    have hl := takeVars_wf u12 d12
    have hwf : (⟨(x0 : Int), (x1 : Int), (x2 : Int), x3, (x4 : Int), (x5 : Int), (x6 : Int), x7, x8, x9, x10, x11, l⟩ : GRec).wf := ⟨(⟨by omega, by omega⟩ : i64 (x0 : Int)), (⟨by omega, by omega⟩ : i64 (x1 : Int)), (⟨by omega, by omega⟩ : u64 (x2 : Int)), y3, (⟨by omega, by omega⟩ : u64 (x4 : Int)), (⟨by omega, by omega⟩ : u64 (x5 : Int)), (⟨by omega, by omega⟩ : u64 (x6 : Int)), y7, y8, (show x9.size ≤ _ by omega), (show x10.size ≤ _ by omega), (show x11.size ≤ _ by omega), hl⟩
    by_cases he : rdEnd s13 e13 = 0
    · split
      · rename_i hc
        exact ref12_Take_d s w x0 s1 e1 x1 s2 e2 x2 s3 e3 x3 s4 e4 x4 s5 e5 x5 s6 e6 x6 s7 e7 x7 s8 e8 x8 s9 e9 x9 s10 e10 x10 s11 e11 x11 s12 e12 l s13 e13 hs (by omega) (by omega) d0 d1 d2 d3 d4 d5 d6 d7 d8 d9 d10 d11 u1 u2 u3 u4 u5 u6 u7 u8 u9 u10 u11 u12 d12 he hwf hc.2 u13
      · rename_i hc
        exact ref12_Take_c s w x0 s1 e1 x1 s2 e2 x2 s3 e3 x3 s4 e4 x4 s5 e5 x5 s6 e6 x6 s7 e7 x7 s8 e8 x8 s9 e9 x9 s10 e10 x10 s11 e11 x11 s12 e12 l s13 e13 hs (by omega) (by omega) d0 d1 d2 d3 d4 d5 d6 d7 d8 d9 d10 d11 u1 u2 u3 u4 u5 u6 u7 u8 u9 u10 u11 u12 d12 he hwf (by
          rw [Bool.eq_false_iff]
          exact fun hm => hc ⟨he, hm⟩) u13
    · rw [if_neg (fun hc => he hc.1)]
      exact ref12_Take_b s w x0 s1 e1 x1 s2 e2 x2 s3 e3 x3 s4 e4 x4 s5 e5 x5 s6 e6 x6 s7 e7 x7 s8 e8 x8 s9 e9 x9 s10 e10 x10 s11 e11 x11 s12 e12 l s13 e13 hs (by omega) (by omega) d0 d1 d2 d3 d4 d5 d6 d7 d8 d9 d10 d11 u1 u2 u3 u4 u5 u6 u7 u8 u9 u10 u11 u12 d12 _ rfl he _ hwf rfl u13
end Go.Proofs.Ytcfdbdmefdffdaa
/-
  What '==' of values, variables and bare records gives.
-/
set_option linter.unusedVariables false
set_option linter.unusedSimpArgs false
namespace Go.Proofs.Ytcfdbdmefdffdaa
open Go Go.RowKit Go.Proofs.Base
theorem und_var : Try.prog.underlying 52 = some (.struct (Try.prog.fieldsOf 52)) := by kernel_rfl
theorem held_var : Try.prog.stoodInHeld 52 = false := by kernel_rfl
theorem guard_var : Try.prog.eqGuardType Try.prog.depth 52 = false := by kernel_rfl
theorem und_value : Try.prog.underlying 50 = some (.struct (Try.prog.fieldsOf 50)) := by kernel_rfl
theorem held_value : Try.prog.stoodInHeld 50 = false := by kernel_rfl
theorem cells_v : Try.prog.cellsOf 50 = 3 := by kernel_rfl
theorem cells_s : Try.prog.cellsOf 9 = 1 := by kernel_rfl
theorem cells_i : Try.prog.cellsOf 3 = 1 := by kernel_rfl
theorem cells_i64 : Try.prog.cellsOf 2 = 1 := by kernel_rfl
set_option maxRecDepth 10000 in
theorem eq_value (d : Nat) (w : World) (x y : GVal) : (Op.equalIn (d + 2) 50 (.agg #[.int .i64 x.k, .int .i64 x.n, .string x.s]) (.agg #[.int .i64 y.k, .int .i64 y.n, .string y.s])).run Try.prog w = .ok (x.k == y.k && (x.n == y.n && x.s.toList == y.s.toList)) w := by
  rw [run_equalIn_agg w _ _ _ _ und_value held_value]
  simp only [Program.fieldsOf, Try.underlying50]
  simp [Op.eqFields, go_sem, Try.underlying3, Try.underlying2, Try.underlying9, cells_s, cells_i, cells_i64]
  by_cases h1 : x.k = y.k <;> by_cases h2 : x.n = y.n <;> by_cases h3 : x.s.toList = y.s.toList <;> simp [h1, h2, h3]
set_option maxRecDepth 10000 in
theorem eq_var (d : Nat) (w : World) (x y : GVar) : (Op.equalIn (d + 3) 52 (.agg #[.string x.name, .int .i64 x.v.k, .int .i64 x.v.n, .string x.v.s]) (.agg #[.string y.name, .int .i64 y.v.k, .int .i64 y.v.n, .string y.v.s])).run Try.prog w = .ok (x.name.toList == y.name.toList && (x.v.k == y.v.k && (x.v.n == y.v.n && x.v.s.toList == y.v.s.toList))) w := by
  rw [run_equalIn_agg w _ _ _ _ und_var held_var]
  have hv := eq_value d w x.v y.v
  simp only [Program.fieldsOf, Try.underlying52]
  simp [Op.eqFields, go_sem, Try.underlying9, cells_s, cells_v, hv]
  by_cases h1 : x.name.toList = y.name.toList <;> by_cases h2 : x.v.k = y.v.k <;> by_cases h3 : x.v.n = y.v.n <;> by_cases h4 : x.v.s.toList = y.v.s.toList <;> simp [h1, h2, h3, h4]
theorem var_same (x y : GVar) : (x.name.toList == y.name.toList && (x.v.k == y.v.k && (x.v.n == y.v.n && x.v.s.toList == y.v.s.toList))) = true ↔ x = y := by
  simp only [Bool.and_eq_true, beq_iff_eq, toList_toL]
  constructor
  · rintro ⟨h1, h2, h3, h4⟩
    exact GVar.ext (toL_inj h1) (GVal.ext h2 h3 (toL_inj h4))
  · rintro rfl
    exact ⟨rfl, rfl, rfl, rfl⟩
theorem neq_var_f (x : GVar) (w : World) : (binOp .neq 52 (.agg #[.string x.name, .int .i64 x.v.k, .int .i64 x.v.n, .string x.v.s]) (.agg #[.string x.name, .int .i64 x.v.k, .int .i64 x.v.n, .string x.v.s])).run Try.prog w = .ok (.bool false) w := by
  rw [run_neq_struct, eq_var 9997]
  simp [(var_same x x).2 rfl]
theorem neq_var_t {x y : GVar} (h : x ≠ y) (w : World) : (binOp .neq 52 (.agg #[.string x.name, .int .i64 x.v.k, .int .i64 x.v.n, .string x.v.s]) (.agg #[.string y.name, .int .i64 y.v.k, .int .i64 y.v.n, .string y.v.s])).run Try.prog w = .ok (.bool true) w := by
  rw [run_neq_struct, eq_var 9997]
  have : (x.name.toList == y.name.toList && (x.v.k == y.v.k && (x.v.n == y.v.n && x.v.s.toList == y.v.s.toList))) = false := by
    rw [Bool.eq_false_iff]
    exact fun hh => h ((var_same x y).1 hh)
  rw [this]
  rfl
end Go.Proofs.Ytcfdbdmefdffdaa
/-
  The walks of slices.Equal of variables, and of the reference's Same. Printed by gensame.py.
-/
set_option linter.unusedVariables false
set_option linter.unusedSimpArgs false
namespace Go.Proofs.Ytcfdbdmefdffdaa
open Go Go.RowKit Go.Proofs.Base
open Go.Sort (grow)
theorem same_false {l1 l2 : List GVar} {t : Bool} (ht : t = true ↔ l1 = l2) (h : l1 ≠ l2) : t = false := by
  cases t
  · rfl
  · exact absurd (ht.1 rfl) h
set_option maxRecDepth 100000 in
set_option maxHeartbeats 1000000 in
theorem ref9_Same (S : Nat → Prop) (l1 l2 : List GVar) (n m : Nat) (v1 v2 : Value) (t : Bool) (w : World) (hn : l1.length = n) (hm : l2.length = m) (h1 : Row w S 4 n v1 (varCells l1)) (h2 : Row w S 4 m v2 (varCells l2)) (ht : t = true ↔ l1 = l2) :
    Calls Try.prog 24 #[v1, v2] w fun e w' => e = .returned (.bool t) ∧ Below w.heap.size w w' := by
  obtain ⟨A1, c1, rfl, _, _⟩ := h1.open_
  obtain ⟨A2, c2, rfl, _, _⟩ := h2.open_
  by_cases hnm : n = m
  · subst hnm
    have hb := bne_f (a := (n : Int)) (b := (n : Int)) rfl
    have HT := Lib.hid ht
    have H1 := Lib.hid h1
    have H2 := Lib.hid h2
    have Hn := Lib.hid hn
    have Hm := Lib.hid hm
    clear ht h1 h2 hn hm
    go_enter Try.func24, Try.ntmps24
    go_wp2_with fail
    go_loopw [5] (fun i wr => ∃ k : Nat, k ≤ n ∧ i = .int .i64 k ∧ Hid (l1.take k = l2.take k) ∧ Below w.heap.size w wr) (fun i _ => n - (intOf i).toNat)
    case atStart => exact ⟨0, by omega, rfl, Lib.hid rfl, Below.refl _ _⟩
    case round =>
      obtain ⟨k, hk, rfl, HK, hbl⟩ := hrel
      by_cases hkn : k < n
      · have hk1 : k < l1.length := by rw [Hn.out]; exact hkn
        have hk2 : k < l2.length := by rw [Hm.out]; exact hkn
        obtain ⟨b, o, rfl, _, hlt, hc⟩ := H1.out.at_ (by omega)
        obtain ⟨b', o', rfl, _, hlt', hc'⟩ := H2.out.at_ (by omega)
        obtain ⟨x0, x1, x2, x3⟩ := varCells_at hk1
        obtain ⟨y0, y1, y2, y3⟩ := varCells_at hk2
        have kx0 := (hbl.cell (p := ⟨b, o + k * 4 + 0, none⟩) hlt).trans (hc k 0 _ x0)
        have kx1 := (hbl.cell (p := ⟨b, o + k * 4 + 1, none⟩) hlt).trans (hc k 1 _ x1)
        have kx2 := (hbl.cell (p := ⟨b, o + k * 4 + 2, none⟩) hlt).trans (hc k 2 _ x2)
        have kx3 := (hbl.cell (p := ⟨b, o + k * 4 + 3, none⟩) hlt).trans (hc k 3 _ x3)
        have ky0 := (hbl.cell (p := ⟨b', o' + k * 4 + 0, none⟩) hlt').trans (hc' k 0 _ y0)
        have ky1 := (hbl.cell (p := ⟨b', o' + k * 4 + 1, none⟩) hlt').trans (hc' k 1 _ y1)
        have ky2 := (hbl.cell (p := ⟨b', o' + k * 4 + 2, none⟩) hlt').trans (hc' k 2 _ y2)
        have ky3 := (hbl.cell (p := ⟨b', o' + k * 4 + 3, none⟩) hlt').trans (hc' k 3 _ y3)
        rw [Nat.add_zero] at kx0 ky0
        clear x0 x1 x2 x3 y0 y1 y2 y3 hc hc'
        have Hx : Hid (l1[k]? = some l1[k] ∧ l2[k]? = some l2[k]) := Lib.hid ⟨List.getElem?_eq_getElem hk1, List.getElem?_eq_getElem hk2⟩
        generalize l1[k] = x at *
        generalize l2[k] = y at *
        have qx0 := cell_regrown kx0
        have qx1 := cell_regrown kx1
        have qx2 := cell_regrown kx2
        have qx3 := cell_regrown kx3
        have qy0 := cell_regrown ky0
        have qy1 := cell_regrown ky1
        have qy2 := cell_regrown ky2
        have qy3 := cell_regrown ky3
        clear kx0 kx1 kx2 kx3 ky0 ky1 ky2 ky3 hk1 hk2
        have hg := guard_var
        by_cases hxy : x = y
        · subst hxy
          have hcmp := neq_var_f x
          go_wp2_with fail
          refine wp_region_quiet_below (by kernel_rfl) (by kernel_rfl) ?_
          repeat (first | go_big_quiet_step (fail) | quiet_step (fail))
          refine wpQuiet_nil ?_
          intro _ hw'
          obtain ⟨⟨dq, osq⟩, hw''⟩ := hw'
          subst hw''
          have hbq := below_regrown wr dq osq
          have HB2 := Lib.hid (below2 hbl hbq)
          have HK2 : Hid (l1.take (k + 1) = l2.take (k + 1)) := Lib.hid (by rw [List.take_add_one, List.take_add_one, HK.out, Hx.out.1, Hx.out.2])
          clear hbq hcmp
          go_wp2_with fail
          go_roundw
          case rel => exact ⟨k + 1, by omega, by go_num, HK2, HB2.out⟩
          case measure => simp [intOf]; omega
        · have hcmp := neq_var_t hxy
          have htf : t = false := same_false HT.out (fun hl => hxy (by have h := Hx.out; rw [hl] at h; exact Option.some.inj (h.1.symm.trans h.2)))
          have HTF := Lib.hid htf
          clear hxy htf
          go_wp2_with fail
          refine wp_region_quiet_below (by kernel_rfl) (by kernel_rfl) ?_
          repeat (first | go_big_quiet_step (fail) | quiet_step (fail))
          refine wpQuiet_nil ?_
          intro _ hw'
          obtain ⟨⟨dq, osq⟩, hw''⟩ := hw'
          subst hw''
          have hbq := below_regrown wr dq osq
          have HB2 := Lib.hid (below2 hbl hbq)
          clear hbq hcmp
          go_wp2_with fail
          go_ret
          exact ⟨by rw [HTF.out]; rfl, HB2.out⟩
      · have hkn2 : k = n := by omega
        have htt : t = true := HT.out.2 (by have h := HK.out; rwa [List.take_of_length_le (by rw [Hn.out]; omega), List.take_of_length_le (by rw [Hm.out]; omega)] at h)
        have HTT := Lib.hid htt
        clear htt hkn2
        go_wp2_with fail
        go_ret
        exact ⟨by rw [HTT.out]; rfl, hbl⟩
  · have htf : t = false := same_false ht (fun hl => hnm (by rw [← hn, ← hm, hl]))
    have hb := bne_t (a := (n : Int)) (b := (m : Int)) (by omega)
    have HTF := Lib.hid htf
    clear htf hnm ht h1 h2 hn hm
    go_enter Try.func24, Try.ntmps24
    go_wp2_with fail
    go_ret
    exact ⟨by rw [HTF.out]; rfl, Below.refl _ _⟩
end Go.Proofs.Ytcfdbdmefdffdaa
/-
  What '==' of records without their variables gives. Printed by geneq2.py.
-/
set_option linter.unusedVariables false
set_option linter.unusedSimpArgs false
namespace Go.Proofs.Ytcfdbdmefdffdaa
open Go Go.RowKit Go.Proofs.Base
end Go.Proofs.Ytcfdbdmefdffdaa
/-
  The walks of rec.bare and rec.Same. Printed by gensameb.py.
-/
set_option linter.unusedVariables false
set_option linter.unusedSimpArgs false
namespace Go.Proofs.Ytcfdbdmefdffdaa
open Go Go.RowKit Go.Proofs.Base
open Go.Sort (grow)
end Go.Proofs.Ytcfdbdmefdffdaa
/-
  The walk of the reference's Same of records, ways [-1, 0, 1, 2]. Printed by gensamec.py.
-/
set_option linter.unusedVariables false
set_option linter.unusedSimpArgs false
namespace Go.Proofs.Ytcfdbdmefdffdaa
open Go Go.RowKit Go.Proofs.Base
open Go.Sort (grow)
set_option maxRecDepth 100000 in
set_option maxHeartbeats 8000000 in
theorem ref12_Same_0 (r s : GRec) (A1 A2 : Option Addr) (c1 c2 : Nat) (S : Nat → Prop) (w : World) (h1 : Row w S 4 r.vars.length (.slice A1 r.vars.length c1) (varCells r.vars)) (h2 : Row w S 4 s.vars.length (.slice A2 s.vars.length c2) (varCells s.vars)) (ht : (false = true) ↔ r.vars = s.vars)  :
    Calls Try.prog 14 #[.agg #[.int .i64 r.cls, .int .i64 r.kind, .int .u64 r.frm, .int .i64 r.time, .int .u64 r.key, .int .u64 r.key2, .int .u64 r.key3, .int .i64 r.n, .int .i64 r.m, .string r.a, .string r.b, .string r.c, .slice A1 r.vars.length c1], .agg #[.int .i64 s.cls, .int .i64 s.kind, .int .u64 s.frm, .int .i64 s.time, .int .u64 s.key, .int .u64 s.key2, .int .u64 s.key3, .int .i64 s.n, .int .i64 s.m, .string s.a, .string s.b, .string s.c, .slice A2 s.vars.length c2]] w fun e w' => e = .returned (.bool false) ∧ Below w.heap.size w w' := by
  have hb : Below w.heap.size w ((w.alloc (.cells #[.int .i64 r.cls, .int .i64 r.kind, .int .u64 r.frm, .int .i64 r.time, .int .u64 r.key, .int .u64 r.key2, .int .u64 r.key3, .int .i64 r.n, .int .i64 r.m, .string r.a, .string r.b, .string r.c, .slice A1 r.vars.length c1] 25)).alloc (.cells #[.int .i64 s.cls, .int .i64 s.kind, .int .u64 s.frm, .int .i64 s.time, .int .u64 s.key, .int .u64 s.key2, .int .u64 s.key3, .int .i64 s.n, .int .i64 s.m, .string s.a, .string s.b, .string s.c, .slice A2 s.vars.length c2] 25)) := ((Below.refl _ _).alloc (Nat.le_refl _) _).alloc (by simp) _
  have b1 : ((w.alloc (.cells #[.int .i64 r.cls, .int .i64 r.kind, .int .u64 r.frm, .int .i64 r.time, .int .u64 r.key, .int .u64 r.key2, .int .u64 r.key3, .int .i64 r.n, .int .i64 r.m, .string r.a, .string r.b, .string r.c, .slice A1 r.vars.length c1] 25)).alloc (.cells #[.int .i64 s.cls, .int .i64 s.kind, .int .u64 s.frm, .int .i64 s.time, .int .u64 s.key, .int .u64 s.key2, .int .u64 s.key3, .int .i64 s.n, .int .i64 s.m, .string s.a, .string s.b, .string s.c, .slice A2 s.vars.length c2] 25)).heap[w.heap.size]? = some (.cells #[.int .i64 r.cls, .int .i64 r.kind, .int .u64 r.frm, .int .i64 r.time, .int .u64 r.key, .int .u64 r.key2, .int .u64 r.key3, .int .i64 r.n, .int .i64 r.m, .string r.a, .string r.b, .string r.c, .slice A1 r.vars.length c1] 25 (0, 0)) := blk_old _ (blk_new _ _ rfl)
  have b2 : ((w.alloc (.cells #[.int .i64 r.cls, .int .i64 r.kind, .int .u64 r.frm, .int .i64 r.time, .int .u64 r.key, .int .u64 r.key2, .int .u64 r.key3, .int .i64 r.n, .int .i64 r.m, .string r.a, .string r.b, .string r.c, .slice A1 r.vars.length c1] 25)).alloc (.cells #[.int .i64 s.cls, .int .i64 s.kind, .int .u64 s.frm, .int .i64 s.time, .int .u64 s.key, .int .u64 s.key2, .int .u64 s.key3, .int .i64 s.n, .int .i64 s.m, .string s.a, .string s.b, .string s.c, .slice A2 s.vars.length c2] 25)).heap[w.heap.size + 1]? = some (.cells #[.int .i64 s.cls, .int .i64 s.kind, .int .u64 s.frm, .int .i64 s.time, .int .u64 s.key, .int .u64 s.key2, .int .u64 s.key3, .int .i64 s.n, .int .i64 s.m, .string s.a, .string s.b, .string s.c, .slice A2 s.vars.length c2] 25 (0, 0)) := blk_new _ _ (by simp)
  have H1 := Lib.hid (h1.below hb)
  have H2 := Lib.hid (h2.below hb)
  have HB := Lib.hid hb
  have HB1 := Lib.hid b1
  have HB2 := Lib.hid b2
  have HTV := Lib.hid ht
  clear hb b1 b2 h1 h2 ht
  go_enter Try.func14, Try.ntmps14
  go_wp2_with (go_at_call 24; refine (ref9_Same S r.vars s.vars _ _ _ _ false _ rfl rfl H1.out H2.out HTV.out).mono ?_; rintro e w1 ⟨rfl, hb1⟩; have B1 := block_below hb1 HB1.out; have B2 := block_below hb1 HB2.out; have HB9 := Lib.hid (below2 HB.out hb1); clear B1 B2 hb1 HB1 HB2 HB H1 H2 HTV)
  go_ret
  exact ⟨rfl, HB9.out⟩
set_option maxRecDepth 100000 in
set_option maxHeartbeats 8000000 in
theorem ref12_Same_1 (r s : GRec) (A1 A2 : Option Addr) (c1 c2 : Nat) (S : Nat → Prop) (w : World) (h1 : Row w S 4 r.vars.length (.slice A1 r.vars.length c1) (varCells r.vars)) (h2 : Row w S 4 s.vars.length (.slice A2 s.vars.length c2) (varCells s.vars)) (ht : (true = true) ↔ r.vars = s.vars) (g0 : (r.cls == s.cls) = false) :
    Calls Try.prog 14 #[.agg #[.int .i64 r.cls, .int .i64 r.kind, .int .u64 r.frm, .int .i64 r.time, .int .u64 r.key, .int .u64 r.key2, .int .u64 r.key3, .int .i64 r.n, .int .i64 r.m, .string r.a, .string r.b, .string r.c, .slice A1 r.vars.length c1], .agg #[.int .i64 s.cls, .int .i64 s.kind, .int .u64 s.frm, .int .i64 s.time, .int .u64 s.key, .int .u64 s.key2, .int .u64 s.key3, .int .i64 s.n, .int .i64 s.m, .string s.a, .string s.b, .string s.c, .slice A2 s.vars.length c2]] w fun e w' => e = .returned (.bool false) ∧ Below w.heap.size w w' := by
  have hb : Below w.heap.size w ((w.alloc (.cells #[.int .i64 r.cls, .int .i64 r.kind, .int .u64 r.frm, .int .i64 r.time, .int .u64 r.key, .int .u64 r.key2, .int .u64 r.key3, .int .i64 r.n, .int .i64 r.m, .string r.a, .string r.b, .string r.c, .slice A1 r.vars.length c1] 25)).alloc (.cells #[.int .i64 s.cls, .int .i64 s.kind, .int .u64 s.frm, .int .i64 s.time, .int .u64 s.key, .int .u64 s.key2, .int .u64 s.key3, .int .i64 s.n, .int .i64 s.m, .string s.a, .string s.b, .string s.c, .slice A2 s.vars.length c2] 25)) := ((Below.refl _ _).alloc (Nat.le_refl _) _).alloc (by simp) _
  have b1 : ((w.alloc (.cells #[.int .i64 r.cls, .int .i64 r.kind, .int .u64 r.frm, .int .i64 r.time, .int .u64 r.key, .int .u64 r.key2, .int .u64 r.key3, .int .i64 r.n, .int .i64 r.m, .string r.a, .string r.b, .string r.c, .slice A1 r.vars.length c1] 25)).alloc (.cells #[.int .i64 s.cls, .int .i64 s.kind, .int .u64 s.frm, .int .i64 s.time, .int .u64 s.key, .int .u64 s.key2, .int .u64 s.key3, .int .i64 s.n, .int .i64 s.m, .string s.a, .string s.b, .string s.c, .slice A2 s.vars.length c2] 25)).heap[w.heap.size]? = some (.cells #[.int .i64 r.cls, .int .i64 r.kind, .int .u64 r.frm, .int .i64 r.time, .int .u64 r.key, .int .u64 r.key2, .int .u64 r.key3, .int .i64 r.n, .int .i64 r.m, .string r.a, .string r.b, .string r.c, .slice A1 r.vars.length c1] 25 (0, 0)) := blk_old _ (blk_new _ _ rfl)
  have b2 : ((w.alloc (.cells #[.int .i64 r.cls, .int .i64 r.kind, .int .u64 r.frm, .int .i64 r.time, .int .u64 r.key, .int .u64 r.key2, .int .u64 r.key3, .int .i64 r.n, .int .i64 r.m, .string r.a, .string r.b, .string r.c, .slice A1 r.vars.length c1] 25)).alloc (.cells #[.int .i64 s.cls, .int .i64 s.kind, .int .u64 s.frm, .int .i64 s.time, .int .u64 s.key, .int .u64 s.key2, .int .u64 s.key3, .int .i64 s.n, .int .i64 s.m, .string s.a, .string s.b, .string s.c, .slice A2 s.vars.length c2] 25)).heap[w.heap.size + 1]? = some (.cells #[.int .i64 s.cls, .int .i64 s.kind, .int .u64 s.frm, .int .i64 s.time, .int .u64 s.key, .int .u64 s.key2, .int .u64 s.key3, .int .i64 s.n, .int .i64 s.m, .string s.a, .string s.b, .string s.c, .slice A2 s.vars.length c2] 25 (0, 0)) := blk_new _ _ (by simp)
  have H1 := Lib.hid (h1.below hb)
  have H2 := Lib.hid (h2.below hb)
  have HB := Lib.hid hb
  have HB1 := Lib.hid b1
  have HB2 := Lib.hid b2
  have HTV := Lib.hid ht
  clear hb b1 b2 h1 h2 ht
  go_enter Try.func14, Try.ntmps14
  go_wp2_with (go_at_call 24; refine (ref9_Same S r.vars s.vars _ _ _ _ true _ rfl rfl H1.out H2.out HTV.out).mono ?_; rintro e w1 ⟨rfl, hb1⟩; have B1 := block_below hb1 HB1.out; have B2 := block_below hb1 HB2.out; have p0 := (cell_of_blk B1 0).trans (rfl : _ = some (Value.int .i64 r.cls)); have q0 := (cell_of_blk B2 0).trans (rfl : _ = some (Value.int .i64 s.cls)); have HB9 := Lib.hid (below2 HB.out hb1); clear B1 B2 hb1 HB1 HB2 HB H1 H2 HTV)
  go_ret
  exact ⟨rfl, HB9.out⟩
set_option maxRecDepth 100000 in
set_option maxHeartbeats 8000000 in
theorem ref12_Same_2 (r s : GRec) (A1 A2 : Option Addr) (c1 c2 : Nat) (S : Nat → Prop) (w : World) (h1 : Row w S 4 r.vars.length (.slice A1 r.vars.length c1) (varCells r.vars)) (h2 : Row w S 4 s.vars.length (.slice A2 s.vars.length c2) (varCells s.vars)) (ht : (true = true) ↔ r.vars = s.vars) (g0 : (r.cls == s.cls) = true) (g1 : (r.kind == s.kind) = false) :
    Calls Try.prog 14 #[.agg #[.int .i64 r.cls, .int .i64 r.kind, .int .u64 r.frm, .int .i64 r.time, .int .u64 r.key, .int .u64 r.key2, .int .u64 r.key3, .int .i64 r.n, .int .i64 r.m, .string r.a, .string r.b, .string r.c, .slice A1 r.vars.length c1], .agg #[.int .i64 s.cls, .int .i64 s.kind, .int .u64 s.frm, .int .i64 s.time, .int .u64 s.key, .int .u64 s.key2, .int .u64 s.key3, .int .i64 s.n, .int .i64 s.m, .string s.a, .string s.b, .string s.c, .slice A2 s.vars.length c2]] w fun e w' => e = .returned (.bool false) ∧ Below w.heap.size w w' := by
  have hb : Below w.heap.size w ((w.alloc (.cells #[.int .i64 r.cls, .int .i64 r.kind, .int .u64 r.frm, .int .i64 r.time, .int .u64 r.key, .int .u64 r.key2, .int .u64 r.key3, .int .i64 r.n, .int .i64 r.m, .string r.a, .string r.b, .string r.c, .slice A1 r.vars.length c1] 25)).alloc (.cells #[.int .i64 s.cls, .int .i64 s.kind, .int .u64 s.frm, .int .i64 s.time, .int .u64 s.key, .int .u64 s.key2, .int .u64 s.key3, .int .i64 s.n, .int .i64 s.m, .string s.a, .string s.b, .string s.c, .slice A2 s.vars.length c2] 25)) := ((Below.refl _ _).alloc (Nat.le_refl _) _).alloc (by simp) _
  have b1 : ((w.alloc (.cells #[.int .i64 r.cls, .int .i64 r.kind, .int .u64 r.frm, .int .i64 r.time, .int .u64 r.key, .int .u64 r.key2, .int .u64 r.key3, .int .i64 r.n, .int .i64 r.m, .string r.a, .string r.b, .string r.c, .slice A1 r.vars.length c1] 25)).alloc (.cells #[.int .i64 s.cls, .int .i64 s.kind, .int .u64 s.frm, .int .i64 s.time, .int .u64 s.key, .int .u64 s.key2, .int .u64 s.key3, .int .i64 s.n, .int .i64 s.m, .string s.a, .string s.b, .string s.c, .slice A2 s.vars.length c2] 25)).heap[w.heap.size]? = some (.cells #[.int .i64 r.cls, .int .i64 r.kind, .int .u64 r.frm, .int .i64 r.time, .int .u64 r.key, .int .u64 r.key2, .int .u64 r.key3, .int .i64 r.n, .int .i64 r.m, .string r.a, .string r.b, .string r.c, .slice A1 r.vars.length c1] 25 (0, 0)) := blk_old _ (blk_new _ _ rfl)
  have b2 : ((w.alloc (.cells #[.int .i64 r.cls, .int .i64 r.kind, .int .u64 r.frm, .int .i64 r.time, .int .u64 r.key, .int .u64 r.key2, .int .u64 r.key3, .int .i64 r.n, .int .i64 r.m, .string r.a, .string r.b, .string r.c, .slice A1 r.vars.length c1] 25)).alloc (.cells #[.int .i64 s.cls, .int .i64 s.kind, .int .u64 s.frm, .int .i64 s.time, .int .u64 s.key, .int .u64 s.key2, .int .u64 s.key3, .int .i64 s.n, .int .i64 s.m, .string s.a, .string s.b, .string s.c, .slice A2 s.vars.length c2] 25)).heap[w.heap.size + 1]? = some (.cells #[.int .i64 s.cls, .int .i64 s.kind, .int .u64 s.frm, .int .i64 s.time, .int .u64 s.key, .int .u64 s.key2, .int .u64 s.key3, .int .i64 s.n, .int .i64 s.m, .string s.a, .string s.b, .string s.c, .slice A2 s.vars.length c2] 25 (0, 0)) := blk_new _ _ (by simp)
  have H1 := Lib.hid (h1.below hb)
  have H2 := Lib.hid (h2.below hb)
  have HB := Lib.hid hb
  have HB1 := Lib.hid b1
  have HB2 := Lib.hid b2
  have HTV := Lib.hid ht
  clear hb b1 b2 h1 h2 ht
  go_enter Try.func14, Try.ntmps14
  go_wp2_with (go_at_call 24; refine (ref9_Same S r.vars s.vars _ _ _ _ true _ rfl rfl H1.out H2.out HTV.out).mono ?_; rintro e w1 ⟨rfl, hb1⟩; have B1 := block_below hb1 HB1.out; have B2 := block_below hb1 HB2.out; have p0 := (cell_of_blk B1 0).trans (rfl : _ = some (Value.int .i64 r.cls)); have p1 := (cell_of_blk B1 1).trans (rfl : _ = some (Value.int .i64 r.kind)); have q0 := (cell_of_blk B2 0).trans (rfl : _ = some (Value.int .i64 s.cls)); have q1 := (cell_of_blk B2 1).trans (rfl : _ = some (Value.int .i64 s.kind)); have HB9 := Lib.hid (below2 HB.out hb1); clear B1 B2 hb1 HB1 HB2 HB H1 H2 HTV)
  go_ret
  exact ⟨rfl, HB9.out⟩
set_option maxRecDepth 100000 in
set_option maxHeartbeats 8000000 in
theorem ref12_Same_3 (r s : GRec) (A1 A2 : Option Addr) (c1 c2 : Nat) (S : Nat → Prop) (w : World) (h1 : Row w S 4 r.vars.length (.slice A1 r.vars.length c1) (varCells r.vars)) (h2 : Row w S 4 s.vars.length (.slice A2 s.vars.length c2) (varCells s.vars)) (ht : (true = true) ↔ r.vars = s.vars) (g0 : (r.cls == s.cls) = true) (g1 : (r.kind == s.kind) = true) (g2 : (r.frm == s.frm) = false) :
    Calls Try.prog 14 #[.agg #[.int .i64 r.cls, .int .i64 r.kind, .int .u64 r.frm, .int .i64 r.time, .int .u64 r.key, .int .u64 r.key2, .int .u64 r.key3, .int .i64 r.n, .int .i64 r.m, .string r.a, .string r.b, .string r.c, .slice A1 r.vars.length c1], .agg #[.int .i64 s.cls, .int .i64 s.kind, .int .u64 s.frm, .int .i64 s.time, .int .u64 s.key, .int .u64 s.key2, .int .u64 s.key3, .int .i64 s.n, .int .i64 s.m, .string s.a, .string s.b, .string s.c, .slice A2 s.vars.length c2]] w fun e w' => e = .returned (.bool false) ∧ Below w.heap.size w w' := by
  have hb : Below w.heap.size w ((w.alloc (.cells #[.int .i64 r.cls, .int .i64 r.kind, .int .u64 r.frm, .int .i64 r.time, .int .u64 r.key, .int .u64 r.key2, .int .u64 r.key3, .int .i64 r.n, .int .i64 r.m, .string r.a, .string r.b, .string r.c, .slice A1 r.vars.length c1] 25)).alloc (.cells #[.int .i64 s.cls, .int .i64 s.kind, .int .u64 s.frm, .int .i64 s.time, .int .u64 s.key, .int .u64 s.key2, .int .u64 s.key3, .int .i64 s.n, .int .i64 s.m, .string s.a, .string s.b, .string s.c, .slice A2 s.vars.length c2] 25)) := ((Below.refl _ _).alloc (Nat.le_refl _) _).alloc (by simp) _
  have b1 : ((w.alloc (.cells #[.int .i64 r.cls, .int .i64 r.kind, .int .u64 r.frm, .int .i64 r.time, .int .u64 r.key, .int .u64 r.key2, .int .u64 r.key3, .int .i64 r.n, .int .i64 r.m, .string r.a, .string r.b, .string r.c, .slice A1 r.vars.length c1] 25)).alloc (.cells #[.int .i64 s.cls, .int .i64 s.kind, .int .u64 s.frm, .int .i64 s.time, .int .u64 s.key, .int .u64 s.key2, .int .u64 s.key3, .int .i64 s.n, .int .i64 s.m, .string s.a, .string s.b, .string s.c, .slice A2 s.vars.length c2] 25)).heap[w.heap.size]? = some (.cells #[.int .i64 r.cls, .int .i64 r.kind, .int .u64 r.frm, .int .i64 r.time, .int .u64 r.key, .int .u64 r.key2, .int .u64 r.key3, .int .i64 r.n, .int .i64 r.m, .string r.a, .string r.b, .string r.c, .slice A1 r.vars.length c1] 25 (0, 0)) := blk_old _ (blk_new _ _ rfl)
  have b2 : ((w.alloc (.cells #[.int .i64 r.cls, .int .i64 r.kind, .int .u64 r.frm, .int .i64 r.time, .int .u64 r.key, .int .u64 r.key2, .int .u64 r.key3, .int .i64 r.n, .int .i64 r.m, .string r.a, .string r.b, .string r.c, .slice A1 r.vars.length c1] 25)).alloc (.cells #[.int .i64 s.cls, .int .i64 s.kind, .int .u64 s.frm, .int .i64 s.time, .int .u64 s.key, .int .u64 s.key2, .int .u64 s.key3, .int .i64 s.n, .int .i64 s.m, .string s.a, .string s.b, .string s.c, .slice A2 s.vars.length c2] 25)).heap[w.heap.size + 1]? = some (.cells #[.int .i64 s.cls, .int .i64 s.kind, .int .u64 s.frm, .int .i64 s.time, .int .u64 s.key, .int .u64 s.key2, .int .u64 s.key3, .int .i64 s.n, .int .i64 s.m, .string s.a, .string s.b, .string s.c, .slice A2 s.vars.length c2] 25 (0, 0)) := blk_new _ _ (by simp)
  have H1 := Lib.hid (h1.below hb)
  have H2 := Lib.hid (h2.below hb)
  have HB := Lib.hid hb
  have HB1 := Lib.hid b1
  have HB2 := Lib.hid b2
  have HTV := Lib.hid ht
  clear hb b1 b2 h1 h2 ht
  go_enter Try.func14, Try.ntmps14
  go_wp2_with (go_at_call 24; refine (ref9_Same S r.vars s.vars _ _ _ _ true _ rfl rfl H1.out H2.out HTV.out).mono ?_; rintro e w1 ⟨rfl, hb1⟩; have B1 := block_below hb1 HB1.out; have B2 := block_below hb1 HB2.out; have p0 := (cell_of_blk B1 0).trans (rfl : _ = some (Value.int .i64 r.cls)); have p1 := (cell_of_blk B1 1).trans (rfl : _ = some (Value.int .i64 r.kind)); have p2 := (cell_of_blk B1 2).trans (rfl : _ = some (Value.int .u64 r.frm)); have q0 := (cell_of_blk B2 0).trans (rfl : _ = some (Value.int .i64 s.cls)); have q1 := (cell_of_blk B2 1).trans (rfl : _ = some (Value.int .i64 s.kind)); have q2 := (cell_of_blk B2 2).trans (rfl : _ = some (Value.int .u64 s.frm)); have HB9 := Lib.hid (below2 HB.out hb1); clear B1 B2 hb1 HB1 HB2 HB H1 H2 HTV)
  go_ret
  exact ⟨rfl, HB9.out⟩
end Go.Proofs.Ytcfdbdmefdffdaa
/-
  The walk of the reference's Same of records, ways [3, 4, 5]. Printed by gensamec.py.
-/
set_option linter.unusedVariables false
set_option linter.unusedSimpArgs false
namespace Go.Proofs.Ytcfdbdmefdffdaa
open Go Go.RowKit Go.Proofs.Base
open Go.Sort (grow)
set_option maxRecDepth 100000 in
set_option maxHeartbeats 8000000 in
theorem ref12_Same_4 (r s : GRec) (A1 A2 : Option Addr) (c1 c2 : Nat) (S : Nat → Prop) (w : World) (h1 : Row w S 4 r.vars.length (.slice A1 r.vars.length c1) (varCells r.vars)) (h2 : Row w S 4 s.vars.length (.slice A2 s.vars.length c2) (varCells s.vars)) (ht : (true = true) ↔ r.vars = s.vars) (g0 : (r.cls == s.cls) = true) (g1 : (r.kind == s.kind) = true) (g2 : (r.frm == s.frm) = true) (g3 : (r.time == s.time) = false) :
    Calls Try.prog 14 #[.agg #[.int .i64 r.cls, .int .i64 r.kind, .int .u64 r.frm, .int .i64 r.time, .int .u64 r.key, .int .u64 r.key2, .int .u64 r.key3, .int .i64 r.n, .int .i64 r.m, .string r.a, .string r.b, .string r.c, .slice A1 r.vars.length c1], .agg #[.int .i64 s.cls, .int .i64 s.kind, .int .u64 s.frm, .int .i64 s.time, .int .u64 s.key, .int .u64 s.key2, .int .u64 s.key3, .int .i64 s.n, .int .i64 s.m, .string s.a, .string s.b, .string s.c, .slice A2 s.vars.length c2]] w fun e w' => e = .returned (.bool false) ∧ Below w.heap.size w w' := by
  have hb : Below w.heap.size w ((w.alloc (.cells #[.int .i64 r.cls, .int .i64 r.kind, .int .u64 r.frm, .int .i64 r.time, .int .u64 r.key, .int .u64 r.key2, .int .u64 r.key3, .int .i64 r.n, .int .i64 r.m, .string r.a, .string r.b, .string r.c, .slice A1 r.vars.length c1] 25)).alloc (.cells #[.int .i64 s.cls, .int .i64 s.kind, .int .u64 s.frm, .int .i64 s.time, .int .u64 s.key, .int .u64 s.key2, .int .u64 s.key3, .int .i64 s.n, .int .i64 s.m, .string s.a, .string s.b, .string s.c, .slice A2 s.vars.length c2] 25)) := ((Below.refl _ _).alloc (Nat.le_refl _) _).alloc (by simp) _
  have b1 : ((w.alloc (.cells #[.int .i64 r.cls, .int .i64 r.kind, .int .u64 r.frm, .int .i64 r.time, .int .u64 r.key, .int .u64 r.key2, .int .u64 r.key3, .int .i64 r.n, .int .i64 r.m, .string r.a, .string r.b, .string r.c, .slice A1 r.vars.length c1] 25)).alloc (.cells #[.int .i64 s.cls, .int .i64 s.kind, .int .u64 s.frm, .int .i64 s.time, .int .u64 s.key, .int .u64 s.key2, .int .u64 s.key3, .int .i64 s.n, .int .i64 s.m, .string s.a, .string s.b, .string s.c, .slice A2 s.vars.length c2] 25)).heap[w.heap.size]? = some (.cells #[.int .i64 r.cls, .int .i64 r.kind, .int .u64 r.frm, .int .i64 r.time, .int .u64 r.key, .int .u64 r.key2, .int .u64 r.key3, .int .i64 r.n, .int .i64 r.m, .string r.a, .string r.b, .string r.c, .slice A1 r.vars.length c1] 25 (0, 0)) := blk_old _ (blk_new _ _ rfl)
  have b2 : ((w.alloc (.cells #[.int .i64 r.cls, .int .i64 r.kind, .int .u64 r.frm, .int .i64 r.time, .int .u64 r.key, .int .u64 r.key2, .int .u64 r.key3, .int .i64 r.n, .int .i64 r.m, .string r.a, .string r.b, .string r.c, .slice A1 r.vars.length c1] 25)).alloc (.cells #[.int .i64 s.cls, .int .i64 s.kind, .int .u64 s.frm, .int .i64 s.time, .int .u64 s.key, .int .u64 s.key2, .int .u64 s.key3, .int .i64 s.n, .int .i64 s.m, .string s.a, .string s.b, .string s.c, .slice A2 s.vars.length c2] 25)).heap[w.heap.size + 1]? = some (.cells #[.int .i64 s.cls, .int .i64 s.kind, .int .u64 s.frm, .int .i64 s.time, .int .u64 s.key, .int .u64 s.key2, .int .u64 s.key3, .int .i64 s.n, .int .i64 s.m, .string s.a, .string s.b, .string s.c, .slice A2 s.vars.length c2] 25 (0, 0)) := blk_new _ _ (by simp)
  have H1 := Lib.hid (h1.below hb)
  have H2 := Lib.hid (h2.below hb)
  have HB := Lib.hid hb
  have HB1 := Lib.hid b1
  have HB2 := Lib.hid b2
  have HTV := Lib.hid ht
  clear hb b1 b2 h1 h2 ht
  go_enter Try.func14, Try.ntmps14
  go_wp2_with (go_at_call 24; refine (ref9_Same S r.vars s.vars _ _ _ _ true _ rfl rfl H1.out H2.out HTV.out).mono ?_; rintro e w1 ⟨rfl, hb1⟩; have B1 := block_below hb1 HB1.out; have B2 := block_below hb1 HB2.out; have p0 := (cell_of_blk B1 0).trans (rfl : _ = some (Value.int .i64 r.cls)); have p1 := (cell_of_blk B1 1).trans (rfl : _ = some (Value.int .i64 r.kind)); have p2 := (cell_of_blk B1 2).trans (rfl : _ = some (Value.int .u64 r.frm)); have p3 := (cell_of_blk B1 3).trans (rfl : _ = some (Value.int .i64 r.time)); have q0 := (cell_of_blk B2 0).trans (rfl : _ = some (Value.int .i64 s.cls)); have q1 := (cell_of_blk B2 1).trans (rfl : _ = some (Value.int .i64 s.kind)); have q2 := (cell_of_blk B2 2).trans (rfl : _ = some (Value.int .u64 s.frm)); have q3 := (cell_of_blk B2 3).trans (rfl : _ = some (Value.int .i64 s.time)); have HB9 := Lib.hid (below2 HB.out hb1); clear B1 B2 hb1 HB1 HB2 HB H1 H2 HTV)
  go_ret
  exact ⟨rfl, HB9.out⟩
set_option maxRecDepth 100000 in
set_option maxHeartbeats 8000000 in
theorem ref12_Same_5 (r s : GRec) (A1 A2 : Option Addr) (c1 c2 : Nat) (S : Nat → Prop) (w : World) (h1 : Row w S 4 r.vars.length (.slice A1 r.vars.length c1) (varCells r.vars)) (h2 : Row w S 4 s.vars.length (.slice A2 s.vars.length c2) (varCells s.vars)) (ht : (true = true) ↔ r.vars = s.vars) (g0 : (r.cls == s.cls) = true) (g1 : (r.kind == s.kind) = true) (g2 : (r.frm == s.frm) = true) (g3 : (r.time == s.time) = true) (g4 : (r.key == s.key) = false) :
    Calls Try.prog 14 #[.agg #[.int .i64 r.cls, .int .i64 r.kind, .int .u64 r.frm, .int .i64 r.time, .int .u64 r.key, .int .u64 r.key2, .int .u64 r.key3, .int .i64 r.n, .int .i64 r.m, .string r.a, .string r.b, .string r.c, .slice A1 r.vars.length c1], .agg #[.int .i64 s.cls, .int .i64 s.kind, .int .u64 s.frm, .int .i64 s.time, .int .u64 s.key, .int .u64 s.key2, .int .u64 s.key3, .int .i64 s.n, .int .i64 s.m, .string s.a, .string s.b, .string s.c, .slice A2 s.vars.length c2]] w fun e w' => e = .returned (.bool false) ∧ Below w.heap.size w w' := by
  have hb : Below w.heap.size w ((w.alloc (.cells #[.int .i64 r.cls, .int .i64 r.kind, .int .u64 r.frm, .int .i64 r.time, .int .u64 r.key, .int .u64 r.key2, .int .u64 r.key3, .int .i64 r.n, .int .i64 r.m, .string r.a, .string r.b, .string r.c, .slice A1 r.vars.length c1] 25)).alloc (.cells #[.int .i64 s.cls, .int .i64 s.kind, .int .u64 s.frm, .int .i64 s.time, .int .u64 s.key, .int .u64 s.key2, .int .u64 s.key3, .int .i64 s.n, .int .i64 s.m, .string s.a, .string s.b, .string s.c, .slice A2 s.vars.length c2] 25)) := ((Below.refl _ _).alloc (Nat.le_refl _) _).alloc (by simp) _
  have b1 : ((w.alloc (.cells #[.int .i64 r.cls, .int .i64 r.kind, .int .u64 r.frm, .int .i64 r.time, .int .u64 r.key, .int .u64 r.key2, .int .u64 r.key3, .int .i64 r.n, .int .i64 r.m, .string r.a, .string r.b, .string r.c, .slice A1 r.vars.length c1] 25)).alloc (.cells #[.int .i64 s.cls, .int .i64 s.kind, .int .u64 s.frm, .int .i64 s.time, .int .u64 s.key, .int .u64 s.key2, .int .u64 s.key3, .int .i64 s.n, .int .i64 s.m, .string s.a, .string s.b, .string s.c, .slice A2 s.vars.length c2] 25)).heap[w.heap.size]? = some (.cells #[.int .i64 r.cls, .int .i64 r.kind, .int .u64 r.frm, .int .i64 r.time, .int .u64 r.key, .int .u64 r.key2, .int .u64 r.key3, .int .i64 r.n, .int .i64 r.m, .string r.a, .string r.b, .string r.c, .slice A1 r.vars.length c1] 25 (0, 0)) := blk_old _ (blk_new _ _ rfl)
  have b2 : ((w.alloc (.cells #[.int .i64 r.cls, .int .i64 r.kind, .int .u64 r.frm, .int .i64 r.time, .int .u64 r.key, .int .u64 r.key2, .int .u64 r.key3, .int .i64 r.n, .int .i64 r.m, .string r.a, .string r.b, .string r.c, .slice A1 r.vars.length c1] 25)).alloc (.cells #[.int .i64 s.cls, .int .i64 s.kind, .int .u64 s.frm, .int .i64 s.time, .int .u64 s.key, .int .u64 s.key2, .int .u64 s.key3, .int .i64 s.n, .int .i64 s.m, .string s.a, .string s.b, .string s.c, .slice A2 s.vars.length c2] 25)).heap[w.heap.size + 1]? = some (.cells #[.int .i64 s.cls, .int .i64 s.kind, .int .u64 s.frm, .int .i64 s.time, .int .u64 s.key, .int .u64 s.key2, .int .u64 s.key3, .int .i64 s.n, .int .i64 s.m, .string s.a, .string s.b, .string s.c, .slice A2 s.vars.length c2] 25 (0, 0)) := blk_new _ _ (by simp)
  have H1 := Lib.hid (h1.below hb)
  have H2 := Lib.hid (h2.below hb)
  have HB := Lib.hid hb
  have HB1 := Lib.hid b1
  have HB2 := Lib.hid b2
  have HTV := Lib.hid ht
  clear hb b1 b2 h1 h2 ht
  go_enter Try.func14, Try.ntmps14
  go_wp2_with (go_at_call 24; refine (ref9_Same S r.vars s.vars _ _ _ _ true _ rfl rfl H1.out H2.out HTV.out).mono ?_; rintro e w1 ⟨rfl, hb1⟩; have B1 := block_below hb1 HB1.out; have B2 := block_below hb1 HB2.out; have p0 := (cell_of_blk B1 0).trans (rfl : _ = some (Value.int .i64 r.cls)); have p1 := (cell_of_blk B1 1).trans (rfl : _ = some (Value.int .i64 r.kind)); have p2 := (cell_of_blk B1 2).trans (rfl : _ = some (Value.int .u64 r.frm)); have p3 := (cell_of_blk B1 3).trans (rfl : _ = some (Value.int .i64 r.time)); have p4 := (cell_of_blk B1 4).trans (rfl : _ = some (Value.int .u64 r.key)); have q0 := (cell_of_blk B2 0).trans (rfl : _ = some (Value.int .i64 s.cls)); have q1 := (cell_of_blk B2 1).trans (rfl : _ = some (Value.int .i64 s.kind)); have q2 := (cell_of_blk B2 2).trans (rfl : _ = some (Value.int .u64 s.frm)); have q3 := (cell_of_blk B2 3).trans (rfl : _ = some (Value.int .i64 s.time)); have q4 := (cell_of_blk B2 4).trans (rfl : _ = some (Value.int .u64 s.key)); have HB9 := Lib.hid (below2 HB.out hb1); clear B1 B2 hb1 HB1 HB2 HB H1 H2 HTV)
  go_ret
  exact ⟨rfl, HB9.out⟩
set_option maxRecDepth 100000 in
set_option maxHeartbeats 8000000 in
theorem ref12_Same_6 (r s : GRec) (A1 A2 : Option Addr) (c1 c2 : Nat) (S : Nat → Prop) (w : World) (h1 : Row w S 4 r.vars.length (.slice A1 r.vars.length c1) (varCells r.vars)) (h2 : Row w S 4 s.vars.length (.slice A2 s.vars.length c2) (varCells s.vars)) (ht : (true = true) ↔ r.vars = s.vars) (g0 : (r.cls == s.cls) = true) (g1 : (r.kind == s.kind) = true) (g2 : (r.frm == s.frm) = true) (g3 : (r.time == s.time) = true) (g4 : (r.key == s.key) = true) (g5 : (r.key2 == s.key2) = false) :
    Calls Try.prog 14 #[.agg #[.int .i64 r.cls, .int .i64 r.kind, .int .u64 r.frm, .int .i64 r.time, .int .u64 r.key, .int .u64 r.key2, .int .u64 r.key3, .int .i64 r.n, .int .i64 r.m, .string r.a, .string r.b, .string r.c, .slice A1 r.vars.length c1], .agg #[.int .i64 s.cls, .int .i64 s.kind, .int .u64 s.frm, .int .i64 s.time, .int .u64 s.key, .int .u64 s.key2, .int .u64 s.key3, .int .i64 s.n, .int .i64 s.m, .string s.a, .string s.b, .string s.c, .slice A2 s.vars.length c2]] w fun e w' => e = .returned (.bool false) ∧ Below w.heap.size w w' := by
  have hb : Below w.heap.size w ((w.alloc (.cells #[.int .i64 r.cls, .int .i64 r.kind, .int .u64 r.frm, .int .i64 r.time, .int .u64 r.key, .int .u64 r.key2, .int .u64 r.key3, .int .i64 r.n, .int .i64 r.m, .string r.a, .string r.b, .string r.c, .slice A1 r.vars.length c1] 25)).alloc (.cells #[.int .i64 s.cls, .int .i64 s.kind, .int .u64 s.frm, .int .i64 s.time, .int .u64 s.key, .int .u64 s.key2, .int .u64 s.key3, .int .i64 s.n, .int .i64 s.m, .string s.a, .string s.b, .string s.c, .slice A2 s.vars.length c2] 25)) := ((Below.refl _ _).alloc (Nat.le_refl _) _).alloc (by simp) _
  have b1 : ((w.alloc (.cells #[.int .i64 r.cls, .int .i64 r.kind, .int .u64 r.frm, .int .i64 r.time, .int .u64 r.key, .int .u64 r.key2, .int .u64 r.key3, .int .i64 r.n, .int .i64 r.m, .string r.a, .string r.b, .string r.c, .slice A1 r.vars.length c1] 25)).alloc (.cells #[.int .i64 s.cls, .int .i64 s.kind, .int .u64 s.frm, .int .i64 s.time, .int .u64 s.key, .int .u64 s.key2, .int .u64 s.key3, .int .i64 s.n, .int .i64 s.m, .string s.a, .string s.b, .string s.c, .slice A2 s.vars.length c2] 25)).heap[w.heap.size]? = some (.cells #[.int .i64 r.cls, .int .i64 r.kind, .int .u64 r.frm, .int .i64 r.time, .int .u64 r.key, .int .u64 r.key2, .int .u64 r.key3, .int .i64 r.n, .int .i64 r.m, .string r.a, .string r.b, .string r.c, .slice A1 r.vars.length c1] 25 (0, 0)) := blk_old _ (blk_new _ _ rfl)
  have b2 : ((w.alloc (.cells #[.int .i64 r.cls, .int .i64 r.kind, .int .u64 r.frm, .int .i64 r.time, .int .u64 r.key, .int .u64 r.key2, .int .u64 r.key3, .int .i64 r.n, .int .i64 r.m, .string r.a, .string r.b, .string r.c, .slice A1 r.vars.length c1] 25)).alloc (.cells #[.int .i64 s.cls, .int .i64 s.kind, .int .u64 s.frm, .int .i64 s.time, .int .u64 s.key, .int .u64 s.key2, .int .u64 s.key3, .int .i64 s.n, .int .i64 s.m, .string s.a, .string s.b, .string s.c, .slice A2 s.vars.length c2] 25)).heap[w.heap.size + 1]? = some (.cells #[.int .i64 s.cls, .int .i64 s.kind, .int .u64 s.frm, .int .i64 s.time, .int .u64 s.key, .int .u64 s.key2, .int .u64 s.key3, .int .i64 s.n, .int .i64 s.m, .string s.a, .string s.b, .string s.c, .slice A2 s.vars.length c2] 25 (0, 0)) := blk_new _ _ (by simp)
  have H1 := Lib.hid (h1.below hb)
  have H2 := Lib.hid (h2.below hb)
  have HB := Lib.hid hb
  have HB1 := Lib.hid b1
  have HB2 := Lib.hid b2
  have HTV := Lib.hid ht
  clear hb b1 b2 h1 h2 ht
  go_enter Try.func14, Try.ntmps14
  go_wp2_with (go_at_call 24; refine (ref9_Same S r.vars s.vars _ _ _ _ true _ rfl rfl H1.out H2.out HTV.out).mono ?_; rintro e w1 ⟨rfl, hb1⟩; have B1 := block_below hb1 HB1.out; have B2 := block_below hb1 HB2.out; have p0 := (cell_of_blk B1 0).trans (rfl : _ = some (Value.int .i64 r.cls)); have p1 := (cell_of_blk B1 1).trans (rfl : _ = some (Value.int .i64 r.kind)); have p2 := (cell_of_blk B1 2).trans (rfl : _ = some (Value.int .u64 r.frm)); have p3 := (cell_of_blk B1 3).trans (rfl : _ = some (Value.int .i64 r.time)); have p4 := (cell_of_blk B1 4).trans (rfl : _ = some (Value.int .u64 r.key)); have p5 := (cell_of_blk B1 5).trans (rfl : _ = some (Value.int .u64 r.key2)); have q0 := (cell_of_blk B2 0).trans (rfl : _ = some (Value.int .i64 s.cls)); have q1 := (cell_of_blk B2 1).trans (rfl : _ = some (Value.int .i64 s.kind)); have q2 := (cell_of_blk B2 2).trans (rfl : _ = some (Value.int .u64 s.frm)); have q3 := (cell_of_blk B2 3).trans (rfl : _ = some (Value.int .i64 s.time)); have q4 := (cell_of_blk B2 4).trans (rfl : _ = some (Value.int .u64 s.key)); have q5 := (cell_of_blk B2 5).trans (rfl : _ = some (Value.int .u64 s.key2)); have HB9 := Lib.hid (below2 HB.out hb1); clear B1 B2 hb1 HB1 HB2 HB H1 H2 HTV)
  go_ret
  exact ⟨rfl, HB9.out⟩
end Go.Proofs.Ytcfdbdmefdffdaa
/-
  The walk of the reference's Same of records, ways [6, 7]. Printed by gensamec.py.
-/
set_option linter.unusedVariables false
set_option linter.unusedSimpArgs false
namespace Go.Proofs.Ytcfdbdmefdffdaa
open Go Go.RowKit Go.Proofs.Base
open Go.Sort (grow)
set_option maxRecDepth 100000 in
set_option maxHeartbeats 8000000 in
theorem ref12_Same_7 (r s : GRec) (A1 A2 : Option Addr) (c1 c2 : Nat) (S : Nat → Prop) (w : World) (h1 : Row w S 4 r.vars.length (.slice A1 r.vars.length c1) (varCells r.vars)) (h2 : Row w S 4 s.vars.length (.slice A2 s.vars.length c2) (varCells s.vars)) (ht : (true = true) ↔ r.vars = s.vars) (g0 : (r.cls == s.cls) = true) (g1 : (r.kind == s.kind) = true) (g2 : (r.frm == s.frm) = true) (g3 : (r.time == s.time) = true) (g4 : (r.key == s.key) = true) (g5 : (r.key2 == s.key2) = true) (g6 : (r.key3 == s.key3) = false) :
    Calls Try.prog 14 #[.agg #[.int .i64 r.cls, .int .i64 r.kind, .int .u64 r.frm, .int .i64 r.time, .int .u64 r.key, .int .u64 r.key2, .int .u64 r.key3, .int .i64 r.n, .int .i64 r.m, .string r.a, .string r.b, .string r.c, .slice A1 r.vars.length c1], .agg #[.int .i64 s.cls, .int .i64 s.kind, .int .u64 s.frm, .int .i64 s.time, .int .u64 s.key, .int .u64 s.key2, .int .u64 s.key3, .int .i64 s.n, .int .i64 s.m, .string s.a, .string s.b, .string s.c, .slice A2 s.vars.length c2]] w fun e w' => e = .returned (.bool false) ∧ Below w.heap.size w w' := by
  have hb : Below w.heap.size w ((w.alloc (.cells #[.int .i64 r.cls, .int .i64 r.kind, .int .u64 r.frm, .int .i64 r.time, .int .u64 r.key, .int .u64 r.key2, .int .u64 r.key3, .int .i64 r.n, .int .i64 r.m, .string r.a, .string r.b, .string r.c, .slice A1 r.vars.length c1] 25)).alloc (.cells #[.int .i64 s.cls, .int .i64 s.kind, .int .u64 s.frm, .int .i64 s.time, .int .u64 s.key, .int .u64 s.key2, .int .u64 s.key3, .int .i64 s.n, .int .i64 s.m, .string s.a, .string s.b, .string s.c, .slice A2 s.vars.length c2] 25)) := ((Below.refl _ _).alloc (Nat.le_refl _) _).alloc (by simp) _
  have b1 : ((w.alloc (.cells #[.int .i64 r.cls, .int .i64 r.kind, .int .u64 r.frm, .int .i64 r.time, .int .u64 r.key, .int .u64 r.key2, .int .u64 r.key3, .int .i64 r.n, .int .i64 r.m, .string r.a, .string r.b, .string r.c, .slice A1 r.vars.length c1] 25)).alloc (.cells #[.int .i64 s.cls, .int .i64 s.kind, .int .u64 s.frm, .int .i64 s.time, .int .u64 s.key, .int .u64 s.key2, .int .u64 s.key3, .int .i64 s.n, .int .i64 s.m, .string s.a, .string s.b, .string s.c, .slice A2 s.vars.length c2] 25)).heap[w.heap.size]? = some (.cells #[.int .i64 r.cls, .int .i64 r.kind, .int .u64 r.frm, .int .i64 r.time, .int .u64 r.key, .int .u64 r.key2, .int .u64 r.key3, .int .i64 r.n, .int .i64 r.m, .string r.a, .string r.b, .string r.c, .slice A1 r.vars.length c1] 25 (0, 0)) := blk_old _ (blk_new _ _ rfl)
  have b2 : ((w.alloc (.cells #[.int .i64 r.cls, .int .i64 r.kind, .int .u64 r.frm, .int .i64 r.time, .int .u64 r.key, .int .u64 r.key2, .int .u64 r.key3, .int .i64 r.n, .int .i64 r.m, .string r.a, .string r.b, .string r.c, .slice A1 r.vars.length c1] 25)).alloc (.cells #[.int .i64 s.cls, .int .i64 s.kind, .int .u64 s.frm, .int .i64 s.time, .int .u64 s.key, .int .u64 s.key2, .int .u64 s.key3, .int .i64 s.n, .int .i64 s.m, .string s.a, .string s.b, .string s.c, .slice A2 s.vars.length c2] 25)).heap[w.heap.size + 1]? = some (.cells #[.int .i64 s.cls, .int .i64 s.kind, .int .u64 s.frm, .int .i64 s.time, .int .u64 s.key, .int .u64 s.key2, .int .u64 s.key3, .int .i64 s.n, .int .i64 s.m, .string s.a, .string s.b, .string s.c, .slice A2 s.vars.length c2] 25 (0, 0)) := blk_new _ _ (by simp)
  have H1 := Lib.hid (h1.below hb)
  have H2 := Lib.hid (h2.below hb)
  have HB := Lib.hid hb
  have HB1 := Lib.hid b1
  have HB2 := Lib.hid b2
  have HTV := Lib.hid ht
  clear hb b1 b2 h1 h2 ht
  go_enter Try.func14, Try.ntmps14
  go_wp2_with (go_at_call 24; refine (ref9_Same S r.vars s.vars _ _ _ _ true _ rfl rfl H1.out H2.out HTV.out).mono ?_; rintro e w1 ⟨rfl, hb1⟩; have B1 := block_below hb1 HB1.out; have B2 := block_below hb1 HB2.out; have p0 := (cell_of_blk B1 0).trans (rfl : _ = some (Value.int .i64 r.cls)); have p1 := (cell_of_blk B1 1).trans (rfl : _ = some (Value.int .i64 r.kind)); have p2 := (cell_of_blk B1 2).trans (rfl : _ = some (Value.int .u64 r.frm)); have p3 := (cell_of_blk B1 3).trans (rfl : _ = some (Value.int .i64 r.time)); have p4 := (cell_of_blk B1 4).trans (rfl : _ = some (Value.int .u64 r.key)); have p5 := (cell_of_blk B1 5).trans (rfl : _ = some (Value.int .u64 r.key2)); have p6 := (cell_of_blk B1 6).trans (rfl : _ = some (Value.int .u64 r.key3)); have q0 := (cell_of_blk B2 0).trans (rfl : _ = some (Value.int .i64 s.cls)); have q1 := (cell_of_blk B2 1).trans (rfl : _ = some (Value.int .i64 s.kind)); have q2 := (cell_of_blk B2 2).trans (rfl : _ = some (Value.int .u64 s.frm)); have q3 := (cell_of_blk B2 3).trans (rfl : _ = some (Value.int .i64 s.time)); have q4 := (cell_of_blk B2 4).trans (rfl : _ = some (Value.int .u64 s.key)); have q5 := (cell_of_blk B2 5).trans (rfl : _ = some (Value.int .u64 s.key2)); have q6 := (cell_of_blk B2 6).trans (rfl : _ = some (Value.int .u64 s.key3)); have HB9 := Lib.hid (below2 HB.out hb1); clear B1 B2 hb1 HB1 HB2 HB H1 H2 HTV)
  go_ret
  exact ⟨rfl, HB9.out⟩
set_option maxRecDepth 100000 in
set_option maxHeartbeats 8000000 in
theorem ref12_Same_8 (r s : GRec) (A1 A2 : Option Addr) (c1 c2 : Nat) (S : Nat → Prop) (w : World) (h1 : Row w S 4 r.vars.length (.slice A1 r.vars.length c1) (varCells r.vars)) (h2 : Row w S 4 s.vars.length (.slice A2 s.vars.length c2) (varCells s.vars)) (ht : (true = true) ↔ r.vars = s.vars) (g0 : (r.cls == s.cls) = true) (g1 : (r.kind == s.kind) = true) (g2 : (r.frm == s.frm) = true) (g3 : (r.time == s.time) = true) (g4 : (r.key == s.key) = true) (g5 : (r.key2 == s.key2) = true) (g6 : (r.key3 == s.key3) = true) (g7 : (r.n == s.n) = false) :
    Calls Try.prog 14 #[.agg #[.int .i64 r.cls, .int .i64 r.kind, .int .u64 r.frm, .int .i64 r.time, .int .u64 r.key, .int .u64 r.key2, .int .u64 r.key3, .int .i64 r.n, .int .i64 r.m, .string r.a, .string r.b, .string r.c, .slice A1 r.vars.length c1], .agg #[.int .i64 s.cls, .int .i64 s.kind, .int .u64 s.frm, .int .i64 s.time, .int .u64 s.key, .int .u64 s.key2, .int .u64 s.key3, .int .i64 s.n, .int .i64 s.m, .string s.a, .string s.b, .string s.c, .slice A2 s.vars.length c2]] w fun e w' => e = .returned (.bool false) ∧ Below w.heap.size w w' := by
  have hb : Below w.heap.size w ((w.alloc (.cells #[.int .i64 r.cls, .int .i64 r.kind, .int .u64 r.frm, .int .i64 r.time, .int .u64 r.key, .int .u64 r.key2, .int .u64 r.key3, .int .i64 r.n, .int .i64 r.m, .string r.a, .string r.b, .string r.c, .slice A1 r.vars.length c1] 25)).alloc (.cells #[.int .i64 s.cls, .int .i64 s.kind, .int .u64 s.frm, .int .i64 s.time, .int .u64 s.key, .int .u64 s.key2, .int .u64 s.key3, .int .i64 s.n, .int .i64 s.m, .string s.a, .string s.b, .string s.c, .slice A2 s.vars.length c2] 25)) := ((Below.refl _ _).alloc (Nat.le_refl _) _).alloc (by simp) _
  have b1 : ((w.alloc (.cells #[.int .i64 r.cls, .int .i64 r.kind, .int .u64 r.frm, .int .i64 r.time, .int .u64 r.key, .int .u64 r.key2, .int .u64 r.key3, .int .i64 r.n, .int .i64 r.m, .string r.a, .string r.b, .string r.c, .slice A1 r.vars.length c1] 25)).alloc (.cells #[.int .i64 s.cls, .int .i64 s.kind, .int .u64 s.frm, .int .i64 s.time, .int .u64 s.key, .int .u64 s.key2, .int .u64 s.key3, .int .i64 s.n, .int .i64 s.m, .string s.a, .string s.b, .string s.c, .slice A2 s.vars.length c2] 25)).heap[w.heap.size]? = some (.cells #[.int .i64 r.cls, .int .i64 r.kind, .int .u64 r.frm, .int .i64 r.time, .int .u64 r.key, .int .u64 r.key2, .int .u64 r.key3, .int .i64 r.n, .int .i64 r.m, .string r.a, .string r.b, .string r.c, .slice A1 r.vars.length c1] 25 (0, 0)) := blk_old _ (blk_new _ _ rfl)
  have b2 : ((w.alloc (.cells #[.int .i64 r.cls, .int .i64 r.kind, .int .u64 r.frm, .int .i64 r.time, .int .u64 r.key, .int .u64 r.key2, .int .u64 r.key3, .int .i64 r.n, .int .i64 r.m, .string r.a, .string r.b, .string r.c, .slice A1 r.vars.length c1] 25)).alloc (.cells #[.int .i64 s.cls, .int .i64 s.kind, .int .u64 s.frm, .int .i64 s.time, .int .u64 s.key, .int .u64 s.key2, .int .u64 s.key3, .int .i64 s.n, .int .i64 s.m, .string s.a, .string s.b, .string s.c, .slice A2 s.vars.length c2] 25)).heap[w.heap.size + 1]? = some (.cells #[.int .i64 s.cls, .int .i64 s.kind, .int .u64 s.frm, .int .i64 s.time, .int .u64 s.key, .int .u64 s.key2, .int .u64 s.key3, .int .i64 s.n, .int .i64 s.m, .string s.a, .string s.b, .string s.c, .slice A2 s.vars.length c2] 25 (0, 0)) := blk_new _ _ (by simp)
  have H1 := Lib.hid (h1.below hb)
  have H2 := Lib.hid (h2.below hb)
  have HB := Lib.hid hb
  have HB1 := Lib.hid b1
  have HB2 := Lib.hid b2
  have HTV := Lib.hid ht
  clear hb b1 b2 h1 h2 ht
  go_enter Try.func14, Try.ntmps14
  go_wp2_with (go_at_call 24; refine (ref9_Same S r.vars s.vars _ _ _ _ true _ rfl rfl H1.out H2.out HTV.out).mono ?_; rintro e w1 ⟨rfl, hb1⟩; have B1 := block_below hb1 HB1.out; have B2 := block_below hb1 HB2.out; have p0 := (cell_of_blk B1 0).trans (rfl : _ = some (Value.int .i64 r.cls)); have p1 := (cell_of_blk B1 1).trans (rfl : _ = some (Value.int .i64 r.kind)); have p2 := (cell_of_blk B1 2).trans (rfl : _ = some (Value.int .u64 r.frm)); have p3 := (cell_of_blk B1 3).trans (rfl : _ = some (Value.int .i64 r.time)); have p4 := (cell_of_blk B1 4).trans (rfl : _ = some (Value.int .u64 r.key)); have p5 := (cell_of_blk B1 5).trans (rfl : _ = some (Value.int .u64 r.key2)); have p6 := (cell_of_blk B1 6).trans (rfl : _ = some (Value.int .u64 r.key3)); have p7 := (cell_of_blk B1 7).trans (rfl : _ = some (Value.int .i64 r.n)); have q0 := (cell_of_blk B2 0).trans (rfl : _ = some (Value.int .i64 s.cls)); have q1 := (cell_of_blk B2 1).trans (rfl : _ = some (Value.int .i64 s.kind)); have q2 := (cell_of_blk B2 2).trans (rfl : _ = some (Value.int .u64 s.frm)); have q3 := (cell_of_blk B2 3).trans (rfl : _ = some (Value.int .i64 s.time)); have q4 := (cell_of_blk B2 4).trans (rfl : _ = some (Value.int .u64 s.key)); have q5 := (cell_of_blk B2 5).trans (rfl : _ = some (Value.int .u64 s.key2)); have q6 := (cell_of_blk B2 6).trans (rfl : _ = some (Value.int .u64 s.key3)); have q7 := (cell_of_blk B2 7).trans (rfl : _ = some (Value.int .i64 s.n)); have HB9 := Lib.hid (below2 HB.out hb1); clear B1 B2 hb1 HB1 HB2 HB H1 H2 HTV)
  go_ret
  exact ⟨rfl, HB9.out⟩
end Go.Proofs.Ytcfdbdmefdffdaa
/-
  The walk of the reference's Same of records, ways [8, 9]. Printed by gensamec.py.
-/
set_option linter.unusedVariables false
set_option linter.unusedSimpArgs false
namespace Go.Proofs.Ytcfdbdmefdffdaa
open Go Go.RowKit Go.Proofs.Base
open Go.Sort (grow)
set_option maxRecDepth 100000 in
set_option maxHeartbeats 8000000 in
theorem ref12_Same_9 (r s : GRec) (A1 A2 : Option Addr) (c1 c2 : Nat) (S : Nat → Prop) (w : World) (h1 : Row w S 4 r.vars.length (.slice A1 r.vars.length c1) (varCells r.vars)) (h2 : Row w S 4 s.vars.length (.slice A2 s.vars.length c2) (varCells s.vars)) (ht : (true = true) ↔ r.vars = s.vars) (g0 : (r.cls == s.cls) = true) (g1 : (r.kind == s.kind) = true) (g2 : (r.frm == s.frm) = true) (g3 : (r.time == s.time) = true) (g4 : (r.key == s.key) = true) (g5 : (r.key2 == s.key2) = true) (g6 : (r.key3 == s.key3) = true) (g7 : (r.n == s.n) = true) (g8 : (r.m == s.m) = false) :
    Calls Try.prog 14 #[.agg #[.int .i64 r.cls, .int .i64 r.kind, .int .u64 r.frm, .int .i64 r.time, .int .u64 r.key, .int .u64 r.key2, .int .u64 r.key3, .int .i64 r.n, .int .i64 r.m, .string r.a, .string r.b, .string r.c, .slice A1 r.vars.length c1], .agg #[.int .i64 s.cls, .int .i64 s.kind, .int .u64 s.frm, .int .i64 s.time, .int .u64 s.key, .int .u64 s.key2, .int .u64 s.key3, .int .i64 s.n, .int .i64 s.m, .string s.a, .string s.b, .string s.c, .slice A2 s.vars.length c2]] w fun e w' => e = .returned (.bool false) ∧ Below w.heap.size w w' := by
  have hb : Below w.heap.size w ((w.alloc (.cells #[.int .i64 r.cls, .int .i64 r.kind, .int .u64 r.frm, .int .i64 r.time, .int .u64 r.key, .int .u64 r.key2, .int .u64 r.key3, .int .i64 r.n, .int .i64 r.m, .string r.a, .string r.b, .string r.c, .slice A1 r.vars.length c1] 25)).alloc (.cells #[.int .i64 s.cls, .int .i64 s.kind, .int .u64 s.frm, .int .i64 s.time, .int .u64 s.key, .int .u64 s.key2, .int .u64 s.key3, .int .i64 s.n, .int .i64 s.m, .string s.a, .string s.b, .string s.c, .slice A2 s.vars.length c2] 25)) := ((Below.refl _ _).alloc (Nat.le_refl _) _).alloc (by simp) _
  have b1 : ((w.alloc (.cells #[.int .i64 r.cls, .int .i64 r.kind, .int .u64 r.frm, .int .i64 r.time, .int .u64 r.key, .int .u64 r.key2, .int .u64 r.key3, .int .i64 r.n, .int .i64 r.m, .string r.a, .string r.b, .string r.c, .slice A1 r.vars.length c1] 25)).alloc (.cells #[.int .i64 s.cls, .int .i64 s.kind, .int .u64 s.frm, .int .i64 s.time, .int .u64 s.key, .int .u64 s.key2, .int .u64 s.key3, .int .i64 s.n, .int .i64 s.m, .string s.a, .string s.b, .string s.c, .slice A2 s.vars.length c2] 25)).heap[w.heap.size]? = some (.cells #[.int .i64 r.cls, .int .i64 r.kind, .int .u64 r.frm, .int .i64 r.time, .int .u64 r.key, .int .u64 r.key2, .int .u64 r.key3, .int .i64 r.n, .int .i64 r.m, .string r.a, .string r.b, .string r.c, .slice A1 r.vars.length c1] 25 (0, 0)) := blk_old _ (blk_new _ _ rfl)
  have b2 : ((w.alloc (.cells #[.int .i64 r.cls, .int .i64 r.kind, .int .u64 r.frm, .int .i64 r.time, .int .u64 r.key, .int .u64 r.key2, .int .u64 r.key3, .int .i64 r.n, .int .i64 r.m, .string r.a, .string r.b, .string r.c, .slice A1 r.vars.length c1] 25)).alloc (.cells #[.int .i64 s.cls, .int .i64 s.kind, .int .u64 s.frm, .int .i64 s.time, .int .u64 s.key, .int .u64 s.key2, .int .u64 s.key3, .int .i64 s.n, .int .i64 s.m, .string s.a, .string s.b, .string s.c, .slice A2 s.vars.length c2] 25)).heap[w.heap.size + 1]? = some (.cells #[.int .i64 s.cls, .int .i64 s.kind, .int .u64 s.frm, .int .i64 s.time, .int .u64 s.key, .int .u64 s.key2, .int .u64 s.key3, .int .i64 s.n, .int .i64 s.m, .string s.a, .string s.b, .string s.c, .slice A2 s.vars.length c2] 25 (0, 0)) := blk_new _ _ (by simp)
  have H1 := Lib.hid (h1.below hb)
  have H2 := Lib.hid (h2.below hb)
  have HB := Lib.hid hb
  have HB1 := Lib.hid b1
  have HB2 := Lib.hid b2
  have HTV := Lib.hid ht
  clear hb b1 b2 h1 h2 ht
  go_enter Try.func14, Try.ntmps14
  go_wp2_with (go_at_call 24; refine (ref9_Same S r.vars s.vars _ _ _ _ true _ rfl rfl H1.out H2.out HTV.out).mono ?_; rintro e w1 ⟨rfl, hb1⟩; have B1 := block_below hb1 HB1.out; have B2 := block_below hb1 HB2.out; have p0 := (cell_of_blk B1 0).trans (rfl : _ = some (Value.int .i64 r.cls)); have p1 := (cell_of_blk B1 1).trans (rfl : _ = some (Value.int .i64 r.kind)); have p2 := (cell_of_blk B1 2).trans (rfl : _ = some (Value.int .u64 r.frm)); have p3 := (cell_of_blk B1 3).trans (rfl : _ = some (Value.int .i64 r.time)); have p4 := (cell_of_blk B1 4).trans (rfl : _ = some (Value.int .u64 r.key)); have p5 := (cell_of_blk B1 5).trans (rfl : _ = some (Value.int .u64 r.key2)); have p6 := (cell_of_blk B1 6).trans (rfl : _ = some (Value.int .u64 r.key3)); have p7 := (cell_of_blk B1 7).trans (rfl : _ = some (Value.int .i64 r.n)); have p8 := (cell_of_blk B1 8).trans (rfl : _ = some (Value.int .i64 r.m)); have q0 := (cell_of_blk B2 0).trans (rfl : _ = some (Value.int .i64 s.cls)); have q1 := (cell_of_blk B2 1).trans (rfl : _ = some (Value.int .i64 s.kind)); have q2 := (cell_of_blk B2 2).trans (rfl : _ = some (Value.int .u64 s.frm)); have q3 := (cell_of_blk B2 3).trans (rfl : _ = some (Value.int .i64 s.time)); have q4 := (cell_of_blk B2 4).trans (rfl : _ = some (Value.int .u64 s.key)); have q5 := (cell_of_blk B2 5).trans (rfl : _ = some (Value.int .u64 s.key2)); have q6 := (cell_of_blk B2 6).trans (rfl : _ = some (Value.int .u64 s.key3)); have q7 := (cell_of_blk B2 7).trans (rfl : _ = some (Value.int .i64 s.n)); have q8 := (cell_of_blk B2 8).trans (rfl : _ = some (Value.int .i64 s.m)); have HB9 := Lib.hid (below2 HB.out hb1); clear B1 B2 hb1 HB1 HB2 HB H1 H2 HTV)
  go_ret
  exact ⟨rfl, HB9.out⟩
set_option maxRecDepth 100000 in
set_option maxHeartbeats 8000000 in
theorem ref12_Same_10 (r s : GRec) (A1 A2 : Option Addr) (c1 c2 : Nat) (S : Nat → Prop) (w : World) (h1 : Row w S 4 r.vars.length (.slice A1 r.vars.length c1) (varCells r.vars)) (h2 : Row w S 4 s.vars.length (.slice A2 s.vars.length c2) (varCells s.vars)) (ht : (true = true) ↔ r.vars = s.vars) (g0 : (r.cls == s.cls) = true) (g1 : (r.kind == s.kind) = true) (g2 : (r.frm == s.frm) = true) (g3 : (r.time == s.time) = true) (g4 : (r.key == s.key) = true) (g5 : (r.key2 == s.key2) = true) (g6 : (r.key3 == s.key3) = true) (g7 : (r.n == s.n) = true) (g8 : (r.m == s.m) = true) (g9 : (r.a.toList == s.a.toList) = false) :
    Calls Try.prog 14 #[.agg #[.int .i64 r.cls, .int .i64 r.kind, .int .u64 r.frm, .int .i64 r.time, .int .u64 r.key, .int .u64 r.key2, .int .u64 r.key3, .int .i64 r.n, .int .i64 r.m, .string r.a, .string r.b, .string r.c, .slice A1 r.vars.length c1], .agg #[.int .i64 s.cls, .int .i64 s.kind, .int .u64 s.frm, .int .i64 s.time, .int .u64 s.key, .int .u64 s.key2, .int .u64 s.key3, .int .i64 s.n, .int .i64 s.m, .string s.a, .string s.b, .string s.c, .slice A2 s.vars.length c2]] w fun e w' => e = .returned (.bool false) ∧ Below w.heap.size w w' := by
  have hb : Below w.heap.size w ((w.alloc (.cells #[.int .i64 r.cls, .int .i64 r.kind, .int .u64 r.frm, .int .i64 r.time, .int .u64 r.key, .int .u64 r.key2, .int .u64 r.key3, .int .i64 r.n, .int .i64 r.m, .string r.a, .string r.b, .string r.c, .slice A1 r.vars.length c1] 25)).alloc (.cells #[.int .i64 s.cls, .int .i64 s.kind, .int .u64 s.frm, .int .i64 s.time, .int .u64 s.key, .int .u64 s.key2, .int .u64 s.key3, .int .i64 s.n, .int .i64 s.m, .string s.a, .string s.b, .string s.c, .slice A2 s.vars.length c2] 25)) := ((Below.refl _ _).alloc (Nat.le_refl _) _).alloc (by simp) _
  have b1 : ((w.alloc (.cells #[.int .i64 r.cls, .int .i64 r.kind, .int .u64 r.frm, .int .i64 r.time, .int .u64 r.key, .int .u64 r.key2, .int .u64 r.key3, .int .i64 r.n, .int .i64 r.m, .string r.a, .string r.b, .string r.c, .slice A1 r.vars.length c1] 25)).alloc (.cells #[.int .i64 s.cls, .int .i64 s.kind, .int .u64 s.frm, .int .i64 s.time, .int .u64 s.key, .int .u64 s.key2, .int .u64 s.key3, .int .i64 s.n, .int .i64 s.m, .string s.a, .string s.b, .string s.c, .slice A2 s.vars.length c2] 25)).heap[w.heap.size]? = some (.cells #[.int .i64 r.cls, .int .i64 r.kind, .int .u64 r.frm, .int .i64 r.time, .int .u64 r.key, .int .u64 r.key2, .int .u64 r.key3, .int .i64 r.n, .int .i64 r.m, .string r.a, .string r.b, .string r.c, .slice A1 r.vars.length c1] 25 (0, 0)) := blk_old _ (blk_new _ _ rfl)
  have b2 : ((w.alloc (.cells #[.int .i64 r.cls, .int .i64 r.kind, .int .u64 r.frm, .int .i64 r.time, .int .u64 r.key, .int .u64 r.key2, .int .u64 r.key3, .int .i64 r.n, .int .i64 r.m, .string r.a, .string r.b, .string r.c, .slice A1 r.vars.length c1] 25)).alloc (.cells #[.int .i64 s.cls, .int .i64 s.kind, .int .u64 s.frm, .int .i64 s.time, .int .u64 s.key, .int .u64 s.key2, .int .u64 s.key3, .int .i64 s.n, .int .i64 s.m, .string s.a, .string s.b, .string s.c, .slice A2 s.vars.length c2] 25)).heap[w.heap.size + 1]? = some (.cells #[.int .i64 s.cls, .int .i64 s.kind, .int .u64 s.frm, .int .i64 s.time, .int .u64 s.key, .int .u64 s.key2, .int .u64 s.key3, .int .i64 s.n, .int .i64 s.m, .string s.a, .string s.b, .string s.c, .slice A2 s.vars.length c2] 25 (0, 0)) := blk_new _ _ (by simp)
  have H1 := Lib.hid (h1.below hb)
  have H2 := Lib.hid (h2.below hb)
  have HB := Lib.hid hb
  have HB1 := Lib.hid b1
  have HB2 := Lib.hid b2
  have HTV := Lib.hid ht
  clear hb b1 b2 h1 h2 ht
  go_enter Try.func14, Try.ntmps14
  go_wp2_with (go_at_call 24; refine (ref9_Same S r.vars s.vars _ _ _ _ true _ rfl rfl H1.out H2.out HTV.out).mono ?_; rintro e w1 ⟨rfl, hb1⟩; have B1 := block_below hb1 HB1.out; have B2 := block_below hb1 HB2.out; have p0 := (cell_of_blk B1 0).trans (rfl : _ = some (Value.int .i64 r.cls)); have p1 := (cell_of_blk B1 1).trans (rfl : _ = some (Value.int .i64 r.kind)); have p2 := (cell_of_blk B1 2).trans (rfl : _ = some (Value.int .u64 r.frm)); have p3 := (cell_of_blk B1 3).trans (rfl : _ = some (Value.int .i64 r.time)); have p4 := (cell_of_blk B1 4).trans (rfl : _ = some (Value.int .u64 r.key)); have p5 := (cell_of_blk B1 5).trans (rfl : _ = some (Value.int .u64 r.key2)); have p6 := (cell_of_blk B1 6).trans (rfl : _ = some (Value.int .u64 r.key3)); have p7 := (cell_of_blk B1 7).trans (rfl : _ = some (Value.int .i64 r.n)); have p8 := (cell_of_blk B1 8).trans (rfl : _ = some (Value.int .i64 r.m)); have p9 := (cell_of_blk B1 9).trans (rfl : _ = some (Value.string r.a)); have q0 := (cell_of_blk B2 0).trans (rfl : _ = some (Value.int .i64 s.cls)); have q1 := (cell_of_blk B2 1).trans (rfl : _ = some (Value.int .i64 s.kind)); have q2 := (cell_of_blk B2 2).trans (rfl : _ = some (Value.int .u64 s.frm)); have q3 := (cell_of_blk B2 3).trans (rfl : _ = some (Value.int .i64 s.time)); have q4 := (cell_of_blk B2 4).trans (rfl : _ = some (Value.int .u64 s.key)); have q5 := (cell_of_blk B2 5).trans (rfl : _ = some (Value.int .u64 s.key2)); have q6 := (cell_of_blk B2 6).trans (rfl : _ = some (Value.int .u64 s.key3)); have q7 := (cell_of_blk B2 7).trans (rfl : _ = some (Value.int .i64 s.n)); have q8 := (cell_of_blk B2 8).trans (rfl : _ = some (Value.int .i64 s.m)); have q9 := (cell_of_blk B2 9).trans (rfl : _ = some (Value.string s.a)); have HB9 := Lib.hid (below2 HB.out hb1); clear B1 B2 hb1 HB1 HB2 HB H1 H2 HTV)
  go_ret
  exact ⟨rfl, HB9.out⟩
end Go.Proofs.Ytcfdbdmefdffdaa
/-
  The walk of the reference's Same of records, ways [10, 11]. Printed by gensamec.py.
-/
set_option linter.unusedVariables false
set_option linter.unusedSimpArgs false
namespace Go.Proofs.Ytcfdbdmefdffdaa
open Go Go.RowKit Go.Proofs.Base
open Go.Sort (grow)
set_option maxRecDepth 100000 in
set_option maxHeartbeats 8000000 in
theorem ref12_Same_11 (r s : GRec) (A1 A2 : Option Addr) (c1 c2 : Nat) (S : Nat → Prop) (w : World) (h1 : Row w S 4 r.vars.length (.slice A1 r.vars.length c1) (varCells r.vars)) (h2 : Row w S 4 s.vars.length (.slice A2 s.vars.length c2) (varCells s.vars)) (ht : (true = true) ↔ r.vars = s.vars) (g0 : (r.cls == s.cls) = true) (g1 : (r.kind == s.kind) = true) (g2 : (r.frm == s.frm) = true) (g3 : (r.time == s.time) = true) (g4 : (r.key == s.key) = true) (g5 : (r.key2 == s.key2) = true) (g6 : (r.key3 == s.key3) = true) (g7 : (r.n == s.n) = true) (g8 : (r.m == s.m) = true) (g9 : (r.a.toList == s.a.toList) = true) (g10 : (r.b.toList == s.b.toList) = false) :
    Calls Try.prog 14 #[.agg #[.int .i64 r.cls, .int .i64 r.kind, .int .u64 r.frm, .int .i64 r.time, .int .u64 r.key, .int .u64 r.key2, .int .u64 r.key3, .int .i64 r.n, .int .i64 r.m, .string r.a, .string r.b, .string r.c, .slice A1 r.vars.length c1], .agg #[.int .i64 s.cls, .int .i64 s.kind, .int .u64 s.frm, .int .i64 s.time, .int .u64 s.key, .int .u64 s.key2, .int .u64 s.key3, .int .i64 s.n, .int .i64 s.m, .string s.a, .string s.b, .string s.c, .slice A2 s.vars.length c2]] w fun e w' => e = .returned (.bool false) ∧ Below w.heap.size w w' := by
  have hb : Below w.heap.size w ((w.alloc (.cells #[.int .i64 r.cls, .int .i64 r.kind, .int .u64 r.frm, .int .i64 r.time, .int .u64 r.key, .int .u64 r.key2, .int .u64 r.key3, .int .i64 r.n, .int .i64 r.m, .string r.a, .string r.b, .string r.c, .slice A1 r.vars.length c1] 25)).alloc (.cells #[.int .i64 s.cls, .int .i64 s.kind, .int .u64 s.frm, .int .i64 s.time, .int .u64 s.key, .int .u64 s.key2, .int .u64 s.key3, .int .i64 s.n, .int .i64 s.m, .string s.a, .string s.b, .string s.c, .slice A2 s.vars.length c2] 25)) := ((Below.refl _ _).alloc (Nat.le_refl _) _).alloc (by simp) _
  have b1 : ((w.alloc (.cells #[.int .i64 r.cls, .int .i64 r.kind, .int .u64 r.frm, .int .i64 r.time, .int .u64 r.key, .int .u64 r.key2, .int .u64 r.key3, .int .i64 r.n, .int .i64 r.m, .string r.a, .string r.b, .string r.c, .slice A1 r.vars.length c1] 25)).alloc (.cells #[.int .i64 s.cls, .int .i64 s.kind, .int .u64 s.frm, .int .i64 s.time, .int .u64 s.key, .int .u64 s.key2, .int .u64 s.key3, .int .i64 s.n, .int .i64 s.m, .string s.a, .string s.b, .string s.c, .slice A2 s.vars.length c2] 25)).heap[w.heap.size]? = some (.cells #[.int .i64 r.cls, .int .i64 r.kind, .int .u64 r.frm, .int .i64 r.time, .int .u64 r.key, .int .u64 r.key2, .int .u64 r.key3, .int .i64 r.n, .int .i64 r.m, .string r.a, .string r.b, .string r.c, .slice A1 r.vars.length c1] 25 (0, 0)) := blk_old _ (blk_new _ _ rfl)
  have b2 : ((w.alloc (.cells #[.int .i64 r.cls, .int .i64 r.kind, .int .u64 r.frm, .int .i64 r.time, .int .u64 r.key, .int .u64 r.key2, .int .u64 r.key3, .int .i64 r.n, .int .i64 r.m, .string r.a, .string r.b, .string r.c, .slice A1 r.vars.length c1] 25)).alloc (.cells #[.int .i64 s.cls, .int .i64 s.kind, .int .u64 s.frm, .int .i64 s.time, .int .u64 s.key, .int .u64 s.key2, .int .u64 s.key3, .int .i64 s.n, .int .i64 s.m, .string s.a, .string s.b, .string s.c, .slice A2 s.vars.length c2] 25)).heap[w.heap.size + 1]? = some (.cells #[.int .i64 s.cls, .int .i64 s.kind, .int .u64 s.frm, .int .i64 s.time, .int .u64 s.key, .int .u64 s.key2, .int .u64 s.key3, .int .i64 s.n, .int .i64 s.m, .string s.a, .string s.b, .string s.c, .slice A2 s.vars.length c2] 25 (0, 0)) := blk_new _ _ (by simp)
  have H1 := Lib.hid (h1.below hb)
  have H2 := Lib.hid (h2.below hb)
  have HB := Lib.hid hb
  have HB1 := Lib.hid b1
  have HB2 := Lib.hid b2
  have HTV := Lib.hid ht
  clear hb b1 b2 h1 h2 ht
  go_enter Try.func14, Try.ntmps14
  go_wp2_with (go_at_call 24; refine (ref9_Same S r.vars s.vars _ _ _ _ true _ rfl rfl H1.out H2.out HTV.out).mono ?_; rintro e w1 ⟨rfl, hb1⟩; have B1 := block_below hb1 HB1.out; have B2 := block_below hb1 HB2.out; have p0 := (cell_of_blk B1 0).trans (rfl : _ = some (Value.int .i64 r.cls)); have p1 := (cell_of_blk B1 1).trans (rfl : _ = some (Value.int .i64 r.kind)); have p2 := (cell_of_blk B1 2).trans (rfl : _ = some (Value.int .u64 r.frm)); have p3 := (cell_of_blk B1 3).trans (rfl : _ = some (Value.int .i64 r.time)); have p4 := (cell_of_blk B1 4).trans (rfl : _ = some (Value.int .u64 r.key)); have p5 := (cell_of_blk B1 5).trans (rfl : _ = some (Value.int .u64 r.key2)); have p6 := (cell_of_blk B1 6).trans (rfl : _ = some (Value.int .u64 r.key3)); have p7 := (cell_of_blk B1 7).trans (rfl : _ = some (Value.int .i64 r.n)); have p8 := (cell_of_blk B1 8).trans (rfl : _ = some (Value.int .i64 r.m)); have p9 := (cell_of_blk B1 9).trans (rfl : _ = some (Value.string r.a)); have p10 := (cell_of_blk B1 10).trans (rfl : _ = some (Value.string r.b)); have q0 := (cell_of_blk B2 0).trans (rfl : _ = some (Value.int .i64 s.cls)); have q1 := (cell_of_blk B2 1).trans (rfl : _ = some (Value.int .i64 s.kind)); have q2 := (cell_of_blk B2 2).trans (rfl : _ = some (Value.int .u64 s.frm)); have q3 := (cell_of_blk B2 3).trans (rfl : _ = some (Value.int .i64 s.time)); have q4 := (cell_of_blk B2 4).trans (rfl : _ = some (Value.int .u64 s.key)); have q5 := (cell_of_blk B2 5).trans (rfl : _ = some (Value.int .u64 s.key2)); have q6 := (cell_of_blk B2 6).trans (rfl : _ = some (Value.int .u64 s.key3)); have q7 := (cell_of_blk B2 7).trans (rfl : _ = some (Value.int .i64 s.n)); have q8 := (cell_of_blk B2 8).trans (rfl : _ = some (Value.int .i64 s.m)); have q9 := (cell_of_blk B2 9).trans (rfl : _ = some (Value.string s.a)); have q10 := (cell_of_blk B2 10).trans (rfl : _ = some (Value.string s.b)); have HB9 := Lib.hid (below2 HB.out hb1); clear B1 B2 hb1 HB1 HB2 HB H1 H2 HTV)
  go_ret
  exact ⟨rfl, HB9.out⟩
set_option maxRecDepth 100000 in
set_option maxHeartbeats 8000000 in
theorem ref12_Same_12 (r s : GRec) (A1 A2 : Option Addr) (c1 c2 : Nat) (S : Nat → Prop) (w : World) (h1 : Row w S 4 r.vars.length (.slice A1 r.vars.length c1) (varCells r.vars)) (h2 : Row w S 4 s.vars.length (.slice A2 s.vars.length c2) (varCells s.vars)) (ht : (true = true) ↔ r.vars = s.vars) (g0 : (r.cls == s.cls) = true) (g1 : (r.kind == s.kind) = true) (g2 : (r.frm == s.frm) = true) (g3 : (r.time == s.time) = true) (g4 : (r.key == s.key) = true) (g5 : (r.key2 == s.key2) = true) (g6 : (r.key3 == s.key3) = true) (g7 : (r.n == s.n) = true) (g8 : (r.m == s.m) = true) (g9 : (r.a.toList == s.a.toList) = true) (g10 : (r.b.toList == s.b.toList) = true) (g11 : (r.c.toList == s.c.toList) = false) :
    Calls Try.prog 14 #[.agg #[.int .i64 r.cls, .int .i64 r.kind, .int .u64 r.frm, .int .i64 r.time, .int .u64 r.key, .int .u64 r.key2, .int .u64 r.key3, .int .i64 r.n, .int .i64 r.m, .string r.a, .string r.b, .string r.c, .slice A1 r.vars.length c1], .agg #[.int .i64 s.cls, .int .i64 s.kind, .int .u64 s.frm, .int .i64 s.time, .int .u64 s.key, .int .u64 s.key2, .int .u64 s.key3, .int .i64 s.n, .int .i64 s.m, .string s.a, .string s.b, .string s.c, .slice A2 s.vars.length c2]] w fun e w' => e = .returned (.bool false) ∧ Below w.heap.size w w' := by
  have hb : Below w.heap.size w ((w.alloc (.cells #[.int .i64 r.cls, .int .i64 r.kind, .int .u64 r.frm, .int .i64 r.time, .int .u64 r.key, .int .u64 r.key2, .int .u64 r.key3, .int .i64 r.n, .int .i64 r.m, .string r.a, .string r.b, .string r.c, .slice A1 r.vars.length c1] 25)).alloc (.cells #[.int .i64 s.cls, .int .i64 s.kind, .int .u64 s.frm, .int .i64 s.time, .int .u64 s.key, .int .u64 s.key2, .int .u64 s.key3, .int .i64 s.n, .int .i64 s.m, .string s.a, .string s.b, .string s.c, .slice A2 s.vars.length c2] 25)) := ((Below.refl _ _).alloc (Nat.le_refl _) _).alloc (by simp) _
  have b1 : ((w.alloc (.cells #[.int .i64 r.cls, .int .i64 r.kind, .int .u64 r.frm, .int .i64 r.time, .int .u64 r.key, .int .u64 r.key2, .int .u64 r.key3, .int .i64 r.n, .int .i64 r.m, .string r.a, .string r.b, .string r.c, .slice A1 r.vars.length c1] 25)).alloc (.cells #[.int .i64 s.cls, .int .i64 s.kind, .int .u64 s.frm, .int .i64 s.time, .int .u64 s.key, .int .u64 s.key2, .int .u64 s.key3, .int .i64 s.n, .int .i64 s.m, .string s.a, .string s.b, .string s.c, .slice A2 s.vars.length c2] 25)).heap[w.heap.size]? = some (.cells #[.int .i64 r.cls, .int .i64 r.kind, .int .u64 r.frm, .int .i64 r.time, .int .u64 r.key, .int .u64 r.key2, .int .u64 r.key3, .int .i64 r.n, .int .i64 r.m, .string r.a, .string r.b, .string r.c, .slice A1 r.vars.length c1] 25 (0, 0)) := blk_old _ (blk_new _ _ rfl)
  have b2 : ((w.alloc (.cells #[.int .i64 r.cls, .int .i64 r.kind, .int .u64 r.frm, .int .i64 r.time, .int .u64 r.key, .int .u64 r.key2, .int .u64 r.key3, .int .i64 r.n, .int .i64 r.m, .string r.a, .string r.b, .string r.c, .slice A1 r.vars.length c1] 25)).alloc (.cells #[.int .i64 s.cls, .int .i64 s.kind, .int .u64 s.frm, .int .i64 s.time, .int .u64 s.key, .int .u64 s.key2, .int .u64 s.key3, .int .i64 s.n, .int .i64 s.m, .string s.a, .string s.b, .string s.c, .slice A2 s.vars.length c2] 25)).heap[w.heap.size + 1]? = some (.cells #[.int .i64 s.cls, .int .i64 s.kind, .int .u64 s.frm, .int .i64 s.time, .int .u64 s.key, .int .u64 s.key2, .int .u64 s.key3, .int .i64 s.n, .int .i64 s.m, .string s.a, .string s.b, .string s.c, .slice A2 s.vars.length c2] 25 (0, 0)) := blk_new _ _ (by simp)
  have H1 := Lib.hid (h1.below hb)
  have H2 := Lib.hid (h2.below hb)
  have HB := Lib.hid hb
  have HB1 := Lib.hid b1
  have HB2 := Lib.hid b2
  have HTV := Lib.hid ht
  clear hb b1 b2 h1 h2 ht
  go_enter Try.func14, Try.ntmps14
  go_wp2_with (go_at_call 24; refine (ref9_Same S r.vars s.vars _ _ _ _ true _ rfl rfl H1.out H2.out HTV.out).mono ?_; rintro e w1 ⟨rfl, hb1⟩; have B1 := block_below hb1 HB1.out; have B2 := block_below hb1 HB2.out; have p0 := (cell_of_blk B1 0).trans (rfl : _ = some (Value.int .i64 r.cls)); have p1 := (cell_of_blk B1 1).trans (rfl : _ = some (Value.int .i64 r.kind)); have p2 := (cell_of_blk B1 2).trans (rfl : _ = some (Value.int .u64 r.frm)); have p3 := (cell_of_blk B1 3).trans (rfl : _ = some (Value.int .i64 r.time)); have p4 := (cell_of_blk B1 4).trans (rfl : _ = some (Value.int .u64 r.key)); have p5 := (cell_of_blk B1 5).trans (rfl : _ = some (Value.int .u64 r.key2)); have p6 := (cell_of_blk B1 6).trans (rfl : _ = some (Value.int .u64 r.key3)); have p7 := (cell_of_blk B1 7).trans (rfl : _ = some (Value.int .i64 r.n)); have p8 := (cell_of_blk B1 8).trans (rfl : _ = some (Value.int .i64 r.m)); have p9 := (cell_of_blk B1 9).trans (rfl : _ = some (Value.string r.a)); have p10 := (cell_of_blk B1 10).trans (rfl : _ = some (Value.string r.b)); have p11 := (cell_of_blk B1 11).trans (rfl : _ = some (Value.string r.c)); have q0 := (cell_of_blk B2 0).trans (rfl : _ = some (Value.int .i64 s.cls)); have q1 := (cell_of_blk B2 1).trans (rfl : _ = some (Value.int .i64 s.kind)); have q2 := (cell_of_blk B2 2).trans (rfl : _ = some (Value.int .u64 s.frm)); have q3 := (cell_of_blk B2 3).trans (rfl : _ = some (Value.int .i64 s.time)); have q4 := (cell_of_blk B2 4).trans (rfl : _ = some (Value.int .u64 s.key)); have q5 := (cell_of_blk B2 5).trans (rfl : _ = some (Value.int .u64 s.key2)); have q6 := (cell_of_blk B2 6).trans (rfl : _ = some (Value.int .u64 s.key3)); have q7 := (cell_of_blk B2 7).trans (rfl : _ = some (Value.int .i64 s.n)); have q8 := (cell_of_blk B2 8).trans (rfl : _ = some (Value.int .i64 s.m)); have q9 := (cell_of_blk B2 9).trans (rfl : _ = some (Value.string s.a)); have q10 := (cell_of_blk B2 10).trans (rfl : _ = some (Value.string s.b)); have q11 := (cell_of_blk B2 11).trans (rfl : _ = some (Value.string s.c)); have HB9 := Lib.hid (below2 HB.out hb1); clear B1 B2 hb1 HB1 HB2 HB H1 H2 HTV)
  go_ret
  exact ⟨rfl, HB9.out⟩
end Go.Proofs.Ytcfdbdmefdffdaa
/-
  The walk of the reference's Same of records, ways [12]. Printed by gensamec.py.
-/
set_option linter.unusedVariables false
set_option linter.unusedSimpArgs false
namespace Go.Proofs.Ytcfdbdmefdffdaa
open Go Go.RowKit Go.Proofs.Base
open Go.Sort (grow)
set_option maxRecDepth 100000 in
set_option maxHeartbeats 8000000 in
theorem ref12_Same_13 (r s : GRec) (A1 A2 : Option Addr) (c1 c2 : Nat) (S : Nat → Prop) (w : World) (h1 : Row w S 4 r.vars.length (.slice A1 r.vars.length c1) (varCells r.vars)) (h2 : Row w S 4 s.vars.length (.slice A2 s.vars.length c2) (varCells s.vars)) (ht : (true = true) ↔ r.vars = s.vars) (g0 : (r.cls == s.cls) = true) (g1 : (r.kind == s.kind) = true) (g2 : (r.frm == s.frm) = true) (g3 : (r.time == s.time) = true) (g4 : (r.key == s.key) = true) (g5 : (r.key2 == s.key2) = true) (g6 : (r.key3 == s.key3) = true) (g7 : (r.n == s.n) = true) (g8 : (r.m == s.m) = true) (g9 : (r.a.toList == s.a.toList) = true) (g10 : (r.b.toList == s.b.toList) = true) (g11 : (r.c.toList == s.c.toList) = true) :
    Calls Try.prog 14 #[.agg #[.int .i64 r.cls, .int .i64 r.kind, .int .u64 r.frm, .int .i64 r.time, .int .u64 r.key, .int .u64 r.key2, .int .u64 r.key3, .int .i64 r.n, .int .i64 r.m, .string r.a, .string r.b, .string r.c, .slice A1 r.vars.length c1], .agg #[.int .i64 s.cls, .int .i64 s.kind, .int .u64 s.frm, .int .i64 s.time, .int .u64 s.key, .int .u64 s.key2, .int .u64 s.key3, .int .i64 s.n, .int .i64 s.m, .string s.a, .string s.b, .string s.c, .slice A2 s.vars.length c2]] w fun e w' => e = .returned (.bool true) ∧ Below w.heap.size w w' := by
  have hb : Below w.heap.size w ((w.alloc (.cells #[.int .i64 r.cls, .int .i64 r.kind, .int .u64 r.frm, .int .i64 r.time, .int .u64 r.key, .int .u64 r.key2, .int .u64 r.key3, .int .i64 r.n, .int .i64 r.m, .string r.a, .string r.b, .string r.c, .slice A1 r.vars.length c1] 25)).alloc (.cells #[.int .i64 s.cls, .int .i64 s.kind, .int .u64 s.frm, .int .i64 s.time, .int .u64 s.key, .int .u64 s.key2, .int .u64 s.key3, .int .i64 s.n, .int .i64 s.m, .string s.a, .string s.b, .string s.c, .slice A2 s.vars.length c2] 25)) := ((Below.refl _ _).alloc (Nat.le_refl _) _).alloc (by simp) _
  have b1 : ((w.alloc (.cells #[.int .i64 r.cls, .int .i64 r.kind, .int .u64 r.frm, .int .i64 r.time, .int .u64 r.key, .int .u64 r.key2, .int .u64 r.key3, .int .i64 r.n, .int .i64 r.m, .string r.a, .string r.b, .string r.c, .slice A1 r.vars.length c1] 25)).alloc (.cells #[.int .i64 s.cls, .int .i64 s.kind, .int .u64 s.frm, .int .i64 s.time, .int .u64 s.key, .int .u64 s.key2, .int .u64 s.key3, .int .i64 s.n, .int .i64 s.m, .string s.a, .string s.b, .string s.c, .slice A2 s.vars.length c2] 25)).heap[w.heap.size]? = some (.cells #[.int .i64 r.cls, .int .i64 r.kind, .int .u64 r.frm, .int .i64 r.time, .int .u64 r.key, .int .u64 r.key2, .int .u64 r.key3, .int .i64 r.n, .int .i64 r.m, .string r.a, .string r.b, .string r.c, .slice A1 r.vars.length c1] 25 (0, 0)) := blk_old _ (blk_new _ _ rfl)
  have b2 : ((w.alloc (.cells #[.int .i64 r.cls, .int .i64 r.kind, .int .u64 r.frm, .int .i64 r.time, .int .u64 r.key, .int .u64 r.key2, .int .u64 r.key3, .int .i64 r.n, .int .i64 r.m, .string r.a, .string r.b, .string r.c, .slice A1 r.vars.length c1] 25)).alloc (.cells #[.int .i64 s.cls, .int .i64 s.kind, .int .u64 s.frm, .int .i64 s.time, .int .u64 s.key, .int .u64 s.key2, .int .u64 s.key3, .int .i64 s.n, .int .i64 s.m, .string s.a, .string s.b, .string s.c, .slice A2 s.vars.length c2] 25)).heap[w.heap.size + 1]? = some (.cells #[.int .i64 s.cls, .int .i64 s.kind, .int .u64 s.frm, .int .i64 s.time, .int .u64 s.key, .int .u64 s.key2, .int .u64 s.key3, .int .i64 s.n, .int .i64 s.m, .string s.a, .string s.b, .string s.c, .slice A2 s.vars.length c2] 25 (0, 0)) := blk_new _ _ (by simp)
  have H1 := Lib.hid (h1.below hb)
  have H2 := Lib.hid (h2.below hb)
  have HB := Lib.hid hb
  have HB1 := Lib.hid b1
  have HB2 := Lib.hid b2
  have HTV := Lib.hid ht
  clear hb b1 b2 h1 h2 ht
  go_enter Try.func14, Try.ntmps14
  go_wp2_with (go_at_call 24; refine (ref9_Same S r.vars s.vars _ _ _ _ true _ rfl rfl H1.out H2.out HTV.out).mono ?_; rintro e w1 ⟨rfl, hb1⟩; have B1 := block_below hb1 HB1.out; have B2 := block_below hb1 HB2.out; have p0 := (cell_of_blk B1 0).trans (rfl : _ = some (Value.int .i64 r.cls)); have p1 := (cell_of_blk B1 1).trans (rfl : _ = some (Value.int .i64 r.kind)); have p2 := (cell_of_blk B1 2).trans (rfl : _ = some (Value.int .u64 r.frm)); have p3 := (cell_of_blk B1 3).trans (rfl : _ = some (Value.int .i64 r.time)); have p4 := (cell_of_blk B1 4).trans (rfl : _ = some (Value.int .u64 r.key)); have p5 := (cell_of_blk B1 5).trans (rfl : _ = some (Value.int .u64 r.key2)); have p6 := (cell_of_blk B1 6).trans (rfl : _ = some (Value.int .u64 r.key3)); have p7 := (cell_of_blk B1 7).trans (rfl : _ = some (Value.int .i64 r.n)); have p8 := (cell_of_blk B1 8).trans (rfl : _ = some (Value.int .i64 r.m)); have p9 := (cell_of_blk B1 9).trans (rfl : _ = some (Value.string r.a)); have p10 := (cell_of_blk B1 10).trans (rfl : _ = some (Value.string r.b)); have p11 := (cell_of_blk B1 11).trans (rfl : _ = some (Value.string r.c)); have q0 := (cell_of_blk B2 0).trans (rfl : _ = some (Value.int .i64 s.cls)); have q1 := (cell_of_blk B2 1).trans (rfl : _ = some (Value.int .i64 s.kind)); have q2 := (cell_of_blk B2 2).trans (rfl : _ = some (Value.int .u64 s.frm)); have q3 := (cell_of_blk B2 3).trans (rfl : _ = some (Value.int .i64 s.time)); have q4 := (cell_of_blk B2 4).trans (rfl : _ = some (Value.int .u64 s.key)); have q5 := (cell_of_blk B2 5).trans (rfl : _ = some (Value.int .u64 s.key2)); have q6 := (cell_of_blk B2 6).trans (rfl : _ = some (Value.int .u64 s.key3)); have q7 := (cell_of_blk B2 7).trans (rfl : _ = some (Value.int .i64 s.n)); have q8 := (cell_of_blk B2 8).trans (rfl : _ = some (Value.int .i64 s.m)); have q9 := (cell_of_blk B2 9).trans (rfl : _ = some (Value.string s.a)); have q10 := (cell_of_blk B2 10).trans (rfl : _ = some (Value.string s.b)); have q11 := (cell_of_blk B2 11).trans (rfl : _ = some (Value.string s.c)); have HB9 := Lib.hid (below2 HB.out hb1); clear B1 B2 hb1 HB1 HB2 HB H1 H2 HTV)
  go_ret
  exact ⟨rfl, HB9.out⟩
end Go.Proofs.Ytcfdbdmefdffdaa
/-
  The walk of the reference's Same of records, all ways. Printed by gensamec.py.
-/
set_option linter.unusedVariables false
set_option linter.unusedSimpArgs false
namespace Go.Proofs.Ytcfdbdmefdffdaa
open Go Go.RowKit Go.Proofs.Base
theorem beqS_t {a b : ByteArray} (h : a = b) : (a.toList == b.toList) = true := by rw [h]; simp
theorem beqS_f {a b : ByteArray} (h : a ≠ b) : (a.toList == b.toList) = false := by
  rw [beq_eq_false_iff_ne]
  intro he
  rw [toList_toL, toList_toL] at he
  exact h (toL_inj he)
theorem same_f {r s : GRec} {t : Bool} (ht : t = true ↔ r = s) (h : r ≠ s) : t = false := by
  cases t
  · rfl
  · exact absurd (ht.1 rfl) h
theorem ref12_Same (r s : GRec) (vv uu : Value) (S : Nat → Prop) (t : Bool) (w : World) (h1 : Row w S 4 r.vars.length vv (varCells r.vars)) (h2 : Row w S 4 s.vars.length uu (varCells s.vars)) (ht : t = true ↔ r = s) :
    Calls Try.prog 14 #[.agg #[.int .i64 r.cls, .int .i64 r.kind, .int .u64 r.frm, .int .i64 r.time, .int .u64 r.key, .int .u64 r.key2, .int .u64 r.key3, .int .i64 r.n, .int .i64 r.m, .string r.a, .string r.b, .string r.c, vv], .agg #[.int .i64 s.cls, .int .i64 s.kind, .int .u64 s.frm, .int .i64 s.time, .int .u64 s.key, .int .u64 s.key2, .int .u64 s.key3, .int .i64 s.n, .int .i64 s.m, .string s.a, .string s.b, .string s.c, uu]] w fun e w' => e = .returned (.bool t) ∧ Below w.heap.size w w' := by
  obtain ⟨A1, c1, rfl, _, _⟩ := h1.open_
  obtain ⟨A2, c2, rfl, _, _⟩ := h2.open_
  by_cases ev : r.vars = s.vars
  rotate_left
  · rw [same_f ht (fun h => ev (congrArg GRec.vars h))]
    exact ref12_Same_0 r s A1 A2 c1 c2 S w h1 h2 ⟨fun h => (by cases h), fun h => absurd h ev⟩
  by_cases e0 : r.cls = s.cls
  rotate_left
  · rw [same_f ht (fun h => e0 (congrArg GRec.cls h))]
    exact ref12_Same_1 r s A1 A2 c1 c2 S w h1 h2 ⟨fun _ => ev, fun _ => rfl⟩  (beq_f e0)
  by_cases e1 : r.kind = s.kind
  rotate_left
  · rw [same_f ht (fun h => e1 (congrArg GRec.kind h))]
    exact ref12_Same_2 r s A1 A2 c1 c2 S w h1 h2 ⟨fun _ => ev, fun _ => rfl⟩ (beq_t e0) (beq_f e1)
  by_cases e2 : r.frm = s.frm
  rotate_left
  · rw [same_f ht (fun h => e2 (congrArg GRec.frm h))]
    exact ref12_Same_3 r s A1 A2 c1 c2 S w h1 h2 ⟨fun _ => ev, fun _ => rfl⟩ (beq_t e0) (beq_t e1) (beq_f e2)
  by_cases e3 : r.time = s.time
  rotate_left
  · rw [same_f ht (fun h => e3 (congrArg GRec.time h))]
    exact ref12_Same_4 r s A1 A2 c1 c2 S w h1 h2 ⟨fun _ => ev, fun _ => rfl⟩ (beq_t e0) (beq_t e1) (beq_t e2) (beq_f e3)
  by_cases e4 : r.key = s.key
  rotate_left
  · rw [same_f ht (fun h => e4 (congrArg GRec.key h))]
    exact ref12_Same_5 r s A1 A2 c1 c2 S w h1 h2 ⟨fun _ => ev, fun _ => rfl⟩ (beq_t e0) (beq_t e1) (beq_t e2) (beq_t e3) (beq_f e4)
  by_cases e5 : r.key2 = s.key2
  rotate_left
  · rw [same_f ht (fun h => e5 (congrArg GRec.key2 h))]
    exact ref12_Same_6 r s A1 A2 c1 c2 S w h1 h2 ⟨fun _ => ev, fun _ => rfl⟩ (beq_t e0) (beq_t e1) (beq_t e2) (beq_t e3) (beq_t e4) (beq_f e5)
  by_cases e6 : r.key3 = s.key3
  rotate_left
  · rw [same_f ht (fun h => e6 (congrArg GRec.key3 h))]
    exact ref12_Same_7 r s A1 A2 c1 c2 S w h1 h2 ⟨fun _ => ev, fun _ => rfl⟩ (beq_t e0) (beq_t e1) (beq_t e2) (beq_t e3) (beq_t e4) (beq_t e5) (beq_f e6)
  by_cases e7 : r.n = s.n
  rotate_left
  · rw [same_f ht (fun h => e7 (congrArg GRec.n h))]
    exact ref12_Same_8 r s A1 A2 c1 c2 S w h1 h2 ⟨fun _ => ev, fun _ => rfl⟩ (beq_t e0) (beq_t e1) (beq_t e2) (beq_t e3) (beq_t e4) (beq_t e5) (beq_t e6) (beq_f e7)
  by_cases e8 : r.m = s.m
  rotate_left
  · rw [same_f ht (fun h => e8 (congrArg GRec.m h))]
    exact ref12_Same_9 r s A1 A2 c1 c2 S w h1 h2 ⟨fun _ => ev, fun _ => rfl⟩ (beq_t e0) (beq_t e1) (beq_t e2) (beq_t e3) (beq_t e4) (beq_t e5) (beq_t e6) (beq_t e7) (beq_f e8)
  by_cases e9 : r.a = s.a
  rotate_left
  · rw [same_f ht (fun h => e9 (congrArg GRec.a h))]
    exact ref12_Same_10 r s A1 A2 c1 c2 S w h1 h2 ⟨fun _ => ev, fun _ => rfl⟩ (beq_t e0) (beq_t e1) (beq_t e2) (beq_t e3) (beq_t e4) (beq_t e5) (beq_t e6) (beq_t e7) (beq_t e8) (beqS_f e9)
  by_cases e10 : r.b = s.b
  rotate_left
  · rw [same_f ht (fun h => e10 (congrArg GRec.b h))]
    exact ref12_Same_11 r s A1 A2 c1 c2 S w h1 h2 ⟨fun _ => ev, fun _ => rfl⟩ (beq_t e0) (beq_t e1) (beq_t e2) (beq_t e3) (beq_t e4) (beq_t e5) (beq_t e6) (beq_t e7) (beq_t e8) (beqS_t e9) (beqS_f e10)
  by_cases e11 : r.c = s.c
  rotate_left
  · rw [same_f ht (fun h => e11 (congrArg GRec.c h))]
    exact ref12_Same_12 r s A1 A2 c1 c2 S w h1 h2 ⟨fun _ => ev, fun _ => rfl⟩ (beq_t e0) (beq_t e1) (beq_t e2) (beq_t e3) (beq_t e4) (beq_t e5) (beq_t e6) (beq_t e7) (beq_t e8) (beqS_t e9) (beqS_t e10) (beqS_f e11)
  have htt : t = true := ht.2 (by
    clear h1 h2 ht
    cases r; cases s
    simp only at *
    subst ev e0 e1 e2 e3 e4 e5 e6 e7 e8 e9 e10 e11
    rfl)
  rw [htt]
  exact ref12_Same_13 r s A1 A2 c1 c2 S w h1 h2 ⟨fun _ => ev, fun _ => rfl⟩ (beq_t e0) (beq_t e1) (beq_t e2) (beq_t e3) (beq_t e4) (beq_t e5) (beq_t e6) (beq_t e7) (beq_t e8) (beqS_t e9) (beqS_t e10) (beqS_t e11)
end Go.Proofs.Ytcfdbdmefdffdaa
/-
  Two records that are known; the walk of the law's 'shown'.
-/
set_option linter.unusedVariables false
set_option linter.unusedSimpArgs false
namespace Go.Proofs.Ytcfdbdmefdffdaa
open Go Go.RowKit Go.Proofs.Base
open Go.Sort (grow)
def rec1 : GRec := ⟨1, 7, 0, 0, 5, 0, 0, 0, 0, ⟨#[]⟩, ⟨#[]⟩, ⟨#[]⟩, []⟩
def rec0 : GRec := ⟨0, 0, 0, 0, 0, 0, 0, 0, 0, ⟨#[]⟩, ⟨#[]⟩, ⟨#[]⟩, []⟩
theorem rec1_B : recB rec1 = (⟨#[1,7,0,0,5,0,0,0,0,0,0,0,0]⟩, 0) := by kernel_rfl
theorem rec0_B : recB rec0 = (⟨#[]⟩, 1) := by kernel_rfl
theorem okS_empty : okS ⟨#[]⟩ := by show (0 : Nat) ≤ 140737488351232; decide
theorem rec1_wf : rec1.wf := ⟨⟨by decide, by decide⟩, ⟨by decide, by decide⟩, ⟨by decide, by decide⟩, ⟨by decide, by decide⟩, ⟨by decide, by decide⟩, ⟨by decide, by decide⟩, ⟨by decide, by decide⟩, ⟨by decide, by decide⟩, ⟨by decide, by decide⟩, okS_empty, okS_empty, okS_empty, fun x h => by cases h⟩
theorem rec0_wf : rec0.wf := ⟨⟨by decide, by decide⟩, ⟨by decide, by decide⟩, ⟨by decide, by decide⟩, ⟨by decide, by decide⟩, ⟨by decide, by decide⟩, ⟨by decide, by decide⟩, ⟨by decide, by decide⟩, ⟨by decide, by decide⟩, ⟨by decide, by decide⟩, okS_empty, okS_empty, okS_empty, fun x h => by cases h⟩
theorem rec1_Bytes (w : World) : Calls Try.prog 9 #[.agg #[.int .i64 1, .int .i64 7, .int .u64 0, .int .i64 0, .int .u64 5, .int .u64 0, .int .u64 0, .int .i64 0, .int .i64 0, .string ⟨#[]⟩, .string ⟨#[]⟩, .string ⟨#[]⟩, .slice none 0 0]] w fun e w' => e = .returned (.tuple #[.string ⟨#[1,7,0,0,5,0,0,0,0,0,0,0,0]⟩, .int .i64 0]) ∧ Below w.heap.size w w' := by
  have h := rec_Bytes rec1 (.slice none 0 0) (fun _ => False) w (Row.nil _ _ _) rec1_wf
  rw [rec1_B] at h
  exact h
theorem rec0_Bytes (w : World) : Calls Try.prog 9 #[.agg #[.int .i64 0, .int .i64 0, .int .u64 0, .int .i64 0, .int .u64 0, .int .u64 0, .int .u64 0, .int .i64 0, .int .i64 0, .string ⟨#[]⟩, .string ⟨#[]⟩, .string ⟨#[]⟩, .slice none 0 0]] w fun e w' => e = .returned (.tuple #[.string ⟨#[]⟩, .int .i64 1]) ∧ Below w.heap.size w w' := by
  have h := rec_Bytes rec0 (.slice none 0 0) (fun _ => False) w (Row.nil _ _ _) rec0_wf
  rw [rec0_B] at h
  exact h
set_option maxRecDepth 100000 in
set_option maxHeartbeats 1000000 in
theorem rec_shown (w : World) :
    Calls Try.prog 8 #[] w fun e w' => e = .returned (.bool true) ∧ Below w.heap.size w w' := by
  go_enter Try.func8, Try.ntmps8
  go_wp2_with (first | (go_at_call 9; refine (rec1_Bytes _).mono ?_; rintro e w1 ⟨rfl, hb1⟩) | (go_at_call 9; refine (rec0_Bytes _).mono ?_; rintro e w2 ⟨rfl, hb2⟩))
  go_ret
  exact ⟨rfl, below2 hb1 hb2⟩
end Go.Proofs.Ytcfdbdmefdffdaa
/-
  The walk of the law RecTakes. Printed by gentakeslaw.py.
-/
set_option linter.unusedVariables false
set_option linter.unusedSimpArgs false
namespace Go.Proofs.Ytcfdbdmefdffdaa
open Go Go.RowKit Go.Proofs.Base
def tkR (o : Option GRec) : GRec := o.getD ⟨0, 0, 0, 0, 0, 0, 0, 0, 0, ⟨#[]⟩, ⟨#[]⟩, ⟨#[]⟩, []⟩
def tkC (o : Option GRec) : Int := if o.isSome then 0 else 3
def TakeOne (w : World) (r : GRec) (cd : Int) (e : Ending) (w' : World) : Prop :=
  ∃ A c, e = .returned (.tuple #[.agg #[.int .i64 r.cls, .int .i64 r.kind, .int .u64 r.frm, .int .i64 r.time, .int .u64 r.key, .int .u64 r.key2, .int .u64 r.key3, .int .i64 r.n, .int .i64 r.m, .string r.a, .string r.b, .string r.c, .slice A r.vars.length c], .int .i64 cd]) ∧ Row w' (fun _ => True) 4 r.vars.length (.slice A r.vars.length c) (varCells r.vars) ∧ Below w.heap.size w w'
theorem takePost_one {w : World} {o : Option GRec} {e : Ending} {w' : World} (h : TakePost w o e w') : TakeOne w (tkR o) (tkC o) e w' := by
  cases o with
  | none =>
    obtain ⟨rfl, hb⟩ := h
    exact ⟨none, 0, rfl, Row.nil _ _ _, hb⟩
  | some r =>
    obtain ⟨v, rfl, hrow, hb⟩ := h
    obtain ⟨A, c, rfl, _, _⟩ := hrow.open_
    exact ⟨A, c, rfl, hrow.weaken (fun _ _ _ => trivial), hb⟩
set_option maxRecDepth 100000 in
set_option maxHeartbeats 8000000 in
theorem law_RecTakes (s : ByteArray) (w : World) (hs : s.size ≤ 140737488351232) :
    Calls Try.prog 6 #[.string s] w fun e w' => e = .returned (.bool true) ∧ Below w.heap.size w w' := by
  have h1 : ∀ W, Calls Try.prog 15 #[.string s] W (TakePost W (recTake s)) := fun W => rec_Take s W hs
  have h2 : ∀ W, Calls Try.prog 16 #[.string s] W (TakePost W (recTake s)) := fun W => ref12_Take s W hs
  generalize recTake s = o at h1 h2
  have hT1 : ∀ W, Calls Try.prog 15 #[.string s] W (TakeOne W (tkR o) (tkC o)) := fun W => (h1 W).mono (fun e w' h => takePost_one h)
  have hT2 : ∀ W, Calls Try.prog 16 #[.string s] W (TakeOne W (tkR o) (tkC o)) := fun W => (h2 W).mono (fun e w' h => takePost_one h)
  clear h1 h2
  generalize tkR o = r at hT1 hT2
  generalize tkC o = cd at hT1 hT2
  unfold TakeOne at hT1 hT2
  have hbc : (cd == cd) = true := by simp
  have HT1 := Lib.hid hT1
  have HT2 := Lib.hid hT2
  clear hT1 hT2 hs
  go_enter Try.func6, Try.ntmps6
  go_wp2_with (first
    | (go_at_call 8; refine (rec_shown _).mono ?_; rintro e w1 ⟨rfl, hb1⟩)
    | (go_at_call 15; refine (HT1.out _).mono ?_; rintro e w2 ⟨A1, c1, rfl, hrow1, hb2⟩; have HR1 := Lib.hid hrow1; have HB2 := Lib.hid (below2 hb1 hb2); clear hrow1 hb1 hb2)
    | (go_at_call 16; refine (HT2.out _).mono ?_; rintro e w3 ⟨A2, c2, rfl, hrow2, hb3⟩; have B1 := block_below hb3 (blk_new w2 _ rfl); have hne3 : w2.heap.size ≠ w3.heap.size := Nat.ne_of_lt (lt_of_blk B1); have hnf3 : w3.heap.size ≠ w2.heap.size := Ne.symm hne3; have hlt3 : w2.heap.size < w3.heap.size := lt_of_blk B1; have HR2 := Lib.hid hrow2; have HR3 := Lib.hid ((HR1.out.below ((Below.refl _ _).alloc (Nat.le_refl _) _)).below hb3); have HB3 := Lib.hid (below2 (below_alloc HB2.out _) hb3); clear hrow2 hb3; have p0 := (cell_of_blk B1 0).trans (rfl : _ = some (Value.int .i64 r.cls)); have p1 := (cell_of_blk B1 1).trans (rfl : _ = some (Value.int .i64 r.kind)); have p2 := (cell_of_blk B1 2).trans (rfl : _ = some (Value.int .u64 r.frm)); have p3 := (cell_of_blk B1 3).trans (rfl : _ = some (Value.int .i64 r.time)); have p4 := (cell_of_blk B1 4).trans (rfl : _ = some (Value.int .u64 r.key)); have p5 := (cell_of_blk B1 5).trans (rfl : _ = some (Value.int .u64 r.key2)); have p6 := (cell_of_blk B1 6).trans (rfl : _ = some (Value.int .u64 r.key3)); have p7 := (cell_of_blk B1 7).trans (rfl : _ = some (Value.int .i64 r.n)); have p8 := (cell_of_blk B1 8).trans (rfl : _ = some (Value.int .i64 r.m)); have p9 := (cell_of_blk B1 9).trans (rfl : _ = some (Value.string r.a)); have p10 := (cell_of_blk B1 10).trans (rfl : _ = some (Value.string r.b)); have p11 := (cell_of_blk B1 11).trans (rfl : _ = some (Value.string r.c)); have p12 := (cell_of_blk B1 12).trans (rfl : _ = some (Value.slice A1 r.vars.length c1)))
    | (go_at_call 14; refine (ref12_Same r r _ _ (fun _ => True) true _ (HR3.out.below ((Below.refl _ _).alloc (Nat.le_refl _) _)) (HR2.out.below ((Below.refl _ _).alloc (Nat.le_refl _) _)) ⟨fun _ => rfl, fun _ => rfl⟩).mono ?_; rintro e w4 ⟨rfl, hb4⟩; have HB4 := Lib.hid (below2 (below_alloc HB3.out _) hb4); clear hb4))
  go_ret
  exact ⟨rfl, HB4.out⟩
end Go.Proofs.Ytcfdbdmefdffdaa
/-
  The arguments of the laws, opened: values, variables, records as data. Printed by genopen.py.
-/
set_option linter.unusedVariables false
set_option linter.unusedSimpArgs false
namespace Go.Proofs.Ytcfdbdmefdffdaa
open Go Go.RowKit Go.Proofs.Base Go.WideShapes Go.ChangeShapes
section
variable {H : Type} {enc : TypeId × Value → H} {w : World} {base : Nat} {spare : Nat → Bool} {held : Bool}
def Light (t : TypeId) (d : DataW H) : Prop := ∀ n ∈ d.weights Try.prog t, n ≤ 140737488351232
theorem read_str {t : TypeId} {n : Nat} {c : Value} {x : DataW H × List MemPlace} (hu : Try.prog.underlying t = some .string) (h : DataW.trod enc Try.prog w base spare held n t [c] = some x) (hl : Light t x.1) : ∃ s, c = .string s ∧ okS s := by
  obtain ⟨s, e, rfl, _⟩ := DataW.trod_string hu h
  refine ⟨s, by simpa using e, ?_⟩
  have := hl s.data.toList.length (by simp [DataW.weights])
  exact Nat.le_trans (by show s.data.size ≤ _; simp) this
end
end Go.Proofs.Ytcfdbdmefdffdaa
