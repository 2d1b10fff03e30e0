/-
  The walk of rec.text.
-/
import Derived.Test.YtcfdbdmefdffdaaRecA
set_option linter.unusedVariables false
set_option linter.unusedSimpArgs false
namespace Go.Proofs.Ytcfdbdmefdffdaa
open Go Go.RowKit Go.Proofs.Base
open Go.Sort (grow)

theorem blk_new (w : World) (o : Obj) {n : Nat} (h : n = w.heap.size) : (w.alloc o).heap[n]? = some o := by
  subst h
  show (w.heap.push o)[w.heap.size]? = some o
  exact Array.getElem?_push_size
theorem blk_old {w : World} {b : Nat} {o' : Obj} (o : Obj) (h : w.heap[b]? = some o') : (w.alloc o).heap[b]? = some o' := by
  have := lt_of_blk h
  simp only [World.alloc]
  rw [Array.getElem?_push_lt this, ← h, Array.getElem?_eq_getElem this]

set_option maxRecDepth 100000 in
set_option maxHeartbeats 1000000 in
theorem rec_text (r : GRec) (vv : Value) (S : Nat → Prop) (w : World) (hrow : Row w S 4 r.vars.length vv (varCells r.vars)) (hw : r.wf) :
    Calls Try.prog 17 #[.agg #[.int .i64 r.cls, .int .i64 r.kind, .int .u64 r.frm, .int .i64 r.time, .int .u64 r.key, .int .u64 r.key2, .int .u64 r.key3, .int .i64 r.n, .int .i64 r.m, .string r.a, .string r.b, .string r.c, vv]] w fun e w' => e = .returned (.string (recText r)) ∧ Below w.heap.size w w' := by
  have hcv : ∀ W : World, (convert 67 9 (.slice (some ⟨W.heap.size, 0, none⟩) 2 2)).run Try.prog (W.alloc (.cells #[.int .u8 (r.cls % 256), .int .u8 (r.kind % 256)] 5)) = .ok (.string (recHead r)) (W.alloc (.cells #[.int .u8 (r.cls % 256), .int .u8 (r.kind % 256)] 5)) := fun W => by
    have h := lit_string (P := Try.prog) Try.underlying67 Try.underlying5 Try.underlying9 W [(r.cls % 256).toNat, (r.kind % 256).toNat] 2 rfl (by omega)
    have e1 : (nums8 [(r.cls % 256).toNat, (r.kind % 256).toNat]).toArray = #[.int .u8 (r.cls % 256), .int .u8 (r.kind % 256)] := by simp [nums8]; omega
    rwa [e1] at h
  have hcv := hcv (w.alloc (.cells #[.int .i64 r.cls, .int .i64 r.kind, .int .u64 r.frm, .int .i64 r.time, .int .u64 r.key, .int .u64 r.key2, .int .u64 r.key3, .int .i64 r.n, .int .i64 r.m, .string r.a, .string r.b, .string r.c, vv] 25))
  rw [World.size_alloc] at hcv
  have HW := Lib.hid hw
  have HR := Lib.hid hrow
  clear hw hrow
  go_enter Try.func17, Try.ntmps17
  go_wp2_with fail
  generalize hW0 : (World.alloc (World.alloc (World.alloc w _) _) _) = W0
  have hs0 : W0.heap.size = w.heap.size + 3 := by rw [← hW0]; simp
  have hb0 : Below w.heap.size w W0 := by rw [← hW0]; exact (((Below.refl _ _).alloc (Nat.le_refl _) _).alloc (by simp) _).alloc (by simp; omega) _
  have hB0 : W0.heap[w.heap.size]? = some (.cells #[.int .i64 r.cls, .int .i64 r.kind, .int .u64 r.frm, .int .i64 r.time, .int .u64 r.key, .int .u64 r.key2, .int .u64 r.key3, .int .i64 r.n, .int .i64 r.m, .string r.a, .string r.b, .string r.c, vv] 25 (0, 0)) := by rw [← hW0]; exact blk_old _ (blk_old _ (blk_new _ _ rfl))
  have hA0 : W0.heap[w.heap.size + 1 + 1]? = some (.cells #[.func (.func 38) #[] #[.pointer (some ⟨w.heap.size, 0, none⟩)], .func (.func 41) #[] #[.pointer (some ⟨w.heap.size, 0, none⟩)], .func (.func 42) #[] #[.pointer (some ⟨w.heap.size, 0, none⟩)], .func (.func 43) #[] #[.pointer (some ⟨w.heap.size, 0, none⟩)], .func (.func 45) #[] #[.pointer (some ⟨w.heap.size, 0, none⟩)]] 70 (0, 0)) := by rw [← hW0]; exact blk_new _ _ (by simp)
  have HHB := Lib.hid hb0
  have HHS := Lib.hid hs0
  have HBB := Lib.hid hB0
  have HAA := Lib.hid hA0
  clear hb0 hs0 hB0 hA0 hW0 hcv
  go_loopw [3, 5, 21] (fun a _ i wr => ∃ k : Nat, k ≤ 5 ∧ i = .int .i64 k ∧ a = .string (recAcc r k) ∧ Below W0.heap.size W0 wr) (fun _ _ i _ => 5 - (intOf i).toNat)
  case atStart => exact ⟨0, by omega, rfl, rfl, Below.refl _ _⟩
  case round =>
    obtain ⟨k, hk, rfl, rfl, hb⟩ := hrel
    have HBw := Lib.hid (block_below hb HBB.out)
    have hA := block_below hb HAA.out
    have HRw := Lib.hid ((HR.out.below HHB.out).below hb)
    have HBl := Lib.hid hb
    clear hb
    have h6 : k = 0 ∨ k = 1 ∨ k = 2 ∨ k = 3 ∨ k = 4 ∨ k = 5 := by omega
    rcases h6 with rfl | rfl | rfl | rfl | rfl | rfl
    · have ha := (cell_of_blk hA 0).trans (rfl : _ = some (Value.func (.func 38) #[] #[.pointer (some ⟨w.heap.size, 0, none⟩)]))
      have hz : ¬ 9223372036854775807 < (recAcc r 0).size + (recPiece r 0).size := by have := recAcc_size HW.out 0; have := recPiece_size HW.out 0; omega
      clear hA hk
      go_wp2_with (go_at_call 38; refine (rec_text1 w.heap.size r vv wr HW.out HBw.out).mono ?_; rintro e w1 ⟨rfl, hb1⟩)
      go_roundw
      case rel => exact ⟨1, by omega, by go_num, rfl, below2 HBl.out hb1⟩
      case measure => simp [intOf]
    · have ha := (cell_of_blk hA 1).trans (rfl : _ = some (Value.func (.func 41) #[] #[.pointer (some ⟨w.heap.size, 0, none⟩)]))
      have hz : ¬ 9223372036854775807 < (recAcc r 1).size + (recPiece r 1).size := by have := recAcc_size HW.out 1; have := recPiece_size HW.out 1; omega
      clear hA hk
      go_wp2_with (go_at_call 41; refine (rec_text2 w.heap.size r vv wr HW.out HBw.out).mono ?_; rintro e w1 ⟨rfl, hb1⟩)
      go_roundw
      case rel => exact ⟨2, by omega, by go_num, rfl, below2 HBl.out hb1⟩
      case measure => simp [intOf]
    · have ha := (cell_of_blk hA 2).trans (rfl : _ = some (Value.func (.func 42) #[] #[.pointer (some ⟨w.heap.size, 0, none⟩)]))
      have hz : ¬ 9223372036854775807 < (recAcc r 2).size + (recPiece r 2).size := by have := recAcc_size HW.out 2; have := recPiece_size HW.out 2; omega
      clear hA hk
      go_wp2_with (go_at_call 42; refine (rec_text3 w.heap.size r vv wr HW.out HBw.out).mono ?_; rintro e w1 ⟨rfl, hb1⟩)
      go_roundw
      case rel => exact ⟨3, by omega, by go_num, rfl, below2 HBl.out hb1⟩
      case measure => simp [intOf]
    · have ha := (cell_of_blk hA 3).trans (rfl : _ = some (Value.func (.func 43) #[] #[.pointer (some ⟨w.heap.size, 0, none⟩)]))
      have hz : ¬ 9223372036854775807 < (recAcc r 3).size + (recPiece r 3).size := by have := recAcc_size HW.out 3; have := recPiece_size HW.out 3; omega
      clear hA hk
      go_wp2_with (go_at_call 43; refine (rec_text4 w.heap.size r vv wr HW.out HBw.out).mono ?_; rintro e w1 ⟨rfl, hb1⟩)
      go_roundw
      case rel => exact ⟨4, by omega, by go_num, rfl, below2 HBl.out hb1⟩
      case measure => simp [intOf]
    · have ha := (cell_of_blk hA 4).trans (rfl : _ = some (Value.func (.func 45) #[] #[.pointer (some ⟨w.heap.size, 0, none⟩)]))
      have hz : ¬ 9223372036854775807 < (recAcc r 4).size + (recPiece r 4).size := by have := recAcc_size HW.out 4; have := recPiece_size HW.out 4; omega
      clear hA hk
      go_wp2_with (go_at_call 45; refine (rec_text5 w.heap.size r vv S wr HRw.out HW.out HBw.out).mono ?_; rintro e w1 ⟨rfl, hb1⟩)
      go_roundw
      case rel => exact ⟨5, by omega, by go_num, rfl, below2 HBl.out hb1⟩
      case measure => simp [intOf]
    · clear hA hk
      go_wp2_with fail
      go_ret
      exact ⟨rfl, below2 HHB.out HBl.out⟩
end Go.Proofs.Ytcfdbdmefdffdaa
