/-
  The walk of value.Get.
-/
import Derived.Test.YthhgfdejadbigaaDoorGen
set_option linter.unusedVariables false
set_option linter.unusedSimpArgs false
namespace Go.Proofs.YthhgfdejadbigaaDoor
open Go Go.RowKit Go.Proofs.Base
open Go.Sort (grow)

theorem blk_new0 (w : World) (o : Obj) {n : Nat} (h : n = w.heap.size) : (w.alloc o).heap[n]? = some o := by
  subst h
  exact heap_alloc_new w o
theorem get_is (B : Nat) (name : ByteArray) (x : GVar) (w : World) (hB : w.cell? ⟨B, 0, none⟩ = some (.string name)) :
    Calls Tryd.prog 49 #[.agg #[.string x.name, .int .i64 x.v.k, .int .i64 x.v.n, .string x.v.s], .pointer (some ⟨B, 0, none⟩)] w fun e w' => e = .returned (.bool (x.name.toList == name.toList)) ∧ Below w.heap.size w w' := by
  have hlt := World.block_lt_of_cell? w _ hB
  have hc : (w.alloc (.cells #[.string x.name, .int .i64 x.v.k, .int .i64 x.v.n, .string x.v.s] 60)).cell? ⟨B, 0, none⟩ = some (.string name) := (((Below.refl w.heap.size w).alloc (Nat.le_refl _) _).cell (p := ⟨B, 0, none⟩) hlt).trans hB
  go_enter Tryd.func49, Tryd.ntmps49
  go_wp2
  go_ret
  exact ⟨rfl, (Below.refl _ _).alloc (Nat.le_refl _) _⟩

set_option maxRecDepth 100000 in
set_option maxHeartbeats 1000000 in
theorem get_index (A : Option Addr) (n c B : Nat) (name : ByteArray) (l : List GVar) (w : World) (hl : l.length = n) (hnc : n ≤ c) (hn : n ≤ 9223372036854775807) (hr : ReadsV w A l) (hB : w.cell? ⟨B, 0, none⟩ = some (.string name)) :
    Calls Tryd.prog 48 #[.slice A n c, .func (.func 49) #[] #[.pointer (some ⟨B, 0, none⟩)]] w fun e w' => e = .returned (.int .i64 (idxGo name l 0)) ∧ Below w.heap.size w w' := by
  have HR := Lib.hid hr
  have HL := Lib.hid hl
  have HB := Lib.hid hB
  have hlt := World.block_lt_of_cell? w _ hB
  clear hr hl hB
  go_enter Tryd.func48, Tryd.ntmps48
  go_wp2_with fail
  go_loopw [5, 8] (fun _ i wr => ∃ k : Nat, k ≤ n ∧ i = .int .i64 k ∧ Hid (idxGo name l 0 = idxGo name (l.drop k) k) ∧ Below w.heap.size w wr) (fun _ i _ => n - (intOf i).toNat)
  case atStart => exact ⟨0, by omega, rfl, Lib.hid rfl, Below.refl _ _⟩
  case round =>
    obtain ⟨k, hk, rfl, HK, hbl⟩ := hrel
    have HBL := Lib.hid hbl
    by_cases hkn : k < n
    · have hk1 : k < l.length := by rw [HL.out]; exact hkn
      obtain ⟨ad, rfl, _, c0, c1, c2, c3⟩ := HR.out.below hbl k hk1
      have hq := HK.out
      rw [List.drop_eq_getElem_cons hk1] at hq
      generalize l[k] = x at *
      have HQ := Lib.hid hq
      have HBr := Lib.hid ((hbl.cell (p := ⟨B, 0, none⟩) hlt).trans HB.out)
      clear hq hbl HK
      by_cases hx : (x.name.toList == name.toList) = true
      · have HX := Lib.hid hx
        clear hx
        go_wp2_with (go_at_call 49; refine (get_is B name x _ HBr.out).mono ?_; rintro e w1 ⟨rfl, hb1⟩; rw [HX.out])
        go_ret
        refine ⟨?_, below2 HBL.out hb1⟩
        have e2 : idxGo name (x :: l.drop (k + 1)) k = k := by show (if _ then _ else _) = _; rw [if_pos HX.out]
        rw [HQ.out, e2]; rfl
      · have hx2 : (x.name.toList == name.toList) = false := by simpa using hx
        have HX := Lib.hid hx2
        have HQ2 : Hid (idxGo name l 0 = idxGo name (l.drop (k + 1)) (k + 1)) := Lib.hid (by rw [HQ.out]; show (if _ then _ else _) = _; rw [if_neg hx])
        clear hx hx2
        go_wp2_with (go_at_call 49; refine (get_is B name x _ HBr.out).mono ?_; rintro e w1 ⟨rfl, hb1⟩; rw [HX.out])
        go_roundw
        case rel => exact ⟨k + 1, by omega, by go_num, HQ2, below2 HBL.out hb1⟩
        case measure => simp [intOf]; omega
    · have HQ : Hid (idxGo name l 0 = -1) := Lib.hid (by rw [HK.out, List.drop_eq_nil_of_le (by rw [HL.out]; omega)]; rfl)
      clear HK
      go_wp2_with fail
      go_ret
      exact ⟨by rw [HQ.out]; rfl, hbl⟩

def getOut (name : ByteArray) (l : List GVar) : GVal × Bool := match getV name l with | some v => (v, true) | none => (zeroV, false)
set_option maxRecDepth 100000 in
set_option maxHeartbeats 1000000 in
theorem val_Get (A : Option Addr) (n c : Nat) (name : ByteArray) (l : List GVar) (w : World) (hl : l.length = n) (hnc : n ≤ c) (hn : n ≤ 9223372036854775807) (hr : ReadsV w A l) :
    Calls Tryd.prog 18 #[.slice A n c, .string name] w fun e w' => e = .returned (.tuple #[.agg #[.int .i64 (getOut name l).1.k, .int .i64 (getOut name l).1.n, .string (getOut name l).1.s], .bool (getOut name l).2]) ∧ Below w.heap.size w w' := by
  have hb2 : Below w.heap.size w ((w.alloc (.cells #[.string name] 9)).alloc (.cells #[.int .i64 0, .int .i64 0, .string ⟨#[]⟩] 23)) := ((Below.refl _ _).alloc (Nat.le_refl _) _).alloc (by simp) _
  have hB : ((w.alloc (.cells #[.string name] 9)).alloc (.cells #[.int .i64 0, .int .i64 0, .string ⟨#[]⟩] 23)).cell? ⟨w.heap.size, 0, none⟩ = some (.string name) := by simp
  have hC := get_index A n c w.heap.size name l _ hl hnc hn (hr.below hb2) hB
  have hg : getOut name l = match getV name l with | some v => (v, true) | none => (zeroV, false) := rfl
  rcases idxGo_spec name l 0 with ⟨h1, h2⟩ | ⟨j, hj, h1, h2⟩
  · rw [h1] at hC
    rw [h2] at hg
    have HC := Lib.hid hC
    have HB2 := Lib.hid hb2
    have HG := Lib.hid hg
    clear hC hb2 hg h1 h2 hr hl hB
    go_enter Tryd.func18, Tryd.ntmps18
    go_wp2_with (go_at_call 48; refine HC.out.mono ?_; rintro e w1 ⟨rfl, hb1⟩; have B1 : w1.heap[w.heap.size + 1]? = some (.cells #[.int .i64 0, .int .i64 0, .string ⟨#[]⟩] 23 (0, 0)) := block_below hb1 (blk_new0 (w.alloc (.cells #[.string name] 9)) _ (by simp)); have HB1 := Lib.hid (below2 HB2.out hb1); have k0 := cell_of_blk B1 0; have k1 := cell_of_blk B1 1; have k2 := cell_of_blk B1 2; have f0 := frozen_of_blk B1 0; have f1 := frozen_of_blk B1 1; have f2 := frozen_of_blk B1 2; have HBK := Lib.hid B1; clear hb1 B1)
    generalize hWE : (World.setCell (World.setCell (World.setCell _ _ _) _ _) _ _) = WE
    have ho : WE.heap[w.heap.size + 1]? = some (.cells #[.int .i64 0, .int .i64 0, .string ⟨#[]⟩] 23 (0, 0)) := by rw [← hWE]; exact set_blk3 HBK.out _ _ _
    have hbe : Below w.heap.size w WE := by rw [← hWE]; exact ((HB1.out.setCell (by simp) _).setCell (by simp) _).setCell (by simp) _
    have r0 := cell_of_blk ho 0
    have r1 := cell_of_blk ho 1
    have r2 := cell_of_blk ho 2
    refine bodyPost_ret (v := .tuple #[.agg #[.int .i64 0, .int .i64 0, .string ⟨#[]⟩], .bool false]) (by simp [results, Tryd.results18, go_sem, r0, r1, r2]) rfl ⟨?_, hbe⟩
    rw [HG.out]; rfl
  · rw [h1] at hC
    rw [h2] at hg
    have HC := Lib.hid hC
    have HB2 := Lib.hid hb2
    have HG := Lib.hid hg
    have HR := Lib.hid hr
    have hjn : j < n := by omega
    have HJ := Lib.hid hj
    clear hC hb2 hg h1 h2 hr hl hB
    rw [Nat.zero_add] at HC
    go_enter Tryd.func18, Tryd.ntmps18
    go_wp2_with (go_at_call 48; refine HC.out.mono ?_; rintro e w1 ⟨rfl, hb1⟩; have B1 : w1.heap[w.heap.size + 1]? = some (.cells #[.int .i64 0, .int .i64 0, .string ⟨#[]⟩] 23 (0, 0)) := block_below hb1 (blk_new0 (w.alloc (.cells #[.string name] 9)) _ (by simp)); have HB1 := Lib.hid (below2 HB2.out hb1); have k0 := cell_of_blk B1 0; have k1 := cell_of_blk B1 1; have k2 := cell_of_blk B1 2; have f0 := frozen_of_blk B1 0; have f1 := frozen_of_blk B1 1; have f2 := frozen_of_blk B1 2; have HBK := Lib.hid B1; clear hb1 B1; obtain ⟨ad, rfl, had, c0, c1, c2, c3⟩ := HR.out.below HB1.out j HJ.out; generalize l[j] = x at *)
    generalize hWE : (World.setCell (World.setCell (World.setCell _ _ _) _ _) _ _) = WE
    have ho : WE.heap[w.heap.size + 1]? = some (.cells #[.int .i64 x.v.k, .int .i64 x.v.n, .string x.v.s] 23 (0, 0)) := by rw [← hWE]; exact set_blk3 HBK.out _ _ _
    have hbe : Below w.heap.size w WE := by rw [← hWE]; exact ((HB1.out.setCell (by simp) _).setCell (by simp) _).setCell (by simp) _
    have r0 := cell_of_blk ho 0
    have r1 := cell_of_blk ho 1
    have r2 := cell_of_blk ho 2
    refine bodyPost_ret (v := .tuple #[.agg #[.int .i64 x.v.k, .int .i64 x.v.n, .string x.v.s], .bool true]) (by simp [results, Tryd.results18, go_sem, r0, r1, r2]) rfl ⟨?_, hbe⟩
    rw [HG.out]
end Go.Proofs.YthhgfdejadbigaaDoor
