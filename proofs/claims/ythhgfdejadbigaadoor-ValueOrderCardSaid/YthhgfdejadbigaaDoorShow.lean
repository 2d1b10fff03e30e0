/-
  strings.Builder.WriteByte; value.Show of a text whose bytes are all printed as they are or behind a stroke.
-/
import Derived.Test.YthhgfdejadbigaaDoorBuild
import Derived.Test.YthhgfdejadbigaaDoorVal
set_option linter.unusedVariables false
set_option linter.unusedSimpArgs false
namespace Go.Proofs.Base
open Go Go.RowKit
def b1 (c : Nat) : ByteArray := ofN [c]
theorem strCells_b1 {c : Nat} (h : c < 256) : Lib.strCells (b1 c) = [.int .u8 (c : Int)] := by
  simp [Lib.strCells, b1, ofN, ofL, UInt8.toNat_ofNat', Nat.mod_eq_of_lt h]
def escB (c : Nat) : ByteArray := if c = 34 ∨ c = 92 then ofN [92, c] else b1 c
def printable (c : Nat) : Prop := 32 ≤ c ∧ c ≤ 126
def escAll : List UInt8 → ByteArray
  | [] => ByteArray.empty
  | c :: r => escB c.toNat ++ escAll r
theorem escAll_size : ∀ l : List UInt8, (escAll l).size ≤ 2 * l.length
  | [] => Nat.le_refl _
  | c :: r => by
    have h := escAll_size r
    have h1 : (escB c.toNat).size ≤ 2 := by unfold escB b1; split <;> rw [ofN_size] <;> simp
    show (escB c.toNat ++ escAll r).size ≤ _
    rw [app_size, List.length_cons]; omega
def showT (s : ByteArray) : ByteArray := b1 34 ++ escAll (toL s) ++ b1 34
end Go.Proofs.Base
namespace Go.Proofs.YthhgfdejadbigaaDoor
open Go Go.RowKit Go.Proofs.Base

set_option maxRecDepth 100000 in
set_option maxHeartbeats 2000000 in
theorem bld_WriteByte (B b : Nat) (s : ByteArray) (c : Nat) (hc : c < 256) (w : World) (h : Bld w B b s) (hlen : s.size + 1 ≤ 140737488351232) (hBw : B ≤ w.heap.size) :
    Calls Tryd.prog 39 #[.pointer (some ⟨b, 0, none⟩), .int .u8 (c : Int)] w fun e w' => e = .returned (.nilIface) ∧ Bld w' B b (s ++ b1 c) ∧ Below B w w' := by
  obtain ⟨i0, z, hi, hz0, hz1, hz2, hzc⟩ := (ElemT.of (P := Tryd.prog) (t := 62) (e := 5) (sz := 1) (bytes := 1) (z := .int .u8 0) Tryd.underlying62 (by kernel_rfl) rfl).hi
  have hl : (Lib.strCells s).length = s.size := Lib.strCells_length s
  have hcat : Lib.strCells (s ++ b1 c) = Lib.strCells s ++ [.int .u8 (c : Int)] := by rw [← strCells_b1 hc]; simp [Lib.strCells]
  have Hcat := Lib.hid hcat
  have Hl := Lib.hid hl
  clear hcat hl
  go_enter Tryd.func39, Tryd.ntmps39
  go_wp2_with (go_at_call 68; refine (bld_check B b _ _ h).mono ?_)
  rintro e w1 ⟨rfl, h1, hb1, hm1⟩
  obtain ⟨hB, v, hbk, hown, hne⟩ := h1
  have c0 : w1.cell? ⟨b, 0, none⟩ = some (.pointer (some ⟨b, 0, none⟩)) := by rw [Lib.cell_of_heap hbk]; rfl
  have c1 : w1.cell? ⟨b, 1, none⟩ = some v := by rw [Lib.cell_of_heap hbk]; rfl
  have hB1 : B ≤ w1.heap.size := Nat.le_trans hBw hb1.size
  have hblt : b < w1.heap.size := lt_of_blk hbk
  have HOWN := Lib.hid (hown.alloc (.cells #[.int .u8 (c : Int)] 5))
  have HLT : Hid (∀ k, v.ownBlock = some k → B ≤ k ∧ k < w1.heap.size) := Lib.hid (fun k hk => hown.lt k hk)
  have HNE := Lib.hid hne
  have HBK := Lib.hid hbk
  have HBB := Lib.hid hb1
  clear hown hne hbk hb1 hm1
  go_wp2_with (at_builtin; refine wpList_append_own_at _ rfl _ _ 62 rfl B 5 i0 z 1 1 Tryd.underlying62 hi hz0 hz1 hz2 hzc (by omega) v _ _ rfl HOWN.out ⟨w1.heap.size, 0, none⟩ 1 1 [.int .u8 (c : Int)] rfl rfl (cell_one_new _ _ _) (by intro u hu; simp only [List.mem_cons, List.not_mem_nil, or_false] at hu; rw [hu]; rfl) (by rw [Hl.out]; simp only [maxLen]; omega) (by rw [Hl.out]; omega) (by simp; omega) ?_; intro v' w2 hown' hgrow _ _; have hb2 : w2.heap[b]? = some (.cells #[.pointer (some ⟨b, 0, none⟩), v] 69 (0, 0)) := (by rw [hgrow.block b (by simp; omega) (fun e => HNE.out e.symm)]; exact block_below ((Below.refl _ _).alloc (Nat.le_refl _) _) HBK.out); have d0 : w2.cell? ⟨b, 0, none⟩ = some (.pointer (some ⟨b, 0, none⟩)) := (by rw [Lib.cell_of_heap hb2]; rfl); have d1 : w2.cell? ⟨b, 1, none⟩ = some v := (by rw [Lib.cell_of_heap hb2]; rfl); have f1 : w2.frozen? ⟨b, 1, none⟩ = false := Lib.frozen_of_heap hb2 1; have HO2 := Lib.hid hown'; have HG2 := Lib.hid hgrow; have HB2 := Lib.hid hb2; obtain ⟨ao, n', cap, rfl⟩ : ∃ ao n' cap, v' = .slice ao n' cap := (by rcases HO2.out.2 with ⟨hv, _⟩ | ⟨g, cap, cur, hv, _⟩ <;> exact ⟨_, _, _, hv⟩); clear hown' hgrow hb2)
  go_ret
  refine ⟨rfl, ?_, ?_⟩
  · refine .inr (Lib.BuilderAt.put (T := 69) (e := 5) hB HB2.out (bs' := Lib.strCells (s ++ b1 c)) ?_ extra169.neB5)
    rw [Hcat.out]
    simpa [Lib.strCells_length] using HO2.out
  · exact ((HBB.out.alloc hB1 _).grown HG2.out (by simp; omega) (fun k hk => (HLT.out k hk).1)).setCell (p := ⟨b, 1, none⟩) hB _

theorem lit_two (W : World) (c : Nat) (hc : c < 256) : (convert 62 9 (.slice (some ⟨W.heap.size, 0, none⟩) 2 2)).run Tryd.prog (W.alloc (.cells #[.int .u8 92, .int .u8 (c : Int)] 5)) = .ok (.string (ofN [92, c])) (W.alloc (.cells #[.int .u8 92, .int .u8 (c : Int)] 5)) :=
  lit_string (P := Tryd.prog) Tryd.underlying62 Tryd.underlying5 Tryd.underlying9 W [92, c] 2 rfl (by omega)

set_option maxRecDepth 100000 in
set_option maxHeartbeats 4000000 in
theorem val_ShowT (s : ByteArray) (w : World) (hm : mayV 3 0 s = true) (hpr : ∀ c ∈ toL s, printable c.toNat) :
    Calls Tryd.prog 13 #[.agg #[.int .i64 3, .int .i64 0, .string s]] w fun e w' => e = .returned (.string (showT s)) ∧ Below w.heap.size w w' := by
  have hs : s.size ≤ 1024 := (mayV_k hm).2
  have hM := fun W => val_May 3 0 s W
  rw [hm] at hM
  have HM := Lib.hid hM
  have HPR := Lib.hid hpr
  have hb0 : Below w.heap.size w (w.alloc (.cells #[.int .i64 3, .int .i64 0, .string s] 23)) := (Below.refl _ _).alloc (Nat.le_refl _) _
  have HB0 := Lib.hid hb0
  have HK0 := Lib.hid (show (w.alloc (.cells #[.int .i64 3, .int .i64 0, .string s] 23)).heap[w.heap.size]? = some (.cells #[.int .i64 3, .int .i64 0, .string s] 23 (0, 0)) from heap_alloc_new w _)
  clear hM hpr hm hb0
  go_enter Tryd.func13, Tryd.ntmps13
  go_wp2_with (go_at_call 22; refine (HM.out _).mono ?_; rintro e w1 ⟨rfl, hb1⟩; have hk1 := block_below hb1 HK0.out; have k0 := cell_of_blk hk1 0; have k1 := cell_of_blk hk1 1; have k2 := cell_of_blk hk1 2; have HK1 := Lib.hid hk1; have HS1 := Lib.hid (below2 HB0.out hb1); clear hb1 hk1)
  refine (bld_WriteByte w1.heap.size w1.heap.size ByteArray.empty 34 (by omega) _ (Bld.new w1) (by rw [show ByteArray.empty.size = 0 from rfl]; omega) (by simp)).mono ?_
  rintro e w2 ⟨rfl, hB2, hb2⟩
  rw [empty_app] at hB2
  have hlt1 := lt_of_blk HK1.out
  have hS2 : Below w.heap.size w w2 := (below_alloc HS1.out (.cells #[.pointer none, .slice none 0 0] 69)).trans (hb2.mono HS1.out.size)
  have HS2 := Lib.hid hS2
  have hk2 : w2.heap[w.heap.size]? = some (.cells #[.int .i64 3, .int .i64 0, .string s] 23 (0, 0)) := by
    rw [hb2.block w.heap.size hlt1]
    exact block_below ((Below.refl _ _).alloc (Nat.le_refl _) _) HK1.out
  have HK2 := Lib.hid hk2
  have HBb2 : Hid (Below w1.heap.size (w1.alloc (.cells #[.pointer none, .slice none 0 0] 69)) w2) := Lib.hid hb2
  have HBL2 := Lib.hid hB2
  have q0 := cell_of_blk hk2 0
  have q1 := cell_of_blk hk2 1
  have q2 := cell_of_blk hk2 2
  have hsz2 : w1.heap.size ≤ w2.heap.size := by have := hb2.size; simp at this; omega
  have hgw : w.heap.size < w1.heap.size := hlt1
  generalize w1.heap.size = b0 at *
  clear hB2 hb2 hS2 hk2 k0 k1 k2
  go_wp2_with fail
  go_loopw [4, 5, 29] (fun _ _ i wr => ∃ (k : Nat) (acc : ByteArray), k ≤ s.size ∧ i = .int .i64 k ∧ Hid (Bld wr b0 b0 acc) ∧ acc.size ≤ 1 + 2 * k ∧ Hid (b1 34 ++ escAll (toL s) = acc ++ escAll ((toL s).drop k)) ∧ Below w.heap.size w wr ∧ b0 ≤ wr.heap.size ∧ Hid (wr.heap[w.heap.size]? = some (.cells #[.int .i64 3, .int .i64 0, .string s] 23 (0, 0)))) (fun _ _ i _ => s.size - (intOf i).toNat)
  case atStart => exact ⟨0, b1 34, Nat.zero_le _, rfl, HBL2, by decide, Lib.hid rfl, HS2.out, hsz2, HK2⟩
  case round =>
    clear HBL2 HS2 HK2 hsz2 q0 q1 q2 HBb2
    obtain ⟨k, acc, hk, rfl, HBL, hacc, HI, hbl, hbz, HK⟩ := hrel
    have HBLW := Lib.hid hbl
    have q0 := cell_of_blk HK.out 0
    have q1 := cell_of_blk HK.out 1
    have q2 := cell_of_blk HK.out 2
    have hblk := lt_of_blk HK.out
    by_cases hlt : k < s.size
    · have hi0 := HI.out
      rw [toL_drop_cons hlt] at hi0
      have hmem : s[k] ∈ toL s := by
        have h := toL_drop_cons hlt
        have h2 : s[k] ∈ (toL s).drop k := by rw [h]; exact List.mem_cons_self
        exact List.mem_of_mem_drop h2
      have hp := HPR.out _ hmem
      have hb := s[k].toNat_lt
      have hstep : ∀ e : ByteArray, escB s[k].toNat = e → b1 34 ++ escAll (toL s) = (acc ++ e) ++ escAll ((toL s).drop (k + 1)) := fun e he => by
        rw [hi0, app_assoc, ← he]; rfl
      have HST := Lib.hid hstep
      have h32 : ¬ (s[k].toNat : Int) < 32 := by have := hp.1; omega
      have h126 : ¬ (126 : Int) < (s[k].toNat : Int) := by have := hp.2; omega
      clear hi0 hmem hp hstep HI hbl
      by_cases hq : s[k].toNat = 34 ∨ s[k].toNat = 92
      · have HE : Hid (escB s[k].toNat = ofN [92, s[k].toNat]) := Lib.hid (by unfold escB; rw [if_pos hq])
        have hcv := lit_two wr s[k].toNat hb
        rcases hq with hq | hq
        · have hqb := beq_t (a := (s[k].toNat : Int)) (b := 34) (by omega)
          clear hq
          go_wp2_with fail
          refine (bld_WriteString b0 b0 acc (ofN [92, s[k].toNat]) _ (HBL.out.kept ((Below.refl _ _).alloc (Nat.le_refl _) _)) (by rw [ofN_size]; show acc.size + 2 ≤ _; omega) (by simp; omega)).mono ?_
          rintro e w3 ⟨rfl, hB3, hb3, _⟩
          have HB3 := Lib.hid hB3
          have hs3 : b0 ≤ w3.heap.size := by have := hb3.size; first | (simp at this; omega) | omega
          have HK3 : Hid (w3.heap[w.heap.size]? = some (.cells #[.int .i64 3, .int .i64 0, .string s] 23 (0, 0))) := Lib.hid (by rw [hb3.block w.heap.size hgw]; exact block_below ((Below.refl _ _).alloc (Nat.le_refl _) _) HK.out)
          have HS3 : Hid (Below w.heap.size w w3) := Lib.hid ((below_alloc HBLW.out _).trans (hb3.mono (by omega)))
          have hn3 : (acc ++ ofN [92, s[k].toNat]).size ≤ 1 + 2 * (k + 1) := by rw [app_size]; have : (ofN [92, s[k].toNat]).size ≤ 2 := (by first | exact Nat.le_refl _ | (unfold b1; rw [ofN_size]; simp)); omega
          clear hB3 hb3 q0 q1 q2
          go_wp2_with fail
          go_roundw
          case rel => exact ⟨k + 1, acc ++ ofN [92, s[k].toNat], by omega, by go_num, HB3, hn3, Lib.hid (HST.out _ HE.out), HS3.out, hs3, HK3⟩
          case measure => simp [intOf]; omega
        · have hqb := beq_f (a := (s[k].toNat : Int)) (b := 34) (by omega)
          have hqb2 := beq_t (a := (s[k].toNat : Int)) (b := 92) (by omega)
          clear hq
          go_wp2_with fail
          refine (bld_WriteString b0 b0 acc (ofN [92, s[k].toNat]) _ (HBL.out.kept ((Below.refl _ _).alloc (Nat.le_refl _) _)) (by rw [ofN_size]; show acc.size + 2 ≤ _; omega) (by simp; omega)).mono ?_
          rintro e w3 ⟨rfl, hB3, hb3, _⟩
          have HB3 := Lib.hid hB3
          have hs3 : b0 ≤ w3.heap.size := by have := hb3.size; first | (simp at this; omega) | omega
          have HK3 : Hid (w3.heap[w.heap.size]? = some (.cells #[.int .i64 3, .int .i64 0, .string s] 23 (0, 0))) := Lib.hid (by rw [hb3.block w.heap.size hgw]; exact block_below ((Below.refl _ _).alloc (Nat.le_refl _) _) HK.out)
          have HS3 : Hid (Below w.heap.size w w3) := Lib.hid ((below_alloc HBLW.out _).trans (hb3.mono (by omega)))
          have hn3 : (acc ++ ofN [92, s[k].toNat]).size ≤ 1 + 2 * (k + 1) := by rw [app_size]; have : (ofN [92, s[k].toNat]).size ≤ 2 := (by first | exact Nat.le_refl _ | (unfold b1; rw [ofN_size]; simp)); omega
          clear hB3 hb3 q0 q1 q2
          go_wp2_with fail
          go_roundw
          case rel => exact ⟨k + 1, acc ++ ofN [92, s[k].toNat], by omega, by go_num, HB3, hn3, Lib.hid (HST.out _ HE.out), HS3.out, hs3, HK3⟩
          case measure => simp [intOf]; omega
      · have HE : Hid (escB s[k].toNat = b1 s[k].toNat) := Lib.hid (by unfold escB; rw [if_neg hq])
        have hqb := beq_f (a := (s[k].toNat : Int)) (b := 34) (by omega)
        have hqb2 := beq_f (a := (s[k].toNat : Int)) (b := 92) (by omega)
        clear hq
        · go_wp2_with fail
          refine (bld_WriteByte b0 b0 acc s[k].toNat hb _ HBL.out (by omega) hbz).mono ?_
          rintro e w3 ⟨rfl, hB3, hb3⟩
          have HB3 := Lib.hid hB3
          have hs3 : b0 ≤ w3.heap.size := by have := hb3.size; first | (simp at this; omega) | omega
          have HK3 : Hid (w3.heap[w.heap.size]? = some (.cells #[.int .i64 3, .int .i64 0, .string s] 23 (0, 0))) := Lib.hid (by rw [hb3.block w.heap.size hgw]; exact HK.out)
          have HS3 : Hid (Below w.heap.size w w3) := Lib.hid ((HBLW.out).trans (hb3.mono (by omega)))
          have hn3 : (acc ++ b1 s[k].toNat).size ≤ 1 + 2 * (k + 1) := by rw [app_size]; have : (b1 s[k].toNat).size ≤ 2 := (by first | exact Nat.le_refl _ | (unfold b1; rw [ofN_size]; simp)); omega
          clear hB3 hb3 q0 q1 q2
          go_wp2_with fail
          go_roundw
          case rel => exact ⟨k + 1, acc ++ b1 s[k].toNat, by omega, by go_num, HB3, hn3, Lib.hid (HST.out _ HE.out), HS3.out, hs3, HK3⟩
          case measure => simp [intOf]; omega
    · have hfin : showT s = acc ++ b1 34 := by
        have h := HI.out
        rw [List.drop_eq_nil_of_le (by rw [toL_length]; omega)] at h
        unfold showT; rw [h]; show acc ++ ByteArray.empty ++ b1 34 = _; rw [app_empty]
      have HF := Lib.hid hfin
      have hz : ¬ 9223372036854775807 < acc.size + (⟨#[34]⟩ : ByteArray).size := by have : (⟨#[34]⟩ : ByteArray).size = 1 := rfl; omega
      clear hfin HI
      go_wp2_with (go_at_call 41; refine (bld_String b0 b0 acc wr HBL.out hbz).mono ?_; rintro e w6 ⟨rfl, hb6⟩)
      go_ret
      refine ⟨?_, HBLW.out.trans (hb6.mono (by omega))⟩
      rw [HF.out]; rfl
end Go.Proofs.YthhgfdejadbigaaDoor
