/-
  strings.Builder: a builder of the call's own, written and read.
-/
import Derived.Shelf.Strings.Builder1
import Derived.Test.YthhgfdejadbigaaDoorBase
import Derived.Test.YthhgfdejadbigaaDoorProg
set_option linter.unusedVariables false
set_option linter.unusedSimpArgs false
namespace Go.Proofs.YthhgfdejadbigaaDoor
open Go Go.RowKit Go.Proofs.Base Go.Shelf
def lays169_ren : Go.Shelf.Ren := ⟨fun | 169 => 41 | n => n, fun | 70 => 67 | 9 => 9 | 0 => 0 | 72 => 69 | 37 => 62 | 127 => 97 | 3 => 3 | 5 => 5 | n => n, fun | n => n⟩
theorem lays169 : Go.Proofs.Lays.n169 Tryd.prog lays169_ren := {
  mixed := by kernel_rfl
  f169 := Tryd.func41.trans (congrArg some (by kernel_rfl))
  t0 := Tryd.underlying0
  a0 := Tryd.isAgg0
  z0 := Tryd.sizeOf0
  v0 := Tryd.zeroValue0
  t3 := Tryd.underlying3
  a3 := Tryd.isAgg3
  z3 := Tryd.sizeOf3
  v3 := Tryd.zeroValue3
  t9 := Tryd.underlying9
  a9 := Tryd.isAgg9
  z9 := Tryd.sizeOf9
  v9 := Tryd.zeroValue9
  t37 := Tryd.underlying62
  a37 := Tryd.isAgg62
  z37 := Tryd.sizeOf62
  v37 := Tryd.zeroValue62
  t70 := Tryd.underlying67
  a70 := Tryd.isAgg67
  z70 := Tryd.sizeOf67
  v70 := Tryd.zeroValue67
  t72 := Tryd.underlying69
  a72 := Tryd.isAgg69
  z72 := Tryd.sizeOf69
  v72 := Tryd.zeroValue69
  t127 := Tryd.underlying97
  a127 := Tryd.isAgg97
  z127 := Tryd.sizeOf97
  v127 := Tryd.zeroValue97 }
theorem extra169 : Builder.Extra Tryd.prog lays169_ren := {
  sizeBuilder := by kernel_rfl
  liesBuilder := by kernel_rfl
  t5 := Tryd.underlying5
  a5 := Tryd.isAgg5
  z5 := Tryd.sizeOf5
  v5 := Tryd.zeroValue5
  infoByte := by kernel_rfl
  cellsByte := by kernel_rfl
  sizeByte := by kernel_rfl
  neB5 := by decide }

/-- A builder at block b that holds s; its buffer, and itself, lie from block B on. -/
def Bld (w : World) (B b : Nat) (s : ByteArray) : Prop := Lib.IsBuilder 69 5 B b (Lib.strCells s) w
/-- What a write to a builder may turn: itself, and rows of bytes. -/
def bldT (w : World) (b k : Nat) : Prop := k = b ∨ ∃ c f, w.heap[k]? = some (.cells c 5 f)
theorem Bld.new (w : World) : Bld (w.alloc (.cells #[.pointer none, .slice none 0 0] 69)) w.heap.size w.heap.size ByteArray.empty := Lib.fresh_isBuilder 69 5 w
theorem Bld.kept {w w' : World} {B b : Nat} {s : ByteArray} (h : Bld w B b s) (hb : Below w.heap.size w w') : Bld w' B b s := by
  have key : ∀ p, Lib.BuilderAt 69 5 B b p (Lib.strCells s) w → Lib.BuilderAt 69 5 B b p (Lib.strCells s) w' := by
    rintro p ⟨hB, v, hbk, hown, hne⟩
    exact ⟨hB, v, block_below hb hbk, hown.kept (grown_of_below hb none) (by cases v.ownBlock <;> simp), hne⟩
  rcases h with h | h
  · exact .inl (key _ h)
  · exact .inr (key _ h)
theorem Bld.lt {w : World} {B b : Nat} {s : ByteArray} (h : Bld w B b s) : B ≤ b ∧ b < w.heap.size := by
  rcases h with ⟨hB, v, hbk, _⟩ | ⟨hB, v, hbk, _⟩
  · exact ⟨hB, lt_of_blk hbk⟩
  · exact ⟨hB, lt_of_blk hbk⟩

set_option maxRecDepth 100000 in
set_option maxHeartbeats 1000000 in
theorem bld_check (B b : Nat) (bs : List Value) (w : World) (h : Lib.IsBuilder 69 5 B b bs w) :
    Calls Tryd.prog 68 #[.pointer (some ⟨b, 0, none⟩)] w fun e w' => e = .returned (.tuple #[]) ∧ Lib.BuilderAt 69 5 B b (.pointer (some ⟨b, 0, none⟩)) bs w' ∧ Below B w w' ∧ Mut (fun k => k = b) w w' := by
  have hsz : (Tryd.prog.info? 69).map (fun i => i.size) = some 2 := by kernel_rfl
  obtain ⟨j, hj, hjs⟩ := Option.map_eq_some_iff.1 hsz
  rcases h with h | h
  · have h0 := h.cell0
    have hsh := h.shape
    have hfz := h.frozen0
    have H := Lib.hid h
    clear h
    go_enter Tryd.func68, Tryd.ntmps68
    go_wp2
    rw [Lib.run_to_unsafe w ⟨b, 0, none⟩ Tryd.underlying67 Tryd.underlying116 hj (by rw [hjs]; decide) hsh (Nat.zero_lt_succ 1)]
    simp only [Result.andThen]
    rw [Oper.upon_value]
    go_wp2
    rw [run_callFunc_extern Tryd.func86 (by kernel_rfl) (by kernel_rfl) (by kernel_rfl) (e := Extern.AbiNoEscape.same) (by kernel_rfl)]
    rw [Lib.run_noEscape]
    simp only [Result.andThen]
    rw [Oper.upon_value]
    go_wp2
    rw [Lib.run_from_unsafe w ⟨b, 0, none⟩ Tryd.underlying116 Tryd.underlying67 hj hsh extra169.liesBuilder]
    simp only [Result.andThen]
    rw [Oper.upon_value]
    go_wp2
    go_end0
    exact ⟨rfl, H.out.used _, (Below.refl B w).setCell (p := ⟨b, 0, none⟩) H.out.1 _, Mut.setCell (T := fun k => k = b) (Mut.refl _ w) (p := ⟨b, 0, none⟩) (fun _ => rfl) _⟩
  · have h0 := h.cell0
    have H := Lib.hid h
    clear h
    go_enter Tryd.func68, Tryd.ntmps68
    go_wp2
    rw [Lib.run_neq_ptr_same w _ Tryd.underlying67 hj]
    go_wp2
    go_end0
    exact ⟨rfl, H.out, Below.refl B _, Mut.refl _ _⟩

set_option maxRecDepth 100000 in
set_option maxHeartbeats 2000000 in
theorem bld_WriteString (B b : Nat) (s t : ByteArray) (w : World) (h : Bld w B b s) (hlen : s.size + t.size ≤ 140737488355328) (hBw : B ≤ w.heap.size) :
    Calls Tryd.prog 40 #[.pointer (some ⟨b, 0, none⟩), .string t] w fun e w' => e = .returned (.tuple #[.int .i64 t.size, .nilIface]) ∧ Bld w' B b (s ++ t) ∧ Below B w w' ∧ Mut (bldT w b) w w' := by
  obtain ⟨i0, hi, hz0, hz1, hz2⟩ := info_parts extra169.infoByte
  have hl : (Lib.strCells s).length = s.size := Lib.strCells_length s
  have hcat : Lib.strCells (s ++ t) = Lib.strCells s ++ Lib.strCells t := by simp [Lib.strCells]
  have Hcat := Lib.hid hcat
  have Hl := Lib.hid hl
  clear hcat hl
  go_enter Tryd.func40, Tryd.ntmps40
  go_wp2_with (go_at_call 68; refine (bld_check B b _ _ h).mono ?_)
  rintro e w1 ⟨rfl, h1, hb1, hm1⟩
  obtain ⟨hB, v, hbk, hown, hne⟩ := h1
  have c0 : w1.cell? ⟨b, 0, none⟩ = some (.pointer (some ⟨b, 0, none⟩)) := by rw [Lib.cell_of_heap hbk]; rfl
  have c1 : w1.cell? ⟨b, 1, none⟩ = some v := by rw [Lib.cell_of_heap hbk]; rfl
  go_wp2_with (at_builtin; refine Lib.wpList_append_own_string _ rfl _ _ 62 9 rfl B 5 i0 Tryd.underlying62 Tryd.underlying9 hi hz0 hz1 hz2 _ _ _ rfl hown t rfl ?c3 ?c4 ?c5 ?_)
  case c3 => rw [Hl.out]; unfold maxLen; omega
  case c4 => rw [Hl.out]; omega
  case c5 => have := hb1.size; omega
  intro v' w2 hown' hgrow _
  have hlt : b < w1.heap.size := lt_of_blk hbk
  have hb2 : w2.heap[b]? = some (.cells #[.pointer (some ⟨b, 0, none⟩), v] 69 (0, 0)) := by
    rw [hgrow.block b hlt (fun e => hne e.symm)]
    exact hbk
  have d0 : w2.cell? ⟨b, 0, none⟩ = some (.pointer (some ⟨b, 0, none⟩)) := by rw [Lib.cell_of_heap hb2]; rfl
  have d1 : w2.cell? ⟨b, 1, none⟩ = some v := by rw [Lib.cell_of_heap hb2]; rfl
  have f1 : w2.frozen? ⟨b, 1, none⟩ = false := Lib.frozen_of_heap hb2 1
  have hblk : ∀ k, v.ownBlock = some k → k < w.heap.size → bldT w b k := by
    intro k hk hkw
    rcases hown.2 with ⟨rfl, _⟩ | ⟨g, cap, cur, rfl, _, hh, _⟩
    · cases hk
    · have : g = k := by simpa [Value.ownBlock] using hk
      subst this
      by_cases hgb : g = b
      · exact .inl hgb
      · exact .inr ⟨cur, (0, 0), by rw [← hm1.block g hkw hgb]; exact hh⟩
  obtain ⟨ao, n', cap, rfl⟩ : ∃ ao n' cap, v' = .slice ao n' cap := by
    rcases hown'.2 with ⟨hv, _⟩ | ⟨g, cap, cur, hv, _⟩
    · exact ⟨_, _, _, hv⟩
    · exact ⟨_, _, _, hv⟩
  have M1 : Mut (bldT w b) w w2 := (hm1.mono (fun k _ hk => .inl hk)).trans (T' := fun k => v.ownBlock = some k) (Mut.grown hgrow (fun k hk => hk)) (fun k hk h => hblk k h hk)
  have HM1 := Lib.hid M1
  clear hblk M1
  go_wp2
  go_ret2
  refine ⟨rfl, ?_, ?_, HM1.out.setCell (p := ⟨b, 1, none⟩) (fun _ => .inl rfl) _⟩
  · refine .inr (Lib.BuilderAt.put (T := 69) (e := 5) hB hb2 (bs' := Lib.strCells (s ++ t)) ?_ extra169.neB5)
    rw [Hcat.out]
    simpa [Lib.strCells_length] using hown'
  · exact (hb1.grown hgrow (by have := hb1.size; omega) (fun k hk => (hown.lt k hk).1)).setCell (p := ⟨b, 1, none⟩) hB _

theorem bld_String (B b : Nat) (s : ByteArray) (w : World) (h : Bld w B b s) (hBw : B ≤ w.heap.size) :
    Calls Tryd.prog 41 #[.pointer (some ⟨b, 0, none⟩)] w fun e w' => e = .returned (.string s) ∧ Below B w w' := by
  have := Any.Builder_String_any lays169 extra169 B b (toL s) w h hBw
  exact this
end Go.Proofs.YthhgfdejadbigaaDoor
