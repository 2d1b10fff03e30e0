/-
  Merged from FoSh, Open, FoO, FoMd, Eq, Same, FqE, FqT, FoOt, FoO2.
-/
import Derived.Test.YtgpkmellpllmgaaGreatQcbb66ebb4ab8
import Derived.Test.YtgpkmellpllmgaaGreatQb62ecbabc510
import Derived.Test.YtgpkmellpllmgaaGreatRows
import Derived.Deep.Slices
import Derived.Deep.Fields
import Derived.SizedLaws
import Derived.OpenShut
import Derived.Laws.StructEq
import Derived.Deep.Cut
import Derived.Deep.CutBlock
import Derived.Deep.DeepCutAuto
/-
  The document's example of chapter 13: shown returns true.
-/
set_option linter.unusedVariables false
set_option linter.unusedSimpArgs false
namespace Go.Proofs.YtgpkmellpllmgaaGreat
open Go Go.RowKit Go.Proofs.Base
open Go.Sort (grow)
def shR1 : GRec := ⟨2, 2, 1, 0, 7, 0, 0, 0, 0, ⟨#[112]⟩, ⟨#[]⟩, ⟨#[]⟩, []⟩
def shR2 : GRec := ⟨2, 3, 1, 0, 8, 7, 0, 2, -1, ⟨#[]⟩, ⟨#[]⟩, ⟨#[]⟩, []⟩
def shR3 : GRec := ⟨2, 4, 1, 0, 8, 0, 0, 0, 0, ⟨#[]⟩, ⟨#[]⟩, ⟨#[]⟩, []⟩
def shS2 : GSt := applyP 2 shR2 (applyP 1 shR1 emptyP.pure)
def shS3 : GSt := applyP 3 shR3 shS2
theorem shS3_eq : shS3.pos = 3 ∧ shS3.done = 1 ∧ shS3.made = 2 ∧ shS3.insts.length = 1 ∧ shS3.tokens.length = 0 := by decide
theorem shS2_tok : findP zeroTok (fun x : ETok => x.key == 8) shS2.tokens = (⟨8, 7, 0, 2, -1, ⟨#[]⟩⟩, true) := rfl
theorem sh_out {v : StV} {g : GSt} {w : World} {S : Nat → Prop} (h : StR w S v g) (hp : g.pure = shS3) : v.Pp = 3 ∧ v.Dd = 1 ∧ v.Mm = 2 ∧ v.n4 = 1 ∧ v.n5 = 0 := by
  obtain ⟨h1, h2, h3, h4, h5⟩ := shS3_eq
  rw [← hp] at h1 h2 h3 h4 h5
  refine ⟨h.pos.trans h1, h.done.trans h2, h.made.trans h3, ?_, ?_⟩
  · rw [← h.insts.1, ← h4]; simp [GSt.pure]
  · rw [← h.tokens.1]; exact h5
set_option maxRecDepth 100000 in
set_option maxHeartbeats 4000000 in
theorem c_shown (w : World) : Calls Tryz.prog 9 #[] w fun e w' => e = .returned (.bool true) ∧ Below w.heap.size w w' := by
  have HA1 := Lib.hid (fun w => ap_k2 (w := w) (S := fun _ => False) (v := vZ) (g := emptyP) (r := shR1) (vA := none) (vN := 0) (vC := 0) 1 (st_zero _ _) (vars_zero _ _) rfl rfl (small_empty.room (by decide)))
  go_enter Tryz.func9, Tryz.ntmps9
  go_wp2_with fail
  refine (HA1.out _).mono ?_
  rintro e w1 ⟨v1, g1, rfl, hs, hp1, hb⟩
  have HP1 := Lib.hid hp1
  clear hp1
  go_wp2_with (first
    | (refine wpList_store_box _ _ _ rfl rfl rfl rfl bSt (heap_alloc_new _ _) rfl rfl (vals_one _) ?_; intro V1 hV1 hM1; have HX1 := Lib.hid (BoxSt.start hs (Below.refl _ _) hV1 hM1); have HB1 := Lib.hid (below_of_mut (below_alloc hb _) (by simp; have := hb.size; omega) hM1 (fun x hx => by have := hb.size; omega)); have HBB := Lib.hid hb.size; clear hs hb HA1 hV1 hM1; generalize w1.heap.size = b at *)
    | (refine wpList_load_box _ _ rfl rfl rfl bSt HX1.out.box rfl ?_))
  have HA2 := ap_k3 (r := shR2) (vA := none) (vN := 0) (vC := 0) 2 HX1.out.st (vars_zero _ _) rfl rfl ((small_pure.1 (by rw [HP1.out]; exact small_applyP _ small_empty) : Small 1 g1).room (by decide))
  refine HA2.mono ?_
  clear HA2
  rintro e w2 ⟨v2, g2, rfl, hs, hp2, hb⟩
  have HP2 : Hid (g2.pure = shS2) := Lib.hid (by rw [hp2, HP1.out]; rfl)
  clear hp2 HP1
  go_wp2_with (first
    | (refine wpList_store_box _ _ _ rfl rfl rfl rfl bSt (block_below hb HX1.out.box) rfl rfl (vals_one _) ?_; intro V2 hV2 hM2; have HX2 := Lib.hid (HX1.out.put hs hV2 hM2); have HB2 := Lib.hid (below_of_mut (below2 HB1.out hb) (Nat.le_trans HB1.out.size hb.size) hM2 (fun x hx => hx ▸ HBB.out)); clear hs hb HX1 HB1 hV2 hM2)
    | (refine wpList_load_box _ _ rfl rfl rfl bSt HX2.out.box rfl ?_))
  refine (ask_TokV v2 8 g2.tokens V2 _ HX2.out.st.tokens).mono ?_
  rintro e w3 ⟨x, ok, hf, rfl, hb⟩
  obtain ⟨rfl, rfl⟩ : x = ⟨8, 7, 0, 2, -1, ⟨#[]⟩⟩ ∧ ok = true := by
    have e := shS2_tok
    rw [← HP2.out] at e
    have e2 := hf.symm.trans e
    injection e2 with e3 e4
    exact ⟨e3, e4⟩
  have HX3 := Lib.hid (HX2.out.below hb)
  have HB3 := Lib.hid (below2 HB2.out hb)
  clear hf hb HX2 HB2
  go_wp2_with (refine wpList_load_box _ _ rfl rfl rfl bSt (BoxSt.alloc HX3.out _).box rfl ?_)
  have HX4 : Hid (BoxSt b (w3.alloc (.cells #[.int .u64 8, .int .u64 7, .int .u64 0, .int .i64 2, .int .i64 (-1), .string ⟨#[]⟩] 42)) v2 g2) := Lib.hid (HX3.out.alloc _)
  have HB4 : Hid (Below w.heap.size w (w3.alloc (.cells #[.int .u64 8, .int .u64 7, .int .u64 0, .int .i64 2, .int .i64 (-1), .string ⟨#[]⟩] 42))) := Lib.hid (below_alloc HB3.out _)
  have HT4 : Hid ((w3.alloc (.cells #[.int .u64 8, .int .u64 7, .int .u64 0, .int .i64 2, .int .i64 (-1), .string ⟨#[]⟩] 42)).heap[w3.heap.size]? = some (.cells #[.int .u64 8, .int .u64 7, .int .u64 0, .int .i64 2, .int .i64 (-1), .string ⟨#[]⟩] 42 (0, 0))) := Lib.hid (blk_new _)
  have HN4 : Hid (w3.heap.size ≠ b) := Lib.hid (by have := HX3.out.lt; omega)
  clear HX3 HB3
  generalize w3.alloc (.cells #[.int .u64 8, .int .u64 7, .int .u64 0, .int .i64 2, .int .i64 (-1), .string ⟨#[]⟩] 42) = V3 at *
  generalize w3.heap.size = tb at *
  have HA3 := ap_k4 (r := shR3) (vA := none) (vN := 0) (vC := 0) 3 HX4.out.st (vars_zero _ _) rfl rfl ((small_pure.1 (by rw [HP2.out]; exact small_applyP _ (small_applyP _ small_empty)) : Small 2 g2).fits (by decide)) (wf_pure.1 (by rw [HP2.out]; exact wf_applyP _ (by unfold shR2 u64; decide) (wf_applyP _ (by unfold shR1 u64; decide) wf_empty)))
  refine HA3.mono ?_
  clear HA3
  rintro e w4 ⟨v3, g3, rfl, hs, hp3, hb⟩
  have HP3 : Hid (g3.pure = shS3) := Lib.hid (by rw [hp3, HP2.out]; rfl)
  clear hp3 HP2
  obtain ⟨P3, D3, M3, A3, n3, c3, A4, n4, c4, A5, n5, c5, A6, n6, c6, A7, n7, c7, A8, n8, c8, A9, n9, c9, A10, n10, c10, A11, n11, c11⟩ := v3
  obtain ⟨h1, h2, h3, h4, h5⟩ := sh_out hs HP3.out
  simp only at h1 h2 h3 h4 h5
  subst h1 h2 h3 h4 h5
  go_wp2_with (refine wpList_store_box _ _ _ rfl rfl rfl rfl bSt (block_below hb HX4.out.box) rfl rfl (vals_one _) ?_; intro V4 hV4 hM4; have HB5 := Lib.hid (below_of_mut (below2 HB4.out hb) (Nat.le_trans HB4.out.size hb.size) hM4 (fun x hx => hx ▸ HBB.out)); have ht := hM4.blk (block_below hb HT4.out) HN4.out; have t3 := cell_of_blk ht 3; have s0 := cell_of_blk hV4 0; have s1 := cell_of_blk hV4 1; have s2 := cell_of_blk hV4 2; have s4 := cell_of_blk hV4 4; have s5 := cell_of_blk hV4 5; simp only [StV.vals] at s0 s1 s2 s4 s5; clear hs hb HX4 HB4 HT4 HN4 hV4 hM4 ht)
  go_ret
  exact ⟨rfl, HB5.out⟩
end Go.Proofs.YtgpkmellpllmgaaGreat
/-
  The arguments of the laws, opened: values, variables, records as data. Printed by genopen.py.
-/
set_option linter.unusedVariables false
set_option linter.unusedSimpArgs false
namespace Go.Proofs.YtgpkmellpllmgaaGreat
open Go Go.RowKit Go.Proofs.Base Go.WideShapes Go.ChangeShapes
theorem cells_int : Tryz.prog.cellsOf 3 = 1 := by kernel_rfl
theorem cells_int64 : Tryz.prog.cellsOf 2 = 1 := by kernel_rfl
theorem cells_uint64 : Tryz.prog.cellsOf 24 = 1 := by kernel_rfl
theorem cells_string : Tryz.prog.cellsOf 9 = 1 := by kernel_rfl
theorem cells_vars : Tryz.prog.cellsOf 37 = 1 := by kernel_rfl
theorem cells_value : Tryz.prog.cellsOf 89 = 3 := by kernel_rfl
theorem cells_var : Tryz.prog.cellsOf 91 = 4 := by kernel_rfl
theorem cells_record : Tryz.prog.cellsOf 39 = 13 := by kernel_rfl
section
variable {H : Type} {enc : TypeId × Value → H} {w : World} {base : Nat} {spare : Nat → Bool} {held : Bool}
def Light (t : TypeId) (d : DataW H) : Prop := ∀ n ∈ d.weights Tryz.prog t, n ≤ 140737488351232
theorem light_part {t : TypeId} {fs : Array Field} {ds : List (DataW H)} (hu : Tryz.prog.underlying t = some (.struct fs)) (h : Light t (.agg ds)) {j : Nat} {f : Field} {d : DataW H} (hf : fs[j]? = some f) (hd : ds[j]? = some d) : Light f.type d := by
  intro n hn
  refine h n ?_
  simp only [DataW.weights, hu]
  exact DataW.weights_mem_each (j := j) (by simp [hf]) hd n hn
theorem mem_weightsAll {e : TypeId} : ∀ {l : List (DataW H)} {d : DataW H}, d ∈ l → ∀ n ∈ d.weights Tryz.prog e, n ∈ DataW.weightsAll Tryz.prog e l
  | x :: r, d, h, n, hn => by
    simp only [DataW.weightsAll, List.mem_append]
    rcases List.mem_cons.1 h with rfl | h
    · exact .inl hn
    · exact .inr (mem_weightsAll h n hn)
theorem light_elem {t e : TypeId} {es sp : List (DataW H)} (hu : Tryz.prog.underlying t = some (.slice e)) (h : Light t (.slice es sp)) {d : DataW H} (hd : d ∈ es) : Light e d := by
  intro n hn
  refine h n ?_
  simp only [DataW.weights, hu, List.mem_cons, List.mem_append]
  exact .inr (.inl (mem_weightsAll hd n hn))
theorem fld {fs : Array Field} {cs : List Value} {xs : List (DataW H × List MemPlace)} {m : Nat} (hf : ∀ (i : Nat) (f : Field), fs[i]? = some f → DataW.trod enc Tryz.prog w base spare held m f.type ((cs.drop f.offset).take (Tryz.prog.cellsOf f.type)) = xs[i]?)
    {i : Nat} {f : Field} (hi : fs[i]? = some f) {t : TypeId} (ht : f.type = t) {k : Nat} (hk : Tryz.prog.cellsOf t = k) {c : List Value} (hc : (cs.drop f.offset).take k = c) {x : DataW H × List MemPlace} (hx : xs[i]? = some x) : DataW.trod enc Tryz.prog w base spare held m t c = some x := by
  have h := hf i f hi
  rw [ht, hk, hc, hx] at h
  exact h
theorem read_i64 {t : TypeId} {n : Nat} {c : Value} {x : DataW H × List MemPlace} (hu : Tryz.prog.underlying t = some (.int .i64)) (h : DataW.trod enc Tryz.prog w base spare held n t [c] = some x) : ∃ k, c = .int .i64 k ∧ i64 k := by
  obtain ⟨k, e, _, wk⟩ := DataW.trod_int hu h
  exact ⟨k, by simpa using e, by have := bounds_i64 wk; exact this⟩
theorem read_u64 {t : TypeId} {n : Nat} {c : Value} {x : DataW H × List MemPlace} (hu : Tryz.prog.underlying t = some (.int .u64)) (h : DataW.trod enc Tryz.prog w base spare held n t [c] = some x) : ∃ k, c = .int .u64 k ∧ u64 k := by
  obtain ⟨k, e, _, wk⟩ := DataW.trod_int hu h
  exact ⟨k, by simpa using e, by have := bounds_u64 wk; exact this⟩
theorem read_str {t : TypeId} {n : Nat} {c : Value} {x : DataW H × List MemPlace} (hu : Tryz.prog.underlying t = some .string) (h : DataW.trod enc Tryz.prog w base spare held n t [c] = some x) (hl : Light t x.1) : ∃ s, c = .string s ∧ okS s := by
  obtain ⟨s, e, rfl, _⟩ := DataW.trod_string hu h
  refine ⟨s, by simpa using e, ?_⟩
  have := hl s.data.toList.length (by simp [DataW.weights])
  exact Nat.le_trans (by show s.data.size ≤ _; simp) this
theorem varCells_get {l : List GVar} {i j : Nat} {u : Value} (h : i < l.length) (hj : j < 4) (hu : (varCells l)[i * 4 + j]? = some u) : l[i].cells[j]? = some u := by
  obtain ⟨a0, a1, a2, a3⟩ := varCells_at h
  match j, hj with
  | 0, _ => rw [a0] at hu; exact hu
  | 1, _ => rw [a1] at hu; exact hu
  | 2, _ => rw [a2] at hu; exact hu
  | 3, _ => rw [a3] at hu; exact hu
set_option maxRecDepth 100000 in
theorem read_value {n : Nat} {cs : List Value} {x : DataW H × List MemPlace} (h : DataW.trod enc Tryz.prog w base spare held n 89 cs = some x) (hl : Light 89 x.1) : ∃ v : GVal, cs = v.cells ∧ v.wf := by
  obtain ⟨xs, m, _, rfl, hcl, hlen, hf⟩ := DataW.trod_struct Tryz.underlying89 h
  match cs, hcl.trans cells_value, xs, hlen with
  | [c0, c1, c2], _, [x0, x1, x2], _ =>
    have g0 := fld hf (i := 0) rfl rfl cells_int (c := [c0]) rfl (x := x0) rfl
    have g1 := fld hf (i := 1) rfl rfl cells_int64 (c := [c1]) rfl (x := x1) rfl
    have g2 := fld hf (i := 2) rfl rfl cells_string (c := [c2]) rfl (x := x2) rfl
    obtain ⟨k, rfl, wk⟩ := read_i64 Tryz.underlying3 (x := x0) g0
    obtain ⟨l, rfl, wl⟩ := read_i64 Tryz.underlying2 (x := x1) g1
    obtain ⟨s, rfl, ws⟩ := read_str Tryz.underlying9 (x := x2) g2 (light_part Tryz.underlying89 hl (j := 2) rfl rfl)
    exact ⟨⟨k, l, s⟩, rfl, wk, wl, ws⟩
set_option maxRecDepth 100000 in
theorem read_var {n : Nat} {cs : List Value} {x : DataW H × List MemPlace} (h : DataW.trod enc Tryz.prog w base spare held n 91 cs = some x) (hl : Light 91 x.1) : ∃ v : GVar, cs = v.cells ∧ v.wf := by
  obtain ⟨xs, m, _, rfl, hcl, hlen, hf⟩ := DataW.trod_struct Tryz.underlying91 h
  match cs, hcl.trans cells_var, xs, hlen with
  | [c0, c1, c2, c3], _, [x0, x1], _ =>
    have g0 := fld hf (i := 0) rfl rfl cells_string (c := [c0]) rfl (x := x0) rfl
    have g1 := fld hf (i := 1) rfl rfl cells_value (c := [c1, c2, c3]) rfl (x := x1) rfl
    obtain ⟨s, rfl, ws⟩ := read_str Tryz.underlying9 (x := x0) g0 (light_part Tryz.underlying91 hl (j := 0) rfl rfl)
    obtain ⟨v, hv, wv⟩ := read_value (x := x1) (cs := [c1, c2, c3]) g1 (light_part Tryz.underlying91 hl (j := 1) rfl rfl)
    obtain ⟨rfl, rfl, rfl⟩ : c1 = .int .i64 v.k ∧ c2 = .int .i64 v.n ∧ c3 = .string v.s := by simpa [GVal.cells] using hv
    exact ⟨⟨s, v⟩, rfl, ws, wv⟩
set_option maxRecDepth 100000 in
theorem read_vars {n : Nat} {c : Value} {x : DataW H × List MemPlace} (h : DataW.trod enc Tryz.prog w base spare held n 37 [c] = some x) (hl : Light 37 x.1) :
    ∃ l : List GVar, Row w (fun _ => True) 4 l.length c (varCells l) ∧ ∀ y ∈ l, y.wf := by
  rcases Go.Deep.open_slice Tryz.underlying37 h with ⟨hcs, _⟩ | ⟨a, len, cap, m, n', D, Pl, hcs, _, hlc, hcm, hm, rfl, hi⟩
  · obtain rfl : c = .slice none 0 0 := by simpa using hcs
    exact ⟨[], Row.nil _ _ _, fun y hy => by cases hy⟩
  · obtain rfl : c = .slice (some a) len cap := by simpa using hcs
    have hlm : len ≤ m := by rw [hm]; split <;> omega
    have hex : ∀ i, ∃ v : GVar, i < len → v.wf ∧ ∀ j u, v.cells[j]? = some u → w.cell? (a.add (i * 4 + j)) = some u := by
      intro i
      by_cases hil : i < len
      · obtain ⟨cs', hc, ht⟩ := hi i (by omega)
        rw [cells_var] at hc
        obtain ⟨v, rfl, wv⟩ := read_var ht (light_elem Tryz.underlying37 hl (List.mem_map.2 ⟨i, List.mem_range.2 hil, rfl⟩))
        obtain ⟨_, hcl, hat⟩ := World.cells?_some hc
        refine ⟨v, fun _ => ⟨wv, fun j u hj => ?_⟩⟩
        have hj4 : j < 4 := (List.getElem?_eq_some_iff.1 hj).1
        have := hat j hj4
        rw [← Go.Deep.add_add, this, hj]
      · exact ⟨⟨ByteArray.empty, zeroV⟩, fun h => absurd h hil⟩
    obtain ⟨f, hf⟩ := Classical.axiomOfChoice hex
    refine ⟨(List.range len).map f, ⟨some a, cap, by simp, by simpa using hlc, hcm, ?_, fun h => (nomatch h), fun hn => ?_⟩, fun y hy => ?_⟩
    · rw [varCells_len]
    · have hn' : 0 < len := by simpa using hn
      have h0 := (hf 0 hn').2 0 _ rfl
      obtain ⟨b, o, s⟩ := a
      have hs : s = none := by simpa [Addr.add] using World.cell?_spot h0
      subst hs
      refine ⟨b, o, rfl, trivial, by simpa [Addr.add] using World.block_lt_of_cell? _ _ h0, fun j u hj => ?_⟩
      have hj2 : j < len * 4 := by
        have := (List.getElem?_eq_some_iff.1 hj).1
        rw [varCells_len] at this
        simpa using this
      have e : j = (j / 4) * 4 + j % 4 := by omega
      rw [e] at hj
      have hq : j / 4 < ((List.range len).map f).length := by simp; omega
      have hv := varCells_get hq (Nat.mod_lt j (by decide)) hj
      have := (hf (j / 4) (by omega)).2 (j % 4) u (by simpa using hv)
      rw [Base.add_plain] at this
      rw [e, ← Nat.add_assoc]
      simpa [Nat.add_assoc] using this
    · obtain ⟨i, hi', rfl⟩ := List.mem_map.1 hy
      exact (hf i (List.mem_range.1 hi')).1
set_option maxRecDepth 100000 in
theorem read_record {t : TypeId} {n : Nat} {cs : List Value} {x : DataW H × List MemPlace} (h : DataW.trod enc Tryz.prog w base spare held n 39 cs = some x) (hl : Light 39 x.1) :
    ∃ (r : GRec) (vv : Value), cs = [.int .i64 r.cls, .int .i64 r.kind, .int .u64 r.frm, .int .i64 r.time, .int .u64 r.key, .int .u64 r.key2, .int .u64 r.key3, .int .i64 r.n, .int .i64 r.m, .string r.a, .string r.b, .string r.c, vv] ∧ r.wf ∧ Row w (fun _ => True) 4 r.vars.length vv (varCells r.vars) := by
  obtain ⟨xs, m, _, rfl, hcl, hlen, hf⟩ := DataW.trod_struct Tryz.underlying39 h
  match cs, hcl.trans cells_record, xs, hlen with
  | [c0, c1, c2, c3, c4, c5, c6, c7, c8, c9, c10, c11, c12], _, [x0, x1, x2, x3, x4, x5, x6, x7, x8, x9, x10, x11, x12], _ =>
    have g0 := fld hf (i := 0) rfl rfl cells_int (c := [c0]) rfl (x := x0) rfl
    obtain ⟨rcls, rfl, wcls⟩ := read_i64 Tryz.underlying3 (x := x0) g0
    have g1 := fld hf (i := 1) rfl rfl cells_int (c := [c1]) rfl (x := x1) rfl
    obtain ⟨rkind, rfl, wkind⟩ := read_i64 Tryz.underlying3 (x := x1) g1
    have g2 := fld hf (i := 2) rfl rfl cells_uint64 (c := [c2]) rfl (x := x2) rfl
    obtain ⟨rfrm, rfl, wfrm⟩ := read_u64 Tryz.underlying24 (x := x2) g2
    have g3 := fld hf (i := 3) rfl rfl cells_int64 (c := [c3]) rfl (x := x3) rfl
    obtain ⟨rtime, rfl, wtime⟩ := read_i64 Tryz.underlying2 (x := x3) g3
    have g4 := fld hf (i := 4) rfl rfl cells_uint64 (c := [c4]) rfl (x := x4) rfl
    obtain ⟨rkey, rfl, wkey⟩ := read_u64 Tryz.underlying24 (x := x4) g4
    have g5 := fld hf (i := 5) rfl rfl cells_uint64 (c := [c5]) rfl (x := x5) rfl
    obtain ⟨rkey2, rfl, wkey2⟩ := read_u64 Tryz.underlying24 (x := x5) g5
    have g6 := fld hf (i := 6) rfl rfl cells_uint64 (c := [c6]) rfl (x := x6) rfl
    obtain ⟨rkey3, rfl, wkey3⟩ := read_u64 Tryz.underlying24 (x := x6) g6
    have g7 := fld hf (i := 7) rfl rfl cells_int64 (c := [c7]) rfl (x := x7) rfl
    obtain ⟨rn, rfl, wn⟩ := read_i64 Tryz.underlying2 (x := x7) g7
    have g8 := fld hf (i := 8) rfl rfl cells_int64 (c := [c8]) rfl (x := x8) rfl
    obtain ⟨rm, rfl, wm⟩ := read_i64 Tryz.underlying2 (x := x8) g8
    have g9 := fld hf (i := 9) rfl rfl cells_string (c := [c9]) rfl (x := x9) rfl
    obtain ⟨ra, rfl, wa⟩ := read_str Tryz.underlying9 (x := x9) g9 (light_part Tryz.underlying39 hl (j := 9) rfl rfl)
    have g10 := fld hf (i := 10) rfl rfl cells_string (c := [c10]) rfl (x := x10) rfl
    obtain ⟨rb, rfl, wb⟩ := read_str Tryz.underlying9 (x := x10) g10 (light_part Tryz.underlying39 hl (j := 10) rfl rfl)
    have g11 := fld hf (i := 11) rfl rfl cells_string (c := [c11]) rfl (x := x11) rfl
    obtain ⟨rc, rfl, wc⟩ := read_str Tryz.underlying9 (x := x11) g11 (light_part Tryz.underlying39 hl (j := 11) rfl rfl)
    have g12 := fld hf (i := 12) rfl rfl cells_vars (c := [c12]) rfl (x := x12) rfl
    obtain ⟨l, hrow, wl⟩ := read_vars (x := x12) g12 (light_part Tryz.underlying39 hl (j := 12) rfl rfl)
    exact ⟨⟨rcls, rkind, rfrm, rtime, rkey, rkey2, rkey3, rn, rm, ra, rb, rc, l⟩, c12, rfl, ⟨wcls, wkind, wfrm, wtime, wkey, wkey2, wkey3, wn, wm, wa, wb, wc, wl⟩, hrow⟩
end
end Go.Proofs.YtgpkmellpllmgaaGreat
/-
  Lists among a law's arguments, opened, whatever their elements: variables, records. By hand.
-/
set_option linter.unusedVariables false
set_option linter.unusedSimpArgs false
namespace Go.Proofs.YtgpkmellpllmgaaGreat
open Go Go.RowKit Go.Proofs.Base Go.WideShapes Go.ChangeShapes
section
variable {H : Type} {enc : TypeId × Value → H} {w : World} {base : Nat} {spare : Nat → Bool} {held : Bool}
theorem read_rows {α : Type} {t e : TypeId} {K B : Nat} {ec : α → List Value} (Good : α → Prop) (hne : Nonempty α) (hu : Tryz.prog.underlying t = some (.slice e)) (hK : Tryz.prog.cellsOf e = K) (hB : Tryz.prog.bytesOf e = B) (hlen : ∀ x, (ec x).length = K) (hK0 : 0 < K)
    (rd : ∀ {n : Nat} {cs : List Value} {x : DataW H × List MemPlace}, DataW.trod enc Tryz.prog w base spare held n e cs = some x → Light e x.1 → ∃ v : α, cs = ec v ∧ Good v)
    {n : Nat} {c : Value} {x : DataW H × List MemPlace} (h : DataW.trod enc Tryz.prog w base spare held n t [c] = some x) (hl : Light t x.1) :
    ∃ l : List α, Row w (fun _ => True) K l.length c (l.flatMap ec) ∧ (∀ y ∈ l, Good y) ∧ l.length * B ≤ 140737488351232 := by
  rcases Go.Deep.open_slice hu h with ⟨hcs, _⟩ | ⟨a, len, cap, m, n', D, Pl, hcs, _, hlc, hcm, hm, rfl, hi⟩
  · obtain rfl : c = .slice none 0 0 := by simpa using hcs
    exact ⟨[], Row.nil _ _ _, (fun y hy => by cases hy), by simp⟩
  · obtain rfl : c = .slice (some a) len cap := by simpa using hcs
    have hlm : len ≤ m := by rw [hm]; split <;> omega
    have hsz : len * B ≤ 140737488351232 := by
      have := hl ((((List.range len).map D).length + ((List.range (m - len)).map fun j => D (len + j)).length) * Tryz.prog.bytesOf e) (by
        simp only [DataW.weights, hu]
        exact List.mem_cons_self)
      rw [hB] at this
      simp only [List.length_map, List.length_range] at this
      exact Nat.le_trans (Nat.mul_le_mul_right _ (Nat.le_add_right _ _)) this
    have hex : ∀ i, ∃ v : α, i < len → Good v ∧ ∀ j u, (ec v)[j]? = some u → w.cell? (a.add (i * K + j)) = some u := by
      intro i
      by_cases hil : i < len
      · obtain ⟨cs', hc, ht⟩ := hi i (by omega)
        rw [hK] at hc
        obtain ⟨v, rfl, wv⟩ := rd ht (light_elem hu hl (List.mem_map.2 ⟨i, List.mem_range.2 hil, rfl⟩))
        obtain ⟨_, hcl, hat⟩ := World.cells?_some hc
        refine ⟨v, fun _ => ⟨wv, fun j u hj => ?_⟩⟩
        have hjK : j < K := by have := (List.getElem?_eq_some_iff.1 hj).1; rwa [hlen] at this
        have := hat j hjK
        rw [← Go.Deep.add_add, this, hj]
      · exact ⟨Classical.choice hne, fun h => absurd h hil⟩
    obtain ⟨f, hf⟩ := Classical.axiomOfChoice hex
    refine ⟨(List.range len).map f, ⟨some a, cap, by simp, by simpa using hlc, hcm, ?_, fun h => (nomatch h), fun hn => ?_⟩, fun y hy => ?_, by simpa using hsz⟩
    · rw [flat_len hlen]
    · have hn' : 0 < len := by simpa using hn
      have h0 := (hf 0 hn').2 0 ((ec (f 0))[0]'(by rw [hlen]; exact hK0)) (List.getElem?_eq_getElem _)
      obtain ⟨b, o, s⟩ := a
      have hs : s = none := by simpa [Addr.add] using World.cell?_spot h0
      subst hs
      refine ⟨b, o, rfl, trivial, World.block_lt_of_cell? w _ (by simpa [Base.add_plain] using h0), fun j u hu => ?_⟩
      have hj : j < ((List.range len).map f).length * K := by rw [← flat_len hlen]; exact (List.getElem?_eq_some_iff.1 hu).1
      have hj2 : j < len * K := by simpa using hj
      have hi3 : j / K < len := Nat.div_lt_of_lt_mul (by rw [Nat.mul_comm]; exact hj2)
      have hidx : j / K < ((List.range len).map f).length := by simpa using hi3
      have hmod : j % K < K := Nat.mod_lt _ hK0
      have hjj : j = j / K * K + j % K := by rw [Nat.mul_comm]; exact (Nat.div_add_mod j K).symm
      have hfe : ((List.range len).map f)[j / K] = f (j / K) := by simp
      have hv : (ec (f (j / K)))[j % K]? = some u := by
        rw [← hfe, ← flat_at (enc := ec) hlen hidx (j % K) hmod, ← hjj]
        exact hu
      have h3 := (hf (j / K) hi3).2 (j % K) u hv
      rw [Base.add_plain, ← hjj] at h3
      exact h3
    · obtain ⟨i, hi', rfl⟩ := List.mem_map.1 hy
      exact (hf i (List.mem_range.1 hi')).1
structure ERec where
  r : GRec
  vA : Option Addr
  vN : Nat
  vC : Nat
def encRec (x : ERec) : List Value := [.int .i64 x.r.cls, .int .i64 x.r.kind, .int .u64 x.r.frm, .int .i64 x.r.time, .int .u64 x.r.key, .int .u64 x.r.key2, .int .u64 x.r.key3, .int .i64 x.r.n, .int .i64 x.r.m, .string x.r.a, .string x.r.b, .string x.r.c, .slice x.vA x.vN x.vC]
def GoodRec (w : World) (x : ERec) : Prop := x.r.wf ∧ VarsR w (fun _ => True) x.vA x.vN x.vC x.r.vars
def Recs (w : World) (v : Value) (l : List ERec) : Prop := Row w (fun _ => True) 13 l.length v (l.flatMap encRec) ∧ (∀ x ∈ l, GoodRec w x) ∧ l.length * 144 ≤ 140737488351232
theorem Recs.below {w w' : World} {v : Value} {l : List ERec} (h : Recs w v l) (hb : Below w.heap.size w w') : Recs w' v l :=
  ⟨h.1.below hb, fun x hx => ⟨(h.2.1 x hx).1, (h.2.1 x hx).2.1, (h.2.1 x hx).2.2.1, (h.2.1 x hx).2.2.2.below hb⟩, h.2.2⟩
theorem Recs.open_ {w : World} {v : Value} {l : List ERec} (h : Recs w v l) : ∃ A c, v = .slice A l.length c ∧ l.length ≤ c ∧ c ≤ 9223372036854775807 := h.1.open_
section
variable {H : Type} {enc : TypeId × Value → H} {w : World} {base : Nat} {spare : Nat → Bool} {held : Bool}
theorem read_varsR {n : Nat} {c : Value} {x : DataW H × List MemPlace} (h : DataW.trod enc Tryz.prog w base spare held n 37 [c] = some x) (hl : Light 37 x.1) :
    ∃ l : List GVar, Row w (fun _ => True) 4 l.length c (l.flatMap GVar.cells) ∧ (∀ y ∈ l, y.wf) ∧ l.length * 48 ≤ 140737488351232 :=
  read_rows (ec := GVar.cells) GVar.wf ⟨⟨ByteArray.empty, zeroV⟩⟩ Tryz.underlying37 cells_var (by kernel_rfl) (fun _ => rfl) (by decide) (fun h hl => read_var h hl) h hl
set_option maxRecDepth 100000 in
theorem read_erec {n : Nat} {cs : List Value} {x : DataW H × List MemPlace} (h : DataW.trod enc Tryz.prog w base spare held n 39 cs = some x) (hl : Light 39 x.1) : ∃ v : ERec, cs = encRec v ∧ GoodRec w v := by
  obtain ⟨r, vv, rfl, wr, row⟩ := read_record (t := 39) h hl
  obtain ⟨xs, m, _, rfl, hcl, hlen, hf⟩ := DataW.trod_struct Tryz.underlying39 h
  match xs, hlen with
  | [x0, x1, x2, x3, x4, x5, x6, x7, x8, x9, x10, x11, x12], _ =>
    have g12 := fld hf (i := 12) rfl rfl cells_vars (c := [vv]) rfl (x := x12) rfl
    obtain ⟨l2, row2, _, hb⟩ := read_varsR (x := x12) g12 (light_part Tryz.underlying39 hl (j := 12) rfl rfl)
    obtain ⟨A, c, e, _, _⟩ := row.open_
    obtain ⟨A2, c2, e2, _, _⟩ := row2.open_
    rw [e] at e2
    injection e2 with _ e3 _
    subst e
    exact ⟨⟨r, A, r.vars.length, c⟩, rfl, wr, rfl, by show r.vars.length * 48 ≤ _; rw [e3]; omega, row⟩
end
end
end Go.Proofs.YtgpkmellpllmgaaGreat
/-
  A fold from nothing, as a plain function, and the law on how many keys were given. By hand.
-/
set_option linter.unusedVariables false
set_option linter.unusedSimpArgs false
namespace Go.Proofs.YtgpkmellpllmgaaGreat
open Go Go.RowKit Go.Proofs.Base
open Go.Sort (grow)
end Go.Proofs.YtgpkmellpllmgaaGreat
/-
  What '==' of values, variables and bare records gives.
-/
set_option linter.unusedVariables false
set_option linter.unusedSimpArgs false
namespace Go.Proofs.YtgpkmellpllmgaaGreat
open Go Go.RowKit Go.Proofs.Base
theorem und_var : Tryz.prog.underlying 91 = some (.struct (Tryz.prog.fieldsOf 91)) := by kernel_rfl
theorem held_var : Tryz.prog.stoodInHeld 91 = false := by kernel_rfl
theorem guard_var : Tryz.prog.eqGuardType Tryz.prog.depth 91 = false := by kernel_rfl
theorem und_value : Tryz.prog.underlying 89 = some (.struct (Tryz.prog.fieldsOf 89)) := by kernel_rfl
theorem held_value : Tryz.prog.stoodInHeld 89 = false := by kernel_rfl
theorem cells_v : Tryz.prog.cellsOf 89 = 3 := by kernel_rfl
theorem cells_s : Tryz.prog.cellsOf 9 = 1 := by kernel_rfl
theorem cells_i : Tryz.prog.cellsOf 3 = 1 := by kernel_rfl
theorem cells_i64 : Tryz.prog.cellsOf 2 = 1 := by kernel_rfl
set_option maxRecDepth 10000 in
theorem eq_value (d : Nat) (w : World) (x y : GVal) : (Op.equalIn (d + 2) 89 (.agg #[.int .i64 x.k, .int .i64 x.n, .string x.s]) (.agg #[.int .i64 y.k, .int .i64 y.n, .string y.s])).run Tryz.prog w = .ok (x.k == y.k && (x.n == y.n && x.s.toList == y.s.toList)) w := by
  rw [run_equalIn_agg w _ _ _ _ und_value held_value]
  simp only [Program.fieldsOf, Tryz.underlying89]
  simp [Op.eqFields, go_sem, Tryz.underlying3, Tryz.underlying2, Tryz.underlying9, cells_s, cells_i, cells_i64]
  by_cases h1 : x.k = y.k <;> by_cases h2 : x.n = y.n <;> by_cases h3 : x.s.toList = y.s.toList <;> simp [h1, h2, h3]
set_option maxRecDepth 10000 in
theorem eq_var (d : Nat) (w : World) (x y : GVar) : (Op.equalIn (d + 3) 91 (.agg #[.string x.name, .int .i64 x.v.k, .int .i64 x.v.n, .string x.v.s]) (.agg #[.string y.name, .int .i64 y.v.k, .int .i64 y.v.n, .string y.v.s])).run Tryz.prog w = .ok (x.name.toList == y.name.toList && (x.v.k == y.v.k && (x.v.n == y.v.n && x.v.s.toList == y.v.s.toList))) w := by
  rw [run_equalIn_agg w _ _ _ _ und_var held_var]
  have hv := eq_value d w x.v y.v
  simp only [Program.fieldsOf, Tryz.underlying91]
  simp [Op.eqFields, go_sem, Tryz.underlying9, cells_s, cells_v, hv]
  by_cases h1 : x.name.toList = y.name.toList <;> by_cases h2 : x.v.k = y.v.k <;> by_cases h3 : x.v.n = y.v.n <;> by_cases h4 : x.v.s.toList = y.v.s.toList <;> simp [h1, h2, h3, h4]
theorem var_same (x y : GVar) : (x.name.toList == y.name.toList && (x.v.k == y.v.k && (x.v.n == y.v.n && x.v.s.toList == y.v.s.toList))) = true ↔ x = y := by
  simp only [Bool.and_eq_true, beq_iff_eq, toList_toL]
  constructor
  · rintro ⟨h1, h2, h3, h4⟩
    exact GVar.ext (toL_inj h1) (GVal.ext h2 h3 (toL_inj h4))
  · rintro rfl
    exact ⟨rfl, rfl, rfl, rfl⟩
theorem neq_var_f (x : GVar) (w : World) : (binOp .neq 91 (.agg #[.string x.name, .int .i64 x.v.k, .int .i64 x.v.n, .string x.v.s]) (.agg #[.string x.name, .int .i64 x.v.k, .int .i64 x.v.n, .string x.v.s])).run Tryz.prog w = .ok (.bool false) w := by
  rw [run_neq_struct, eq_var 9997]
  simp [(var_same x x).2 rfl]
theorem neq_var_t {x y : GVar} (h : x ≠ y) (w : World) : (binOp .neq 91 (.agg #[.string x.name, .int .i64 x.v.k, .int .i64 x.v.n, .string x.v.s]) (.agg #[.string y.name, .int .i64 y.v.k, .int .i64 y.v.n, .string y.v.s])).run Tryz.prog w = .ok (.bool true) w := by
  rw [run_neq_struct, eq_var 9997]
  have : (x.name.toList == y.name.toList && (x.v.k == y.v.k && (x.v.n == y.v.n && x.v.s.toList == y.v.s.toList))) = false := by
    rw [Bool.eq_false_iff]
    exact fun hh => h ((var_same x y).1 hh)
  rw [this]
  rfl
end Go.Proofs.YtgpkmellpllmgaaGreat
/-
  The walks of slices.Equal of variables, and of the reference's Same. Printed by gensame.py.
-/
set_option linter.unusedVariables false
set_option linter.unusedSimpArgs false
namespace Go.Proofs.YtgpkmellpllmgaaGreat
open Go Go.RowKit Go.Proofs.Base
open Go.Sort (grow)
theorem same_false {l1 l2 : List GVar} {t : Bool} (ht : t = true ↔ l1 = l2) (h : l1 ≠ l2) : t = false := by
  cases t
  · rfl
  · exact absurd (ht.1 rfl) h
set_option maxRecDepth 100000 in
set_option maxHeartbeats 1000000 in
theorem ref9_Same (S : Nat → Prop) (l1 l2 : List GVar) (n m : Nat) (v1 v2 : Value) (t : Bool) (w : World) (hn : l1.length = n) (hm : l2.length = m) (h1 : Row w S 4 n v1 (varCells l1)) (h2 : Row w S 4 m v2 (varCells l2)) (ht : t = true ↔ l1 = l2) :
    Calls Tryz.prog 21 #[v1, v2] w fun e w' => e = .returned (.bool t) ∧ Below w.heap.size w w' := by
  obtain ⟨A1, c1, rfl, _, _⟩ := h1.open_
  obtain ⟨A2, c2, rfl, _, _⟩ := h2.open_
  by_cases hnm : n = m
  · subst hnm
    have hb := bne_f (a := (n : Int)) (b := (n : Int)) rfl
    have HT := Lib.hid ht
    have H1 := Lib.hid h1
    have H2 := Lib.hid h2
    have Hn := Lib.hid hn
    have Hm := Lib.hid hm
    clear ht h1 h2 hn hm
    go_enter Tryz.func21, Tryz.ntmps21
    go_wp2_with fail
    go_loopw [5] (fun i wr => ∃ k : Nat, k ≤ n ∧ i = .int .i64 k ∧ Hid (l1.take k = l2.take k) ∧ Below w.heap.size w wr) (fun i _ => n - (intOf i).toNat)
    case atStart => exact ⟨0, by omega, rfl, Lib.hid rfl, Below.refl _ _⟩
    case round =>
      obtain ⟨k, hk, rfl, HK, hbl⟩ := hrel
      by_cases hkn : k < n
      · have hk1 : k < l1.length := by rw [Hn.out]; exact hkn
        have hk2 : k < l2.length := by rw [Hm.out]; exact hkn
        obtain ⟨b, o, rfl, _, hlt, hc⟩ := H1.out.at_ (by omega)
        obtain ⟨b', o', rfl, _, hlt', hc'⟩ := H2.out.at_ (by omega)
        obtain ⟨x0, x1, x2, x3⟩ := varCells_at hk1
        obtain ⟨y0, y1, y2, y3⟩ := varCells_at hk2
        have kx0 := (hbl.cell (p := ⟨b, o + k * 4 + 0, none⟩) hlt).trans (hc k 0 _ x0)
        have kx1 := (hbl.cell (p := ⟨b, o + k * 4 + 1, none⟩) hlt).trans (hc k 1 _ x1)
        have kx2 := (hbl.cell (p := ⟨b, o + k * 4 + 2, none⟩) hlt).trans (hc k 2 _ x2)
        have kx3 := (hbl.cell (p := ⟨b, o + k * 4 + 3, none⟩) hlt).trans (hc k 3 _ x3)
        have ky0 := (hbl.cell (p := ⟨b', o' + k * 4 + 0, none⟩) hlt').trans (hc' k 0 _ y0)
        have ky1 := (hbl.cell (p := ⟨b', o' + k * 4 + 1, none⟩) hlt').trans (hc' k 1 _ y1)
        have ky2 := (hbl.cell (p := ⟨b', o' + k * 4 + 2, none⟩) hlt').trans (hc' k 2 _ y2)
        have ky3 := (hbl.cell (p := ⟨b', o' + k * 4 + 3, none⟩) hlt').trans (hc' k 3 _ y3)
        rw [Nat.add_zero] at kx0 ky0
        clear x0 x1 x2 x3 y0 y1 y2 y3 hc hc'
        have Hx : Hid (l1[k]? = some l1[k] ∧ l2[k]? = some l2[k]) := Lib.hid ⟨List.getElem?_eq_getElem hk1, List.getElem?_eq_getElem hk2⟩
        generalize l1[k] = x at *
        generalize l2[k] = y at *
        have qx0 := cell_regrown kx0
        have qx1 := cell_regrown kx1
        have qx2 := cell_regrown kx2
        have qx3 := cell_regrown kx3
        have qy0 := cell_regrown ky0
        have qy1 := cell_regrown ky1
        have qy2 := cell_regrown ky2
        have qy3 := cell_regrown ky3
        clear kx0 kx1 kx2 kx3 ky0 ky1 ky2 ky3 hk1 hk2
        have hg := guard_var
        by_cases hxy : x = y
        · subst hxy
          have hcmp := neq_var_f x
          go_wp2_with fail
          refine wp_region_quiet_below (by kernel_rfl) (by kernel_rfl) ?_
          repeat (first | go_big_quiet_step (fail) | quiet_step (fail))
          refine wpQuiet_nil ?_
          intro _ hw'
          obtain ⟨⟨dq, osq⟩, hw''⟩ := hw'
          subst hw''
          have hbq := below_regrown wr dq osq
          have HB2 := Lib.hid (below2 hbl hbq)
          have HK2 : Hid (l1.take (k + 1) = l2.take (k + 1)) := Lib.hid (by rw [List.take_add_one, List.take_add_one, HK.out, Hx.out.1, Hx.out.2])
          clear hbq hcmp
          go_wp2_with fail
          go_roundw
          case rel => exact ⟨k + 1, by omega, by go_num, HK2, HB2.out⟩
          case measure => simp [intOf]; omega
        · have hcmp := neq_var_t hxy
          have htf : t = false := same_false HT.out (fun hl => hxy (by have h := Hx.out; rw [hl] at h; exact Option.some.inj (h.1.symm.trans h.2)))
          have HTF := Lib.hid htf
          clear hxy htf
          go_wp2_with fail
          refine wp_region_quiet_below (by kernel_rfl) (by kernel_rfl) ?_
          repeat (first | go_big_quiet_step (fail) | quiet_step (fail))
          refine wpQuiet_nil ?_
          intro _ hw'
          obtain ⟨⟨dq, osq⟩, hw''⟩ := hw'
          subst hw''
          have hbq := below_regrown wr dq osq
          have HB2 := Lib.hid (below2 hbl hbq)
          clear hbq hcmp
          go_wp2_with fail
          go_ret
          exact ⟨by rw [HTF.out]; rfl, HB2.out⟩
      · have hkn2 : k = n := by omega
        have htt : t = true := HT.out.2 (by have h := HK.out; rwa [List.take_of_length_le (by rw [Hn.out]; omega), List.take_of_length_le (by rw [Hm.out]; omega)] at h)
        have HTT := Lib.hid htt
        clear htt hkn2
        go_wp2_with fail
        go_ret
        exact ⟨by rw [HTT.out]; rfl, hbl⟩
  · have htf : t = false := same_false ht (fun hl => hnm (by rw [← hn, ← hm, hl]))
    have hb := bne_t (a := (n : Int)) (b := (m : Int)) (by omega)
    have HTF := Lib.hid htf
    clear htf hnm ht h1 h2 hn hm
    go_enter Tryz.func21, Tryz.ntmps21
    go_wp2_with fail
    go_ret
    exact ⟨by rw [HTF.out]; rfl, Below.refl _ _⟩
end Go.Proofs.YtgpkmellpllmgaaGreat
/-
  When two elements of a state's lists are the same, when two lists, when two states: as Bools. What '==' of structs gives. Printed by gfold16.py.
-/
set_option linter.unusedVariables false
set_option linter.unusedSimpArgs false
namespace Go.Proofs.Base
open Go Go.RowKit
open Go.Sort (grow grow_empty)
deriving instance DecidableEq for GVal
deriving instance DecidableEq for GVar
section
variable {α β : Type}
end
def qProc (x y : EProc) : Bool := (decide (x.id.toList = y.id.toList) && decide (x.bts.toList = y.bts.toList))
def puProc (x : EProc) : EProc := x
theorem qProc_iff (x y : EProc) : qProc x y = true ↔ puProc x = puProc y := by
  unfold qProc puProc
  simp only [Bool.and_eq_true, decide_eq_true_eq, beq_iff_eq, toList_toL]
  constructor
  · rintro ⟨h0, h1⟩
    have h0 := toL_inj h0
    have h1 := toL_inj h1
    cases x; cases y
    simp only at *
    subst h0 h1
    rfl
  · rintro rfl
    exact ⟨rfl, rfl⟩
def qTok (x y : ETok) : Bool := (decide (x.key = y.key) && (decide (x.inst = y.inst) && (decide (x.scope = y.scope) && (decide (x.node = y.node) && (decide (x.flow = y.flow) && decide (x.stuck.toList = y.stuck.toList))))))
def puTok (x : ETok) : ETok := x
theorem qTok_iff (x y : ETok) : qTok x y = true ↔ puTok x = puTok y := by
  unfold qTok puTok
  simp only [Bool.and_eq_true, decide_eq_true_eq, beq_iff_eq, toList_toL]
  constructor
  · rintro ⟨h0, h1, h2, h3, h4, h5⟩
    have h5 := toL_inj h5
    cases x; cases y
    simp only at *
    subst h0 h1 h2 h3 h4 h5
    rfl
  · rintro rfl
    exact ⟨rfl, rfl, rfl, rfl, rfl, rfl⟩
def qJob (x y : EJob) : Bool := (decide (x.key = y.key) && (decide (x.token = y.token) && (decide (x.typ.toList = y.typ.toList) && (decide (x.retries = y.retries) && (decide (x.worker.toList = y.worker.toList) && decide (x.till = y.till))))))
def puJob (x : EJob) : EJob := x
theorem qJob_iff (x y : EJob) : qJob x y = true ↔ puJob x = puJob y := by
  unfold qJob puJob
  simp only [Bool.and_eq_true, decide_eq_true_eq, beq_iff_eq, toList_toL]
  constructor
  · rintro ⟨h0, h1, h2, h3, h4, h5⟩
    have h2 := toL_inj h2
    have h4 := toL_inj h4
    cases x; cases y
    simp only at *
    subst h0 h1 h2 h3 h4 h5
    rfl
  · rintro rfl
    exact ⟨rfl, rfl, rfl, rfl, rfl, rfl⟩
def qTim (x y : ETim) : Bool := (decide (x.token = y.token) && (decide (x.node = y.node) && decide (x.due = y.due)))
def puTim (x : ETim) : ETim := x
theorem qTim_iff (x y : ETim) : qTim x y = true ↔ puTim x = puTim y := by
  unfold qTim puTim
  simp only [Bool.and_eq_true, decide_eq_true_eq, beq_iff_eq, toList_toL]
  constructor
  · rintro ⟨h0, h1, h2⟩
    cases x; cases y
    simp only at *
    subst h0 h1 h2
    rfl
  · rintro rfl
    exact ⟨rfl, rfl, rfl⟩
def qSub (x y : ESub) : Bool := (decide (x.token = y.token) && (decide (x.inst = y.inst) && (decide (x.node = y.node) && (decide (x.name.toList = y.name.toList) && (decide (x.key.toList = y.key.toList) && x.opn == y.opn)))))
def puSub (x : ESub) : ESub := x
theorem qSub_iff (x y : ESub) : qSub x y = true ↔ puSub x = puSub y := by
  unfold qSub puSub
  simp only [Bool.and_eq_true, decide_eq_true_eq, beq_iff_eq, toList_toL]
  constructor
  · rintro ⟨h0, h1, h2, h3, h4, h5⟩
    have h3 := toL_inj h3
    have h4 := toL_inj h4
    cases x; cases y
    simp only at *
    subst h0 h1 h2 h3 h4 h5
    rfl
  · rintro rfl
    exact ⟨rfl, rfl, rfl, rfl, rfl, rfl⟩
def qKept (x y : EKept) : Bool := (decide (x.token = y.token) && (decide (x.message = y.message) && decide (x.node = y.node)))
def puKept (x : EKept) : EKept := x
theorem qKept_iff (x y : EKept) : qKept x y = true ↔ puKept x = puKept y := by
  unfold qKept puKept
  simp only [Bool.and_eq_true, decide_eq_true_eq, beq_iff_eq, toList_toL]
  constructor
  · rintro ⟨h0, h1, h2⟩
    cases x; cases y
    simp only at *
    subst h0 h1 h2
    rfl
  · rintro rfl
    exact ⟨rfl, rfl, rfl⟩
end Go.Proofs.Base
namespace Go.Proofs.YtgpkmellpllmgaaGreat
open Go Go.RowKit Go.Proofs.Base
theorem cells_u : Tryz.prog.cellsOf 24 = 1 := by kernel_rfl
theorem cells_b : Tryz.prog.cellsOf 4 = 1 := by kernel_rfl
theorem ite_ok {p : Prop} [Decidable p] (b : Bool) (w : World) : (if p then (Result.ok b w : Result Bool) else .ok false w) = .ok (decide p && b) w := by split <;> simp [*]
theorem und_Proc : Tryz.prog.underlying 70 = some (.struct (Tryz.prog.fieldsOf 70)) := by kernel_rfl
theorem held_Proc : Tryz.prog.stoodInHeld 70 = false := by kernel_rfl
theorem bProc : BoxT Tryz.prog 70 2 := ⟨by kernel_rfl, by kernel_rfl⟩
set_option maxRecDepth 100000 in
set_option maxHeartbeats 8000000 in
theorem eq_Proc (d : Nat) (w : World) (x y : EProc) : (Op.equalIn (d + 2) 70 (.agg #[.string x.id, .string x.bts]) (.agg #[.string y.id, .string y.bts])).run Tryz.prog w = .ok (qProc x y) w := by
  rw [run_equalIn_agg w _ _ _ _ und_Proc held_Proc]
  simp only [Program.fieldsOf, Tryz.underlying70]
  simp [Op.eqFields, go_sem, Tryz.underlying3, Tryz.underlying2, Tryz.underlying24, Tryz.underlying9, Tryz.underlying4, cells_s, cells_i, cells_i64, cells_u, cells_b]
  have ite_last : ∀ (p : Prop) [Decidable p], (if p then (Result.ok true w : Result Bool) else .ok false w) = .ok (decide p) w := fun p _ => by split <;> simp [*]
  simp only [ite_last, ite_ok]
  rfl
theorem eql_Proc (x y : EProc) (w : World) : (binOp .eql 70 (.agg (encProc x).toArray) (.agg (encProc y).toArray)).run Tryz.prog w = .ok (.bool (qProc x y)) w := by
  rw [run_eql_struct, show (encProc x).toArray = #[.string x.id, .string x.bts] from rfl, show (encProc y).toArray = #[.string y.id, .string y.bts] from rfl, eq_Proc 9998]
  rfl
theorem und_Tok : Tryz.prog.underlying 42 = some (.struct (Tryz.prog.fieldsOf 42)) := by kernel_rfl
theorem held_Tok : Tryz.prog.stoodInHeld 42 = false := by kernel_rfl
theorem bTok : BoxT Tryz.prog 42 6 := ⟨by kernel_rfl, by kernel_rfl⟩
set_option maxRecDepth 100000 in
set_option maxHeartbeats 8000000 in
theorem eq_Tok (d : Nat) (w : World) (x y : ETok) : (Op.equalIn (d + 2) 42 (.agg #[.int .u64 x.key, .int .u64 x.inst, .int .u64 x.scope, .int .i64 x.node, .int .i64 x.flow, .string x.stuck]) (.agg #[.int .u64 y.key, .int .u64 y.inst, .int .u64 y.scope, .int .i64 y.node, .int .i64 y.flow, .string y.stuck])).run Tryz.prog w = .ok (qTok x y) w := by
  rw [run_equalIn_agg w _ _ _ _ und_Tok held_Tok]
  simp only [Program.fieldsOf, Tryz.underlying42]
  simp [Op.eqFields, go_sem, Tryz.underlying3, Tryz.underlying2, Tryz.underlying24, Tryz.underlying9, Tryz.underlying4, cells_s, cells_i, cells_i64, cells_u, cells_b]
  have ite_last : ∀ (p : Prop) [Decidable p], (if p then (Result.ok true w : Result Bool) else .ok false w) = .ok (decide p) w := fun p _ => by split <;> simp [*]
  simp only [ite_last, ite_ok]
  rfl
theorem eql_Tok (x y : ETok) (w : World) : (binOp .eql 42 (.agg (encTok x).toArray) (.agg (encTok y).toArray)).run Tryz.prog w = .ok (.bool (qTok x y)) w := by
  rw [run_eql_struct, show (encTok x).toArray = #[.int .u64 x.key, .int .u64 x.inst, .int .u64 x.scope, .int .i64 x.node, .int .i64 x.flow, .string x.stuck] from rfl, show (encTok y).toArray = #[.int .u64 y.key, .int .u64 y.inst, .int .u64 y.scope, .int .i64 y.node, .int .i64 y.flow, .string y.stuck] from rfl, eq_Tok 9998]
  rfl
theorem und_Job : Tryz.prog.underlying 52 = some (.struct (Tryz.prog.fieldsOf 52)) := by kernel_rfl
theorem held_Job : Tryz.prog.stoodInHeld 52 = false := by kernel_rfl
theorem bJob : BoxT Tryz.prog 52 6 := ⟨by kernel_rfl, by kernel_rfl⟩
set_option maxRecDepth 100000 in
set_option maxHeartbeats 8000000 in
theorem eq_Job (d : Nat) (w : World) (x y : EJob) : (Op.equalIn (d + 2) 52 (.agg #[.int .u64 x.key, .int .u64 x.token, .string x.typ, .int .i64 x.retries, .string x.worker, .int .i64 x.till]) (.agg #[.int .u64 y.key, .int .u64 y.token, .string y.typ, .int .i64 y.retries, .string y.worker, .int .i64 y.till])).run Tryz.prog w = .ok (qJob x y) w := by
  rw [run_equalIn_agg w _ _ _ _ und_Job held_Job]
  simp only [Program.fieldsOf, Tryz.underlying52]
  simp [Op.eqFields, go_sem, Tryz.underlying3, Tryz.underlying2, Tryz.underlying24, Tryz.underlying9, Tryz.underlying4, cells_s, cells_i, cells_i64, cells_u, cells_b]
  have ite_last : ∀ (p : Prop) [Decidable p], (if p then (Result.ok true w : Result Bool) else .ok false w) = .ok (decide p) w := fun p _ => by split <;> simp [*]
  simp only [ite_last, ite_ok]
  rfl
theorem eql_Job (x y : EJob) (w : World) : (binOp .eql 52 (.agg (encJob x).toArray) (.agg (encJob y).toArray)).run Tryz.prog w = .ok (.bool (qJob x y)) w := by
  rw [run_eql_struct, show (encJob x).toArray = #[.int .u64 x.key, .int .u64 x.token, .string x.typ, .int .i64 x.retries, .string x.worker, .int .i64 x.till] from rfl, show (encJob y).toArray = #[.int .u64 y.key, .int .u64 y.token, .string y.typ, .int .i64 y.retries, .string y.worker, .int .i64 y.till] from rfl, eq_Job 9998]
  rfl
theorem und_Tim : Tryz.prog.underlying 66 = some (.struct (Tryz.prog.fieldsOf 66)) := by kernel_rfl
theorem held_Tim : Tryz.prog.stoodInHeld 66 = false := by kernel_rfl
theorem bTim : BoxT Tryz.prog 66 3 := ⟨by kernel_rfl, by kernel_rfl⟩
set_option maxRecDepth 100000 in
set_option maxHeartbeats 8000000 in
theorem eq_Tim (d : Nat) (w : World) (x y : ETim) : (Op.equalIn (d + 2) 66 (.agg #[.int .u64 x.token, .int .i64 x.node, .int .i64 x.due]) (.agg #[.int .u64 y.token, .int .i64 y.node, .int .i64 y.due])).run Tryz.prog w = .ok (qTim x y) w := by
  rw [run_equalIn_agg w _ _ _ _ und_Tim held_Tim]
  simp only [Program.fieldsOf, Tryz.underlying66]
  simp [Op.eqFields, go_sem, Tryz.underlying3, Tryz.underlying2, Tryz.underlying24, Tryz.underlying9, Tryz.underlying4, cells_s, cells_i, cells_i64, cells_u, cells_b]
  have ite_last : ∀ (p : Prop) [Decidable p], (if p then (Result.ok true w : Result Bool) else .ok false w) = .ok (decide p) w := fun p _ => by split <;> simp [*]
  simp only [ite_last, ite_ok]
  rfl
theorem eql_Tim (x y : ETim) (w : World) : (binOp .eql 66 (.agg (encTim x).toArray) (.agg (encTim y).toArray)).run Tryz.prog w = .ok (.bool (qTim x y)) w := by
  rw [run_eql_struct, show (encTim x).toArray = #[.int .u64 x.token, .int .i64 x.node, .int .i64 x.due] from rfl, show (encTim y).toArray = #[.int .u64 y.token, .int .i64 y.node, .int .i64 y.due] from rfl, eq_Tim 9998]
  rfl
theorem und_Sub : Tryz.prog.underlying 73 = some (.struct (Tryz.prog.fieldsOf 73)) := by kernel_rfl
theorem held_Sub : Tryz.prog.stoodInHeld 73 = false := by kernel_rfl
theorem bSub : BoxT Tryz.prog 73 6 := ⟨by kernel_rfl, by kernel_rfl⟩
set_option maxRecDepth 100000 in
set_option maxHeartbeats 8000000 in
theorem eq_Sub (d : Nat) (w : World) (x y : ESub) : (Op.equalIn (d + 2) 73 (.agg #[.int .u64 x.token, .int .u64 x.inst, .int .i64 x.node, .string x.name, .string x.key, .bool x.opn]) (.agg #[.int .u64 y.token, .int .u64 y.inst, .int .i64 y.node, .string y.name, .string y.key, .bool y.opn])).run Tryz.prog w = .ok (qSub x y) w := by
  rw [run_equalIn_agg w _ _ _ _ und_Sub held_Sub]
  simp only [Program.fieldsOf, Tryz.underlying73]
  simp [Op.eqFields, go_sem, Tryz.underlying3, Tryz.underlying2, Tryz.underlying24, Tryz.underlying9, Tryz.underlying4, cells_s, cells_i, cells_i64, cells_u, cells_b]
  have ite_last : ∀ (p : Prop) [Decidable p], (if p then (Result.ok true w : Result Bool) else .ok false w) = .ok (decide p) w := fun p _ => by split <;> simp [*]
  simp only [ite_last, ite_ok]
  rfl
theorem eql_Sub (x y : ESub) (w : World) : (binOp .eql 73 (.agg (encSub x).toArray) (.agg (encSub y).toArray)).run Tryz.prog w = .ok (.bool (qSub x y)) w := by
  rw [run_eql_struct, show (encSub x).toArray = #[.int .u64 x.token, .int .u64 x.inst, .int .i64 x.node, .string x.name, .string x.key, .bool x.opn] from rfl, show (encSub y).toArray = #[.int .u64 y.token, .int .u64 y.inst, .int .i64 y.node, .string y.name, .string y.key, .bool y.opn] from rfl, eq_Sub 9998]
  rfl
theorem und_Kept : Tryz.prog.underlying 75 = some (.struct (Tryz.prog.fieldsOf 75)) := by kernel_rfl
theorem held_Kept : Tryz.prog.stoodInHeld 75 = false := by kernel_rfl
theorem bKept : BoxT Tryz.prog 75 3 := ⟨by kernel_rfl, by kernel_rfl⟩
set_option maxRecDepth 100000 in
set_option maxHeartbeats 8000000 in
theorem eq_Kept (d : Nat) (w : World) (x y : EKept) : (Op.equalIn (d + 2) 75 (.agg #[.int .u64 x.token, .int .u64 x.message, .int .i64 x.node]) (.agg #[.int .u64 y.token, .int .u64 y.message, .int .i64 y.node])).run Tryz.prog w = .ok (qKept x y) w := by
  rw [run_equalIn_agg w _ _ _ _ und_Kept held_Kept]
  simp only [Program.fieldsOf, Tryz.underlying75]
  simp [Op.eqFields, go_sem, Tryz.underlying3, Tryz.underlying2, Tryz.underlying24, Tryz.underlying9, Tryz.underlying4, cells_s, cells_i, cells_i64, cells_u, cells_b]
  have ite_last : ∀ (p : Prop) [Decidable p], (if p then (Result.ok true w : Result Bool) else .ok false w) = .ok (decide p) w := fun p _ => by split <;> simp [*]
  simp only [ite_last, ite_ok]
  rfl
theorem eql_Kept (x y : EKept) (w : World) : (binOp .eql 75 (.agg (encKept x).toArray) (.agg (encKept y).toArray)).run Tryz.prog w = .ok (.bool (qKept x y)) w := by
  rw [run_eql_struct, show (encKept x).toArray = #[.int .u64 x.token, .int .u64 x.message, .int .i64 x.node] from rfl, show (encKept y).toArray = #[.int .u64 y.token, .int .u64 y.message, .int .i64 y.node] from rfl, eq_Kept 9998]
  rfl
end Go.Proofs.YtgpkmellpllmgaaGreat
/-
  The reference's Same of two states that are the same. Printed by gfold20.py.
-/
set_option linter.unusedVariables false
set_option linter.unusedSimpArgs false
namespace Go.Proofs.YtgpkmellpllmgaaGreat
open Go Go.RowKit Go.Proofs.Base
open Go.Sort (grow)
theorem gdProc : Tryz.prog.eqGuardType Tryz.prog.depth 70 = false := by kernel_rfl
theorem gdTok : Tryz.prog.eqGuardType Tryz.prog.depth 42 = false := by kernel_rfl
theorem gdJob : Tryz.prog.eqGuardType Tryz.prog.depth 52 = false := by kernel_rfl
theorem gdTim : Tryz.prog.eqGuardType Tryz.prog.depth 66 = false := by kernel_rfl
theorem gdSub : Tryz.prog.eqGuardType Tryz.prog.depth 73 = false := by kernel_rfl
theorem gdKept : Tryz.prog.eqGuardType Tryz.prog.depth 75 = false := by kernel_rfl
theorem qProc_refl (x : EProc) : qProc x x = true := (qProc_iff x x).2 rfl
theorem qTok_refl (x : ETok) : qTok x x = true := (qTok_iff x x).2 rfl
theorem qJob_refl (x : EJob) : qJob x x = true := (qJob_iff x x).2 rfl
theorem qTim_refl (x : ETim) : qTim x x = true := (qTim_iff x x).2 rfl
theorem qSub_refl (x : ESub) : qSub x x = true := (qSub_iff x x).2 rfl
theorem qKept_refl (x : EKept) : qKept x x = true := (qKept_iff x x).2 rfl
set_option maxRecDepth 100000 in
set_option maxHeartbeats 8000000 in
theorem refSame_true {w : World} {S S' : Nat → Prop} {v v' : StV} {g g' : GSt} (hs : StR w S v g) (hs' : StR w S' v' g') (hf : g.fits) (hp : g.pure = g'.pure) :
    Calls Tryz.prog 12 #[.agg v.vals, .agg v'.vals] w fun e w' => e = .returned (.bool true) ∧ Below w.heap.size w w' := by
  obtain ⟨P, D, M, A3, n3, c3, A4, n4, c4, A5, n5, c5, A6, n6, c6, A7, n7, c7, A8, n8, c8, A9, n9, c9, A10, n10, c10, A11, n11, c11⟩ := v
  obtain ⟨P', D', M', A3', n3', c3', A4', n4', c4', A5', n5', c5', A6', n6', c6', A7', n7', c7', A8', n8', c8', A9', n9', c9', A10', n10', c10', A11', n11', c11'⟩ := v'
  have hh := hp
  unfold GSt.pure at hh
  rw [GSt.mk.injEq] at hh
  obtain ⟨a0, a1, a2, kProc, kInst, kTok, kJob, kTim, kSub, kKept, kLst, kMsg⟩ := hh
  have lProc : g.procs.length = g'.procs.length := by have := congrArg List.length kProc; simpa using this
  have lInst : g.insts.length = g'.insts.length := by have := congrArg List.length kInst; simpa using this
  have lTok : g.tokens.length = g'.tokens.length := by have := congrArg List.length kTok; simpa using this
  have lJob : g.jobs.length = g'.jobs.length := by have := congrArg List.length kJob; simpa using this
  have lTim : g.timers.length = g'.timers.length := by have := congrArg List.length kTim; simpa using this
  have lSub : g.subs.length = g'.subs.length := by have := congrArg List.length kSub; simpa using this
  have lKept : g.kept.length = g'.kept.length := by have := congrArg List.length kKept; simpa using this
  have lLst : g.listed.length = g'.listed.length := by have := congrArg List.length kLst; simpa using this
  have lMsg : g.msgs.length = g'.msgs.length := by have := congrArg List.length kMsg; simpa using this
  have b0 : P = P' := hs.pos.trans (a0.trans hs'.pos.symm)
  have b1 : D = D' := hs.done.trans (a1.trans hs'.done.symm)
  have b2 : M = M' := hs.made.trans (a2.trans hs'.made.symm)
  have b3 : n3 = n3' := hs.procs.1.symm.trans (lProc.trans hs'.procs.1)
  have b4 : n4 = n4' := hs.insts.1.symm.trans (lInst.trans hs'.insts.1)
  have b5 : n5 = n5' := hs.tokens.1.symm.trans (lTok.trans hs'.tokens.1)
  have b6 : n6 = n6' := hs.jobs.1.symm.trans (lJob.trans hs'.jobs.1)
  have b7 : n7 = n7' := hs.timers.1.symm.trans (lTim.trans hs'.timers.1)
  have b8 : n8 = n8' := hs.subs.1.symm.trans (lSub.trans hs'.subs.1)
  have b9 : n9 = n9' := hs.kept.1.symm.trans (lKept.trans hs'.kept.1)
  have b10 : n10 = n10' := hs.listed.1.symm.trans (lLst.trans hs'.listed.1)
  have b11 : n11 = n11' := hs.msgs.1.symm.trans (lMsg.trans hs'.msgs.1)
  subst b0 b1 b2 b3 b4 b5 b6 b7 b8 b9 b10 b11
  obtain ⟨N, hN⟩ : ∃ N, N = (w.alloc (.cells #[.int .u64 P, .int .u64 D, .int .u64 M, .slice A3 n3 c3, .slice A4 n4 c4, .slice A5 n5 c5, .slice A6 n6 c6, .slice A7 n7 c7, .slice A8 n8 c8, .slice A9 n9 c9, .slice A10 n10 c10, .slice A11 n11 c11] 35)).alloc (.cells #[.int .u64 P, .int .u64 D, .int .u64 M, .slice A3' n3 c3', .slice A4' n4 c4', .slice A5' n5 c5', .slice A6' n6 c6', .slice A7' n7 c7', .slice A8' n8 c8', .slice A9' n9 c9', .slice A10' n10 c10', .slice A11' n11 c11'] 35) := ⟨_, rfl⟩
  have HBX : Hid (N.heap[w.heap.size]? = some (.cells #[.int .u64 P, .int .u64 D, .int .u64 M, .slice A3 n3 c3, .slice A4 n4 c4, .slice A5 n5 c5, .slice A6 n6 c6, .slice A7 n7 c7, .slice A8 n8 c8, .slice A9 n9 c9, .slice A10 n10 c10, .slice A11 n11 c11] 35 (0, 0))) := Lib.hid (by rw [hN]; exact blk_alloc (blk_new _) _)
  have HBY : Hid (N.heap[w.heap.size + 1]? = some (.cells #[.int .u64 P, .int .u64 D, .int .u64 M, .slice A3' n3 c3', .slice A4' n4 c4', .slice A5' n5 c5', .slice A6' n6 c6', .slice A7' n7 c7', .slice A8' n8 c8', .slice A9' n9 c9', .slice A10' n10 c10', .slice A11' n11 c11'] 35 (0, 0))) := Lib.hid (by rw [hN]; exact blk_new_of _ (by simp))
  have HNB : Hid (Below w.heap.size w N) := Lib.hid (by rw [hN]; exact below_alloc (below_alloc (Below.refl _ _) _) _)
  have HS := Lib.hid hs
  have HS' := Lib.hid hs'
  have HF := Lib.hid hf
  have HN := Lib.hid hN
  have HLProc := Lib.hid lProc
  have HKProc := Lib.hid kProc
  have HLInst := Lib.hid lInst
  have HKInst := Lib.hid kInst
  have HLTok := Lib.hid lTok
  have HKTok := Lib.hid kTok
  have HLJob := Lib.hid lJob
  have HKJob := Lib.hid kJob
  have HLTim := Lib.hid lTim
  have HKTim := Lib.hid kTim
  have HLSub := Lib.hid lSub
  have HKSub := Lib.hid kSub
  have HLKept := Lib.hid lKept
  have HKKept := Lib.hid kKept
  have HLLst := Lib.hid lLst
  have HKLst := Lib.hid kLst
  have HLMsg := Lib.hid lMsg
  have HKMsg := Lib.hid kMsg
  clear hs hs' hf hp hN a0 a1 a2 lProc kProc lInst kInst lTok kTok lJob kJob lTim kTim lSub kSub lKept kKept lLst kLst lMsg kMsg
  simp only [StV.vals]
  go_enter Tryz.func12, Tryz.ntmps12
  go_wp2_with fail
  rw [show (w.alloc (.cells #[.int .u64 P, .int .u64 D, .int .u64 M, .slice A3 n3 c3, .slice A4 n4 c4, .slice A5 n5 c5, .slice A6 n6 c6, .slice A7 n7 c7, .slice A8 n8 c8, .slice A9 n9 c9, .slice A10 n10 c10, .slice A11 n11 c11] 35)).alloc (.cells #[.int .u64 P, .int .u64 D, .int .u64 M, .slice A3' n3 c3', .slice A4' n4 c4', .slice A5' n5 c5', .slice A6' n6 c6', .slice A7' n7 c7', .slice A8' n8 c8', .slice A9' n9 c9', .slice A10' n10 c10', .slice A11' n11 c11'] 35) = N from HN.out.symm]
  clear HN
  have kx := HBX.out
  have ky := HBY.out
  have x0 := cell_of_blk kx 0
  have y0 := cell_of_blk ky 0
  have x1 := cell_of_blk kx 1
  have y1 := cell_of_blk ky 1
  have x2 := cell_of_blk kx 2
  have y2 := cell_of_blk ky 2
  have x3 := cell_of_blk kx 3
  have y3 := cell_of_blk ky 3
  have x4 := cell_of_blk kx 4
  have y4 := cell_of_blk ky 4
  have x5 := cell_of_blk kx 5
  have y5 := cell_of_blk ky 5
  have x6 := cell_of_blk kx 6
  have y6 := cell_of_blk ky 6
  have x7 := cell_of_blk kx 7
  have y7 := cell_of_blk ky 7
  have x8 := cell_of_blk kx 8
  have y8 := cell_of_blk ky 8
  have x9 := cell_of_blk kx 9
  have y9 := cell_of_blk ky 9
  have x10 := cell_of_blk kx 10
  have y10 := cell_of_blk ky 10
  have x11 := cell_of_blk kx 11
  have y11 := cell_of_blk ky 11
  clear kx ky
  go_wp2
  clear x0 y0 x1 y1 x2 y2 x3 y3 x4 y4 x5 y5 x6 y6 x7 y7 x8 y8 x9 y9 x10 y10 x11 y11
  go_loopw [5, 6] (fun ok i wr => ∃ k : Nat, k ≤ n3 ∧ i = .int .i64 k ∧ ok = .bool true ∧ Hid (Below N.heap.size N wr)) (fun _ i _ => n3 - (intOf i).toNat)
  case atStart => exact ⟨0, Nat.zero_le _, rfl, rfl, Lib.hid (Below.refl _ _)⟩
  case round =>
    obtain ⟨k, hk, rfl, rfl, HB0⟩ := hrel
    have hn : n3 ≤ 140737488355328 := by have h1 := HS.out.procs.1; have h2 := HF.out; simp only at h1; unfold GSt.fits at h2; omega
    have x3 : wr.cell? ⟨w.heap.size, 3, none⟩ = some (.slice A3 n3 c3) := cell_of_blk (block_below HB0.out HBX.out) 3
    have y3 : wr.cell? ⟨w.heap.size + 1, 3, none⟩ = some (.slice A3' n3 c3') := cell_of_blk (block_below HB0.out HBY.out) 3
    by_cases hlt : k < n3
    · as_aux_lemma =>
        obtain ⟨B, O, hA, _, hc⟩ := HS.out.procs.elem lenProc (by simp only; omega)
        obtain ⟨B', O', hA', _, hc'⟩ := HS'.out.procs.elem lenProc (by simp only; omega)
        simp only at hA hA'
        subst hA hA'
        have hl1 : k < g.procs.length := by rw [HS.out.procs.1]; exact hlt
        have hl2 : k < g'.procs.length := by rw [← HLProc.out]; exact hl1
        have HBW := Lib.hid (below2 HNB.out HB0.out)
        have HC := Lib.hid (fun j u hu => cell_below HBW.out (hc k hl1 j u hu))
        have HC' := Lib.hid (fun j u hu => cell_below HBW.out (hc' k hl2 j u hu))
        have hE : g'.procs[k] = g.procs[k] := by simp only [HKProc.out]
        rw [hE] at HC'
        clear hc hc'
        generalize g.procs[k] = a at *
        generalize g'.procs[k] = a' at *
        clear hl1 hl2 hE
        have hL := load_at_re bProc (encProc a) rfl HC.out
        have hL' := load_at_re bProc (encProc a) rfl HC'.out
        have HLD := Lib.hid hL
        have HLD' := Lib.hid hL'
        have HEQ := Lib.hid (fun w => (eql_Proc a a w).trans (by rw [qProc_refl] : _ = Result.ok (.bool true) w))
        clear hL hL'
        have X := cell_regrown x3
        have Y := cell_regrown y3
        go_wp2
        refine wp_region_quiet_below (by kernel_rfl) (by kernel_rfl) ?_
        iterate 6 (first | go_big_quiet_step (fail) | quiet_step (fail))
        refine wpQuiet_loadw _ _ rfl rfl rfl HLD.out ?_
        iterate 4 (first | go_big_quiet_step (fail) | quiet_step (fail))
        refine wpQuiet_loadw _ _ rfl rfl rfl HLD'.out ?_
        refine wpQuiet_eqs _ _ _ _ _ rfl rfl rfl rfl gdProc HEQ.out ?_
        iterate 2 (first | go_big_quiet_step (fail) | quiet_step (fail))
        refine wpQuiet_nil ?_
        intro _ hw'
        obtain ⟨⟨dq, osq⟩, hw''⟩ := hw'
        subst hw''
        go_wp2
        go_roundw
        case rel => exact ⟨k + 1, by omega, by go_num, rfl, Lib.hid (below2 HB0.out (below_regrown _ dq osq))⟩
        case measure => simp [intOf]; omega
    · go_wp2
      clear x3 y3
      go_loopw [5, 7, 8] (fun ok i _ wr => ∃ k : Nat, k ≤ n4 ∧ i = .int .i64 k ∧ ok = .bool true ∧ Hid (Below N.heap.size N wr)) (fun _ i _ _ => n4 - (intOf i).toNat)
      case atStart => exact ⟨0, Nat.zero_le _, rfl, rfl, HB0⟩
      case round =>
        obtain ⟨k, hk, rfl, rfl, HB1⟩ := hrel
        have hn : n4 ≤ 140737488355328 := by have h1 := HS.out.insts.1; have h2 := HF.out; simp only at h1; unfold GSt.fits at h2; omega
        have x4 : wr.cell? ⟨w.heap.size, 4, none⟩ = some (.slice A4 n4 c4) := cell_of_blk (block_below HB1.out HBX.out) 4
        have y4 : wr.cell? ⟨w.heap.size + 1, 4, none⟩ = some (.slice A4' n4 c4') := cell_of_blk (block_below HB1.out HBY.out) 4
        by_cases hlt : k < n4
        · as_aux_lemma =>
            obtain ⟨B, O, hA, _, hc⟩ := HS.out.insts.elem lenInst (by simp only; omega)
            obtain ⟨B', O', hA', _, hc'⟩ := HS'.out.insts.elem lenInst (by simp only; omega)
            simp only at hA hA'
            subst hA hA'
            have hl1 : k < g.insts.length := by rw [HS.out.insts.1]; exact hlt
            have hl2 : k < g'.insts.length := by rw [← HLInst.out]; exact hl1
            have HBW := Lib.hid (below2 HNB.out HB1.out)
            have HC := Lib.hid (fun j u hu => cell_below HBW.out (hc k hl1 j u hu))
            have HC' := Lib.hid (fun j u hu => cell_below HBW.out (hc' k hl2 j u hu))
            have hE : pureInst g.insts[k] = pureInst g'.insts[k] := by have h := HKInst.out; have h2 : (g.insts.map pureInst)[k]? = (g'.insts.map pureInst)[k]? := (by rw [h]); simpa [hl1, hl2] using h2
            have HV := Lib.hid ((HS.out.vinst g.insts[k] (List.getElem_mem _)).below (S' := fun _ => True) HBW.out (fun _ _ _ => trivial))
            have HV' := Lib.hid ((HS'.out.vinst g'.insts[k] (List.getElem_mem _)).below (S' := fun _ => True) HBW.out (fun _ _ _ => trivial))
            clear hc hc'
            generalize g.insts[k] = a at *
            generalize g'.insts[k] = a' at *
            clear hl1 hl2
            obtain ⟨q0, q1, q2⟩ : a'.key = a.key ∧ a'.id = a.id ∧ a'.vars = a.vars := by
              unfold pureInst at hE; rw [EInst.mk.injEq] at hE; simp only [and_true, true_and] at hE; obtain ⟨q0, q1, q2⟩ := hE; exact ⟨q0.symm, q1.symm, q2.symm⟩
            have hvq : true = true ↔ a.vars = a'.vars := by rw [q2]; simp
            have HVQ := Lib.hid hvq
            clear hvq hE
            have c0 : wr.cell? ⟨B, O + k * 3, none⟩ = some (.int .u64 a.key) := HC.out 0 _ rfl
            have d0 : wr.cell? ⟨B', O' + k * 3, none⟩ = some (.int .u64 a.key) := by rw [← q0]; exact HC'.out 0 _ rfl
            have c1 : wr.cell? ⟨B, O + k * 3 + 1, none⟩ = some (.string a.id) := HC.out 1 _ rfl
            have d1 : wr.cell? ⟨B', O' + k * 3 + 1, none⟩ = some (.string a.id) := by rw [← q1]; exact HC'.out 1 _ rfl
            have c2 : wr.cell? ⟨B, O + k * 3 + 2, none⟩ = some (.slice a.vA a.vN a.vC) := HC.out 2 _ rfl
            have d2 : wr.cell? ⟨B', O' + k * 3 + 2, none⟩ = some (.slice a'.vA a'.vN a'.vC) := HC'.out 2 _ rfl
            clear q0 q1 q2
            have HR := Lib.hid (fun d os => Calls.regrown_of (ref9_Same (fun _ => True) a.vars a'.vars a.vN a'.vN (.slice a.vA a.vN a.vC) (.slice a'.vA a'.vN a'.vC) true (grow (redrawn wr d) os) HV.out.1 HV'.out.1 (HV.out.2.2.below (below_regrown wr d os)) (HV'.out.2.2.below (below_regrown wr d os)) HVQ.out))
            have X := cell_regrown x4
            have Y := cell_regrown y4
            have C2 := cell_regrown c2
            have D2 := cell_regrown d2
            go_wp2
            refine wp_region_quiet_below (by kernel_rfl) (by kernel_rfl) ?_
            iterate 12 (first | go_big_quiet_step (fail) | quiet_step (fail))
            (first | go_big_quiet_step ((go_at_call 21; exact HR.out _ _)) | quiet_step ((go_at_call 21; exact HR.out _ _)))
            (first | go_big_quiet_step (fail) | quiet_step (fail))
            refine wpQuiet_nil ?_
            intro _ hw'
            obtain ⟨⟨dq, osq⟩, hw''⟩ := hw'
            subst hw''
            have HB1 := Lib.hid (below2 HB1.out (below_regrown wr dq osq))
            have Xw := X dq osq
            have Yw := Y dq osq
            have C0w := (cell_regrown c0) dq osq
            have C1w := (cell_regrown c1) dq osq
            have D0w := (cell_regrown d0) dq osq
            have D1w := (cell_regrown d1) dq osq
            clear X Y C2 D2 x4 y4 c0 c1 c2 d0 d1 d2
            generalize grow (redrawn wr dq) osq = W1 at *
            have X := cell_regrown Xw
            have Y := cell_regrown Yw
            have C0 := cell_regrown C0w
            have C1 := cell_regrown C1w
            have D0 := cell_regrown D0w
            have D1 := cell_regrown D1w
            clear Xw Yw C0w C1w D0w D1w HR HV HV'
            go_wp2
            refine wp_region_quiet_below (by kernel_rfl) (by kernel_rfl) ?_
            repeat (first | go_big_quiet_step (fail) | quiet_step (fail))
            refine wpQuiet_nil ?_
            intro _ hw'
            obtain ⟨⟨dq, osq⟩, hw''⟩ := hw'
            subst hw''
            go_wp2
            go_roundw
            case rel => exact ⟨k + 1, by omega, by go_num, rfl, Lib.hid (below2 HB1.out (below_regrown _ dq osq))⟩
            case measure => simp [intOf]; omega
        · go_wp2
          clear x4 y4
          go_loopw [5, 9] (fun ok i wr => ∃ k : Nat, k ≤ n5 ∧ i = .int .i64 k ∧ ok = .bool true ∧ Hid (Below N.heap.size N wr)) (fun _ i _ => n5 - (intOf i).toNat)
          case atStart => exact ⟨0, Nat.zero_le _, rfl, rfl, HB1⟩
          case round =>
            obtain ⟨k, hk, rfl, rfl, HB2⟩ := hrel
            have hn : n5 ≤ 140737488355328 := by have h1 := HS.out.tokens.1; have h2 := HF.out; simp only at h1; unfold GSt.fits at h2; omega
            have x5 : wr.cell? ⟨w.heap.size, 5, none⟩ = some (.slice A5 n5 c5) := cell_of_blk (block_below HB2.out HBX.out) 5
            have y5 : wr.cell? ⟨w.heap.size + 1, 5, none⟩ = some (.slice A5' n5 c5') := cell_of_blk (block_below HB2.out HBY.out) 5
            by_cases hlt : k < n5
            · as_aux_lemma =>
                obtain ⟨B, O, hA, _, hc⟩ := HS.out.tokens.elem lenTok (by simp only; omega)
                obtain ⟨B', O', hA', _, hc'⟩ := HS'.out.tokens.elem lenTok (by simp only; omega)
                simp only at hA hA'
                subst hA hA'
                have hl1 : k < g.tokens.length := by rw [HS.out.tokens.1]; exact hlt
                have hl2 : k < g'.tokens.length := by rw [← HLTok.out]; exact hl1
                have HBW := Lib.hid (below2 HNB.out HB2.out)
                have HC := Lib.hid (fun j u hu => cell_below HBW.out (hc k hl1 j u hu))
                have HC' := Lib.hid (fun j u hu => cell_below HBW.out (hc' k hl2 j u hu))
                have hE : g'.tokens[k] = g.tokens[k] := by simp only [HKTok.out]
                rw [hE] at HC'
                clear hc hc'
                generalize g.tokens[k] = a at *
                generalize g'.tokens[k] = a' at *
                clear hl1 hl2 hE
                have hL := load_at_re bTok (encTok a) rfl HC.out
                have hL' := load_at_re bTok (encTok a) rfl HC'.out
                have HLD := Lib.hid hL
                have HLD' := Lib.hid hL'
                have HEQ := Lib.hid (fun w => (eql_Tok a a w).trans (by rw [qTok_refl] : _ = Result.ok (.bool true) w))
                clear hL hL'
                have X := cell_regrown x5
                have Y := cell_regrown y5
                go_wp2
                refine wp_region_quiet_below (by kernel_rfl) (by kernel_rfl) ?_
                iterate 6 (first | go_big_quiet_step (fail) | quiet_step (fail))
                refine wpQuiet_loadw _ _ rfl rfl rfl HLD.out ?_
                iterate 4 (first | go_big_quiet_step (fail) | quiet_step (fail))
                refine wpQuiet_loadw _ _ rfl rfl rfl HLD'.out ?_
                refine wpQuiet_eqs _ _ _ _ _ rfl rfl rfl rfl gdTok HEQ.out ?_
                iterate 2 (first | go_big_quiet_step (fail) | quiet_step (fail))
                refine wpQuiet_nil ?_
                intro _ hw'
                obtain ⟨⟨dq, osq⟩, hw''⟩ := hw'
                subst hw''
                go_wp2
                go_roundw
                case rel => exact ⟨k + 1, by omega, by go_num, rfl, Lib.hid (below2 HB2.out (below_regrown _ dq osq))⟩
                case measure => simp [intOf]; omega
            · go_wp2
              clear x5 y5
              go_loopw [5, 10] (fun ok i wr => ∃ k : Nat, k ≤ n6 ∧ i = .int .i64 k ∧ ok = .bool true ∧ Hid (Below N.heap.size N wr)) (fun _ i _ => n6 - (intOf i).toNat)
              case atStart => exact ⟨0, Nat.zero_le _, rfl, rfl, HB2⟩
              case round =>
                obtain ⟨k, hk, rfl, rfl, HB3⟩ := hrel
                have hn : n6 ≤ 140737488355328 := by have h1 := HS.out.jobs.1; have h2 := HF.out; simp only at h1; unfold GSt.fits at h2; omega
                have x6 : wr.cell? ⟨w.heap.size, 6, none⟩ = some (.slice A6 n6 c6) := cell_of_blk (block_below HB3.out HBX.out) 6
                have y6 : wr.cell? ⟨w.heap.size + 1, 6, none⟩ = some (.slice A6' n6 c6') := cell_of_blk (block_below HB3.out HBY.out) 6
                by_cases hlt : k < n6
                · as_aux_lemma =>
                    obtain ⟨B, O, hA, _, hc⟩ := HS.out.jobs.elem lenJob (by simp only; omega)
                    obtain ⟨B', O', hA', _, hc'⟩ := HS'.out.jobs.elem lenJob (by simp only; omega)
                    simp only at hA hA'
                    subst hA hA'
                    have hl1 : k < g.jobs.length := by rw [HS.out.jobs.1]; exact hlt
                    have hl2 : k < g'.jobs.length := by rw [← HLJob.out]; exact hl1
                    have HBW := Lib.hid (below2 HNB.out HB3.out)
                    have HC := Lib.hid (fun j u hu => cell_below HBW.out (hc k hl1 j u hu))
                    have HC' := Lib.hid (fun j u hu => cell_below HBW.out (hc' k hl2 j u hu))
                    have hE : g'.jobs[k] = g.jobs[k] := by simp only [HKJob.out]
                    rw [hE] at HC'
                    clear hc hc'
                    generalize g.jobs[k] = a at *
                    generalize g'.jobs[k] = a' at *
                    clear hl1 hl2 hE
                    have hL := load_at_re bJob (encJob a) rfl HC.out
                    have hL' := load_at_re bJob (encJob a) rfl HC'.out
                    have HLD := Lib.hid hL
                    have HLD' := Lib.hid hL'
                    have HEQ := Lib.hid (fun w => (eql_Job a a w).trans (by rw [qJob_refl] : _ = Result.ok (.bool true) w))
                    clear hL hL'
                    have X := cell_regrown x6
                    have Y := cell_regrown y6
                    go_wp2
                    refine wp_region_quiet_below (by kernel_rfl) (by kernel_rfl) ?_
                    iterate 6 (first | go_big_quiet_step (fail) | quiet_step (fail))
                    refine wpQuiet_loadw _ _ rfl rfl rfl HLD.out ?_
                    iterate 4 (first | go_big_quiet_step (fail) | quiet_step (fail))
                    refine wpQuiet_loadw _ _ rfl rfl rfl HLD'.out ?_
                    refine wpQuiet_eqs _ _ _ _ _ rfl rfl rfl rfl gdJob HEQ.out ?_
                    iterate 2 (first | go_big_quiet_step (fail) | quiet_step (fail))
                    refine wpQuiet_nil ?_
                    intro _ hw'
                    obtain ⟨⟨dq, osq⟩, hw''⟩ := hw'
                    subst hw''
                    go_wp2
                    go_roundw
                    case rel => exact ⟨k + 1, by omega, by go_num, rfl, Lib.hid (below2 HB3.out (below_regrown _ dq osq))⟩
                    case measure => simp [intOf]; omega
                · go_wp2
                  clear x6 y6
                  go_loopw [5, 11] (fun ok i wr => ∃ k : Nat, k ≤ n7 ∧ i = .int .i64 k ∧ ok = .bool true ∧ Hid (Below N.heap.size N wr)) (fun _ i _ => n7 - (intOf i).toNat)
                  case atStart => exact ⟨0, Nat.zero_le _, rfl, rfl, HB3⟩
                  case round =>
                    obtain ⟨k, hk, rfl, rfl, HB4⟩ := hrel
                    have hn : n7 ≤ 140737488355328 := by have h1 := HS.out.timers.1; have h2 := HF.out; simp only at h1; unfold GSt.fits at h2; omega
                    have x7 : wr.cell? ⟨w.heap.size, 7, none⟩ = some (.slice A7 n7 c7) := cell_of_blk (block_below HB4.out HBX.out) 7
                    have y7 : wr.cell? ⟨w.heap.size + 1, 7, none⟩ = some (.slice A7' n7 c7') := cell_of_blk (block_below HB4.out HBY.out) 7
                    by_cases hlt : k < n7
                    · as_aux_lemma =>
                        obtain ⟨B, O, hA, _, hc⟩ := HS.out.timers.elem lenTim (by simp only; omega)
                        obtain ⟨B', O', hA', _, hc'⟩ := HS'.out.timers.elem lenTim (by simp only; omega)
                        simp only at hA hA'
                        subst hA hA'
                        have hl1 : k < g.timers.length := by rw [HS.out.timers.1]; exact hlt
                        have hl2 : k < g'.timers.length := by rw [← HLTim.out]; exact hl1
                        have HBW := Lib.hid (below2 HNB.out HB4.out)
                        have HC := Lib.hid (fun j u hu => cell_below HBW.out (hc k hl1 j u hu))
                        have HC' := Lib.hid (fun j u hu => cell_below HBW.out (hc' k hl2 j u hu))
                        have hE : g'.timers[k] = g.timers[k] := by simp only [HKTim.out]
                        rw [hE] at HC'
                        clear hc hc'
                        generalize g.timers[k] = a at *
                        generalize g'.timers[k] = a' at *
                        clear hl1 hl2 hE
                        have hL := load_at_re bTim (encTim a) rfl HC.out
                        have hL' := load_at_re bTim (encTim a) rfl HC'.out
                        have HLD := Lib.hid hL
                        have HLD' := Lib.hid hL'
                        have HEQ := Lib.hid (fun w => (eql_Tim a a w).trans (by rw [qTim_refl] : _ = Result.ok (.bool true) w))
                        clear hL hL'
                        have X := cell_regrown x7
                        have Y := cell_regrown y7
                        go_wp2
                        refine wp_region_quiet_below (by kernel_rfl) (by kernel_rfl) ?_
                        iterate 6 (first | go_big_quiet_step (fail) | quiet_step (fail))
                        refine wpQuiet_loadw _ _ rfl rfl rfl HLD.out ?_
                        iterate 4 (first | go_big_quiet_step (fail) | quiet_step (fail))
                        refine wpQuiet_loadw _ _ rfl rfl rfl HLD'.out ?_
                        refine wpQuiet_eqs _ _ _ _ _ rfl rfl rfl rfl gdTim HEQ.out ?_
                        iterate 2 (first | go_big_quiet_step (fail) | quiet_step (fail))
                        refine wpQuiet_nil ?_
                        intro _ hw'
                        obtain ⟨⟨dq, osq⟩, hw''⟩ := hw'
                        subst hw''
                        go_wp2
                        go_roundw
                        case rel => exact ⟨k + 1, by omega, by go_num, rfl, Lib.hid (below2 HB4.out (below_regrown _ dq osq))⟩
                        case measure => simp [intOf]; omega
                    · go_wp2
                      clear x7 y7
                      go_loopw [5, 12] (fun ok i wr => ∃ k : Nat, k ≤ n8 ∧ i = .int .i64 k ∧ ok = .bool true ∧ Hid (Below N.heap.size N wr)) (fun _ i _ => n8 - (intOf i).toNat)
                      case atStart => exact ⟨0, Nat.zero_le _, rfl, rfl, HB4⟩
                      case round =>
                        obtain ⟨k, hk, rfl, rfl, HB5⟩ := hrel
                        have hn : n8 ≤ 140737488355328 := by have h1 := HS.out.subs.1; have h2 := HF.out; simp only at h1; unfold GSt.fits at h2; omega
                        have x8 : wr.cell? ⟨w.heap.size, 8, none⟩ = some (.slice A8 n8 c8) := cell_of_blk (block_below HB5.out HBX.out) 8
                        have y8 : wr.cell? ⟨w.heap.size + 1, 8, none⟩ = some (.slice A8' n8 c8') := cell_of_blk (block_below HB5.out HBY.out) 8
                        by_cases hlt : k < n8
                        · as_aux_lemma =>
                            obtain ⟨B, O, hA, _, hc⟩ := HS.out.subs.elem lenSub (by simp only; omega)
                            obtain ⟨B', O', hA', _, hc'⟩ := HS'.out.subs.elem lenSub (by simp only; omega)
                            simp only at hA hA'
                            subst hA hA'
                            have hl1 : k < g.subs.length := by rw [HS.out.subs.1]; exact hlt
                            have hl2 : k < g'.subs.length := by rw [← HLSub.out]; exact hl1
                            have HBW := Lib.hid (below2 HNB.out HB5.out)
                            have HC := Lib.hid (fun j u hu => cell_below HBW.out (hc k hl1 j u hu))
                            have HC' := Lib.hid (fun j u hu => cell_below HBW.out (hc' k hl2 j u hu))
                            have hE : g'.subs[k] = g.subs[k] := by simp only [HKSub.out]
                            rw [hE] at HC'
                            clear hc hc'
                            generalize g.subs[k] = a at *
                            generalize g'.subs[k] = a' at *
                            clear hl1 hl2 hE
                            have hL := load_at_re bSub (encSub a) rfl HC.out
                            have hL' := load_at_re bSub (encSub a) rfl HC'.out
                            have HLD := Lib.hid hL
                            have HLD' := Lib.hid hL'
                            have HEQ := Lib.hid (fun w => (eql_Sub a a w).trans (by rw [qSub_refl] : _ = Result.ok (.bool true) w))
                            clear hL hL'
                            have X := cell_regrown x8
                            have Y := cell_regrown y8
                            go_wp2
                            refine wp_region_quiet_below (by kernel_rfl) (by kernel_rfl) ?_
                            iterate 6 (first | go_big_quiet_step (fail) | quiet_step (fail))
                            refine wpQuiet_loadw _ _ rfl rfl rfl HLD.out ?_
                            iterate 4 (first | go_big_quiet_step (fail) | quiet_step (fail))
                            refine wpQuiet_loadw _ _ rfl rfl rfl HLD'.out ?_
                            refine wpQuiet_eqs _ _ _ _ _ rfl rfl rfl rfl gdSub HEQ.out ?_
                            iterate 2 (first | go_big_quiet_step (fail) | quiet_step (fail))
                            refine wpQuiet_nil ?_
                            intro _ hw'
                            obtain ⟨⟨dq, osq⟩, hw''⟩ := hw'
                            subst hw''
                            go_wp2
                            go_roundw
                            case rel => exact ⟨k + 1, by omega, by go_num, rfl, Lib.hid (below2 HB5.out (below_regrown _ dq osq))⟩
                            case measure => simp [intOf]; omega
                        · go_wp2
                          clear x8 y8
                          go_loopw [5, 13] (fun ok i wr => ∃ k : Nat, k ≤ n9 ∧ i = .int .i64 k ∧ ok = .bool true ∧ Hid (Below N.heap.size N wr)) (fun _ i _ => n9 - (intOf i).toNat)
                          case atStart => exact ⟨0, Nat.zero_le _, rfl, rfl, HB5⟩
                          case round =>
                            obtain ⟨k, hk, rfl, rfl, HB6⟩ := hrel
                            have hn : n9 ≤ 140737488355328 := by have h1 := HS.out.kept.1; have h2 := HF.out; simp only at h1; unfold GSt.fits at h2; omega
                            have x9 : wr.cell? ⟨w.heap.size, 9, none⟩ = some (.slice A9 n9 c9) := cell_of_blk (block_below HB6.out HBX.out) 9
                            have y9 : wr.cell? ⟨w.heap.size + 1, 9, none⟩ = some (.slice A9' n9 c9') := cell_of_blk (block_below HB6.out HBY.out) 9
                            by_cases hlt : k < n9
                            · as_aux_lemma =>
                                obtain ⟨B, O, hA, _, hc⟩ := HS.out.kept.elem lenKept (by simp only; omega)
                                obtain ⟨B', O', hA', _, hc'⟩ := HS'.out.kept.elem lenKept (by simp only; omega)
                                simp only at hA hA'
                                subst hA hA'
                                have hl1 : k < g.kept.length := by rw [HS.out.kept.1]; exact hlt
                                have hl2 : k < g'.kept.length := by rw [← HLKept.out]; exact hl1
                                have HBW := Lib.hid (below2 HNB.out HB6.out)
                                have HC := Lib.hid (fun j u hu => cell_below HBW.out (hc k hl1 j u hu))
                                have HC' := Lib.hid (fun j u hu => cell_below HBW.out (hc' k hl2 j u hu))
                                have hE : g'.kept[k] = g.kept[k] := by simp only [HKKept.out]
                                rw [hE] at HC'
                                clear hc hc'
                                generalize g.kept[k] = a at *
                                generalize g'.kept[k] = a' at *
                                clear hl1 hl2 hE
                                have hL := load_at_re bKept (encKept a) rfl HC.out
                                have hL' := load_at_re bKept (encKept a) rfl HC'.out
                                have HLD := Lib.hid hL
                                have HLD' := Lib.hid hL'
                                have HEQ := Lib.hid (fun w => (eql_Kept a a w).trans (by rw [qKept_refl] : _ = Result.ok (.bool true) w))
                                clear hL hL'
                                have X := cell_regrown x9
                                have Y := cell_regrown y9
                                go_wp2
                                refine wp_region_quiet_below (by kernel_rfl) (by kernel_rfl) ?_
                                iterate 6 (first | go_big_quiet_step (fail) | quiet_step (fail))
                                refine wpQuiet_loadw _ _ rfl rfl rfl HLD.out ?_
                                iterate 4 (first | go_big_quiet_step (fail) | quiet_step (fail))
                                refine wpQuiet_loadw _ _ rfl rfl rfl HLD'.out ?_
                                refine wpQuiet_eqs _ _ _ _ _ rfl rfl rfl rfl gdKept HEQ.out ?_
                                iterate 2 (first | go_big_quiet_step (fail) | quiet_step (fail))
                                refine wpQuiet_nil ?_
                                intro _ hw'
                                obtain ⟨⟨dq, osq⟩, hw''⟩ := hw'
                                subst hw''
                                go_wp2
                                go_roundw
                                case rel => exact ⟨k + 1, by omega, by go_num, rfl, Lib.hid (below2 HB6.out (below_regrown _ dq osq))⟩
                                case measure => simp [intOf]; omega
                            · go_wp2
                              clear x9 y9
                              go_loopw [5, 14, 15, 16, 17] (fun ok i _ _ _ wr => ∃ k : Nat, k ≤ n10 ∧ i = .int .i64 k ∧ ok = .bool true ∧ Hid (Below N.heap.size N wr)) (fun _ i _ _ _ _ => n10 - (intOf i).toNat)
                              case atStart => exact ⟨0, Nat.zero_le _, rfl, rfl, HB6⟩
                              case round =>
                                obtain ⟨k, hk, rfl, rfl, HB7⟩ := hrel
                                have hn : n10 ≤ 140737488355328 := by have h1 := HS.out.listed.1; have h2 := HF.out; simp only at h1; unfold GSt.fits at h2; omega
                                have x10 : wr.cell? ⟨w.heap.size, 10, none⟩ = some (.slice A10 n10 c10) := cell_of_blk (block_below HB7.out HBX.out) 10
                                have y10 : wr.cell? ⟨w.heap.size + 1, 10, none⟩ = some (.slice A10' n10 c10') := cell_of_blk (block_below HB7.out HBY.out) 10
                                by_cases hlt : k < n10
                                · as_aux_lemma =>
                                    obtain ⟨B, O, hA, _, hc⟩ := HS.out.listed.elem lenLst (by simp only; omega)
                                    obtain ⟨B', O', hA', _, hc'⟩ := HS'.out.listed.elem lenLst (by simp only; omega)
                                    simp only at hA hA'
                                    subst hA hA'
                                    have hl1 : k < g.listed.length := by rw [HS.out.listed.1]; exact hlt
                                    have hl2 : k < g'.listed.length := by rw [← HLLst.out]; exact hl1
                                    have HBW := Lib.hid (below2 HNB.out HB7.out)
                                    have HC := Lib.hid (fun j u hu => cell_below HBW.out (hc k hl1 j u hu))
                                    have HC' := Lib.hid (fun j u hu => cell_below HBW.out (hc' k hl2 j u hu))
                                    have hE : pureLst g.listed[k] = pureLst g'.listed[k] := by have h := HKLst.out; have h2 : (g.listed.map pureLst)[k]? = (g'.listed.map pureLst)[k]? := (by rw [h]); simpa [hl1, hl2] using h2
                                    have HV := Lib.hid ((HS.out.vlist g.listed[k] (List.getElem_mem _)).below (S' := fun _ => True) HBW.out (fun _ _ _ => trivial))
                                    have HV' := Lib.hid ((HS'.out.vlist g'.listed[k] (List.getElem_mem _)).below (S' := fun _ => True) HBW.out (fun _ _ _ => trivial))
                                    clear hc hc'
                                    generalize g.listed[k] = a at *
                                    generalize g'.listed[k] = a' at *
                                    clear hl1 hl2
                                    obtain ⟨q0, q1, q2, q3, q4, q5, q6⟩ : a'.token = a.token ∧ a'.inst = a.inst ∧ a'.node = a.node ∧ a'.name = a.name ∧ a'.key = a.key ∧ a'.message = a.message ∧ a'.vars = a.vars := by
                                      unfold pureLst at hE; rw [ELst.mk.injEq] at hE; simp only [and_true, true_and] at hE; obtain ⟨q0, q1, q2, q3, q4, q5, q6⟩ := hE; exact ⟨q0.symm, q1.symm, q2.symm, q3.symm, q4.symm, q5.symm, q6.symm⟩
                                    have hvq : true = true ↔ a.vars = a'.vars := by rw [q6]; simp
                                    have HVQ := Lib.hid hvq
                                    clear hvq hE
                                    have c0 : wr.cell? ⟨B, O + k * 7, none⟩ = some (.int .u64 a.token) := HC.out 0 _ rfl
                                    have d0 : wr.cell? ⟨B', O' + k * 7, none⟩ = some (.int .u64 a.token) := by rw [← q0]; exact HC'.out 0 _ rfl
                                    have c1 : wr.cell? ⟨B, O + k * 7 + 1, none⟩ = some (.int .u64 a.inst) := HC.out 1 _ rfl
                                    have d1 : wr.cell? ⟨B', O' + k * 7 + 1, none⟩ = some (.int .u64 a.inst) := by rw [← q1]; exact HC'.out 1 _ rfl
                                    have c2 : wr.cell? ⟨B, O + k * 7 + 2, none⟩ = some (.int .i64 a.node) := HC.out 2 _ rfl
                                    have d2 : wr.cell? ⟨B', O' + k * 7 + 2, none⟩ = some (.int .i64 a.node) := by rw [← q2]; exact HC'.out 2 _ rfl
                                    have c3 : wr.cell? ⟨B, O + k * 7 + 3, none⟩ = some (.string a.name) := HC.out 3 _ rfl
                                    have d3 : wr.cell? ⟨B', O' + k * 7 + 3, none⟩ = some (.string a.name) := by rw [← q3]; exact HC'.out 3 _ rfl
                                    have c4 : wr.cell? ⟨B, O + k * 7 + 4, none⟩ = some (.string a.key) := HC.out 4 _ rfl
                                    have d4 : wr.cell? ⟨B', O' + k * 7 + 4, none⟩ = some (.string a.key) := by rw [← q4]; exact HC'.out 4 _ rfl
                                    have c5 : wr.cell? ⟨B, O + k * 7 + 5, none⟩ = some (.int .u64 a.message) := HC.out 5 _ rfl
                                    have d5 : wr.cell? ⟨B', O' + k * 7 + 5, none⟩ = some (.int .u64 a.message) := by rw [← q5]; exact HC'.out 5 _ rfl
                                    have c6 : wr.cell? ⟨B, O + k * 7 + 6, none⟩ = some (.slice a.vA a.vN a.vC) := HC.out 6 _ rfl
                                    have d6 : wr.cell? ⟨B', O' + k * 7 + 6, none⟩ = some (.slice a'.vA a'.vN a'.vC) := HC'.out 6 _ rfl
                                    clear q0 q1 q2 q3 q4 q5 q6
                                    have HR := Lib.hid (fun (W : World) (hb : Below wr.heap.size wr W) => ref9_Same (fun _ => True) a.vars a'.vars a.vN a'.vN (.slice a.vA a.vN a.vC) (.slice a'.vA a'.vN a'.vC) true W HV.out.1 HV'.out.1 (HV.out.2.2.below hb) (HV'.out.2.2.below hb) HVQ.out)
                                    have hlw : w.heap.size + 1 < wr.heap.size := lt_of_blk (block_below HB7.out HBY.out)
                                    have hlB : B < wr.heap.size := World.block_lt_of_cell? _ _ c0
                                    have hlB' : B' < wr.heap.size := World.block_lt_of_cell? _ _ d0
                                    have e0a : w.heap.size ≠ wr.heap.size := by omega
                                    have e0b : wr.heap.size ≠ w.heap.size := by omega
                                    have e1a : w.heap.size + 1 ≠ wr.heap.size := by omega
                                    have e1b : wr.heap.size ≠ w.heap.size + 1 := by omega
                                    have e2a : B ≠ wr.heap.size := by omega
                                    have e2b : wr.heap.size ≠ B := by omega
                                    have e3a : B' ≠ wr.heap.size := by omega
                                    have e3b : wr.heap.size ≠ B' := by omega
                                    go_wp2_with (go_at_call 21; refine (HR.out _ (below_alloc (below_alloc (Below.refl _ _) _) _)).mono ?_; rintro e W1 ⟨rfl, hb⟩; have kx := block_below hb (blk_alloc (blk_new (.cells #[.int .u64 a.token, .int .u64 a.inst, .int .i64 a.node, .string a.name, .string a.key, .int .u64 a.message, .slice a.vA a.vN a.vC] 68)) _); have ky := block_below hb (blk_new_of (n := wr.heap.size + 1) (.cells #[.int .u64 a.token, .int .u64 a.inst, .int .i64 a.node, .string a.name, .string a.key, .int .u64 a.message, .slice a'.vA a'.vN a'.vC] 68) (by simp)); have HB1N := Lib.hid (below2 HB7.out (below2 (below_alloc (below_alloc (Below.refl wr.heap.size wr) _) _) hb)); have HB2 := Lib.hid (below2 (below_alloc (below_alloc (Below.refl wr.heap.size wr) _) _) hb); clear hb c0 c1 c2 c3 c4 c5 c6 d0 d1 d2 d3 d4 d5 d6 e0a e0b e1a e1b e2a e2b e3a e3b; have c0 := cell_of_blk kx 0; have d0 := cell_of_blk ky 0; have c1 := cell_of_blk kx 1; have d1 := cell_of_blk ky 1; have c2 := cell_of_blk kx 2; have d2 := cell_of_blk ky 2; have c3 := cell_of_blk kx 3; have d3 := cell_of_blk ky 3; have c4 := cell_of_blk kx 4; have d4 := cell_of_blk ky 4; have c5 := cell_of_blk kx 5; have d5 := cell_of_blk ky 5; have c6 := cell_of_blk kx 6; have d6 := cell_of_blk ky 6)
                                    go_roundw
                                    case rel => exact ⟨k + 1, by omega, by go_num, rfl, HB1N⟩
                                    case measure => simp [intOf]; omega
                                · go_wp2
                                  clear x10 y10
                                  go_loopw [5, 18, 19, 20, 21, 22] (fun ok i _ _ _ _ wr => ∃ k : Nat, k ≤ n11 ∧ i = .int .i64 k ∧ ok = .bool true ∧ Hid (Below N.heap.size N wr)) (fun _ i _ _ _ _ _ => n11 - (intOf i).toNat)
                                  case atStart => exact ⟨0, Nat.zero_le _, rfl, rfl, HB7⟩
                                  case round =>
                                    obtain ⟨k, hk, rfl, rfl, HB8⟩ := hrel
                                    have hn : n11 ≤ 140737488355328 := by have h1 := HS.out.msgs.1; have h2 := HF.out; simp only at h1; unfold GSt.fits at h2; omega
                                    have x11 : wr.cell? ⟨w.heap.size, 11, none⟩ = some (.slice A11 n11 c11) := cell_of_blk (block_below HB8.out HBX.out) 11
                                    have y11 : wr.cell? ⟨w.heap.size + 1, 11, none⟩ = some (.slice A11' n11 c11') := cell_of_blk (block_below HB8.out HBY.out) 11
                                    by_cases hlt : k < n11
                                    · as_aux_lemma =>
                                        obtain ⟨B, O, hA, _, hc⟩ := HS.out.msgs.elem lenMsg (by simp only; omega)
                                        obtain ⟨B', O', hA', _, hc'⟩ := HS'.out.msgs.elem lenMsg (by simp only; omega)
                                        simp only at hA hA'
                                        subst hA hA'
                                        have hl1 : k < g.msgs.length := by rw [HS.out.msgs.1]; exact hlt
                                        have hl2 : k < g'.msgs.length := by rw [← HLMsg.out]; exact hl1
                                        have HBW := Lib.hid (below2 HNB.out HB8.out)
                                        have HC := Lib.hid (fun j u hu => cell_below HBW.out (hc k hl1 j u hu))
                                        have HC' := Lib.hid (fun j u hu => cell_below HBW.out (hc' k hl2 j u hu))
                                        have hE : pureMsg g.msgs[k] = pureMsg g'.msgs[k] := by have h := HKMsg.out; have h2 : (g.msgs.map pureMsg)[k]? = (g'.msgs.map pureMsg)[k]? := (by rw [h]); simpa [hl1, hl2] using h2
                                        have HV := Lib.hid ((HS.out.vmsg g.msgs[k] (List.getElem_mem _)).below (S' := fun _ => True) HBW.out (fun _ _ _ => trivial))
                                        have HV' := Lib.hid ((HS'.out.vmsg g'.msgs[k] (List.getElem_mem _)).below (S' := fun _ => True) HBW.out (fun _ _ _ => trivial))
                                        have HI := Lib.hid ((HS.out.imsg g.msgs[k] (List.getElem_mem _)).below (S' := fun _ => True) HBW.out (fun _ _ _ => trivial))
                                        have HI' := Lib.hid ((HS'.out.imsg g'.msgs[k] (List.getElem_mem _)).below (S' := fun _ => True) HBW.out (fun _ _ _ => trivial))
                                        clear hc hc'
                                        generalize g.msgs[k] = a at *
                                        generalize g'.msgs[k] = a' at *
                                        clear hl1 hl2
                                        obtain ⟨q0, q1, q2, q3, q4, q5, q6⟩ : a'.key = a.key ∧ a'.name = a.name ∧ a'.dest = a.dest ∧ a'.id = a.id ∧ a'.till = a.till ∧ a'.vars = a.vars ∧ a'.insts = a.insts := by
                                          unfold pureMsg at hE; rw [EMsg.mk.injEq] at hE; simp only [and_true, true_and] at hE; obtain ⟨q0, q1, q2, q3, q4, q5, q6⟩ := hE; exact ⟨q0.symm, q1.symm, q2.symm, q3.symm, q4.symm, q5.symm, q6.symm⟩
                                        have hvq : true = true ↔ a.vars = a'.vars := by rw [q5]; simp
                                        have HVQ := Lib.hid hvq
                                        clear hvq hE
                                        have c0 : wr.cell? ⟨B, O + k * 7, none⟩ = some (.int .u64 a.key) := HC.out 0 _ rfl
                                        have d0 : wr.cell? ⟨B', O' + k * 7, none⟩ = some (.int .u64 a.key) := by rw [← q0]; exact HC'.out 0 _ rfl
                                        have c1 : wr.cell? ⟨B, O + k * 7 + 1, none⟩ = some (.string a.name) := HC.out 1 _ rfl
                                        have d1 : wr.cell? ⟨B', O' + k * 7 + 1, none⟩ = some (.string a.name) := by rw [← q1]; exact HC'.out 1 _ rfl
                                        have c2 : wr.cell? ⟨B, O + k * 7 + 2, none⟩ = some (.string a.dest) := HC.out 2 _ rfl
                                        have d2 : wr.cell? ⟨B', O' + k * 7 + 2, none⟩ = some (.string a.dest) := by rw [← q2]; exact HC'.out 2 _ rfl
                                        have c3 : wr.cell? ⟨B, O + k * 7 + 3, none⟩ = some (.string a.id) := HC.out 3 _ rfl
                                        have d3 : wr.cell? ⟨B', O' + k * 7 + 3, none⟩ = some (.string a.id) := by rw [← q3]; exact HC'.out 3 _ rfl
                                        have c4 : wr.cell? ⟨B, O + k * 7 + 4, none⟩ = some (.int .i64 a.till) := HC.out 4 _ rfl
                                        have d4 : wr.cell? ⟨B', O' + k * 7 + 4, none⟩ = some (.int .i64 a.till) := by rw [← q4]; exact HC'.out 4 _ rfl
                                        have c5 : wr.cell? ⟨B, O + k * 7 + 5, none⟩ = some (.slice a.vA a.vN a.vC) := HC.out 5 _ rfl
                                        have d5 : wr.cell? ⟨B', O' + k * 7 + 5, none⟩ = some (.slice a'.vA a'.vN a'.vC) := HC'.out 5 _ rfl
                                        have c6 : wr.cell? ⟨B, O + k * 7 + 6, none⟩ = some (.slice a.iA a.iN a.iC) := HC.out 6 _ rfl
                                        have d6 : wr.cell? ⟨B', O' + k * 7 + 6, none⟩ = some (.slice a'.iA a'.iN a'.iC) := HC'.out 6 _ rfl
                                        have HQI := Lib.hid q6
                                        clear q0 q1 q2 q3 q4 q5 q6
                                        have HR := Lib.hid (fun (W : World) (hb : Below wr.heap.size wr W) => ref9_Same (fun _ => True) a.vars a'.vars a.vN a'.vN (.slice a.vA a.vN a.vC) (.slice a'.vA a'.vN a'.vC) true W HV.out.1 HV'.out.1 (HV.out.2.2.below hb) (HV'.out.2.2.below hb) HVQ.out)
                                        have hlw : w.heap.size + 1 < wr.heap.size := lt_of_blk (block_below HB8.out HBY.out)
                                        have hlB : B < wr.heap.size := World.block_lt_of_cell? _ _ c0
                                        have hlB' : B' < wr.heap.size := World.block_lt_of_cell? _ _ d0
                                        have e0a : w.heap.size ≠ wr.heap.size := by omega
                                        have e0b : wr.heap.size ≠ w.heap.size := by omega
                                        have e1a : w.heap.size + 1 ≠ wr.heap.size := by omega
                                        have e1b : wr.heap.size ≠ w.heap.size + 1 := by omega
                                        have e2a : B ≠ wr.heap.size := by omega
                                        have e2b : wr.heap.size ≠ B := by omega
                                        have e3a : B' ≠ wr.heap.size := by omega
                                        have e3b : wr.heap.size ≠ B' := by omega
                                        go_wp2_with (go_at_call 21; refine (HR.out _ (below_alloc (below_alloc (Below.refl _ _) _) _)).mono ?_; rintro e W1 ⟨rfl, hb⟩; have kx := block_below hb (blk_alloc (blk_new (.cells #[.int .u64 a.key, .string a.name, .string a.dest, .string a.id, .int .i64 a.till, .slice a.vA a.vN a.vC, .slice a.iA a.iN a.iC] 64)) _); have ky := block_below hb (blk_new_of (n := wr.heap.size + 1) (.cells #[.int .u64 a.key, .string a.name, .string a.dest, .string a.id, .int .i64 a.till, .slice a'.vA a'.vN a'.vC, .slice a'.iA a'.iN a'.iC] 64) (by simp)); have HB1N := Lib.hid (below2 HB8.out (below2 (below_alloc (below_alloc (Below.refl wr.heap.size wr) _) _) hb)); have HB2 := Lib.hid (below2 (below_alloc (below_alloc (Below.refl wr.heap.size wr) _) _) hb); clear hb c0 c1 c2 c3 c4 c5 c6 d0 d1 d2 d3 d4 d5 d6 e0a e0b e1a e1b e2a e2b e3a e3b; have c0 := cell_of_blk kx 0; have d0 := cell_of_blk ky 0; have c1 := cell_of_blk kx 1; have d1 := cell_of_blk ky 1; have c2 := cell_of_blk kx 2; have d2 := cell_of_blk ky 2; have c3 := cell_of_blk kx 3; have d3 := cell_of_blk ky 3; have c4 := cell_of_blk kx 4; have d4 := cell_of_blk ky 4; have c5 := cell_of_blk kx 5; have d5 := cell_of_blk ky 5; have c6 := cell_of_blk kx 6; have d6 := cell_of_blk ky 6; have hii : a'.iN = a.iN := (by rw [← HI.out.1, ← HI'.out.1, HQI.out]); rw [hii] at d6; have HII := Lib.hid hii; clear hii; have KX := Lib.hid kx; have KY := Lib.hid ky; clear kx ky)
                                        go_loopw [5, 22] (fun ok m wr => ∃ i : Nat, i ≤ a.iN ∧ m = .int .i64 i ∧ ok = .bool true ∧ Hid (Below W1.heap.size W1 wr)) (fun _ m _ => a.iN - (intOf m).toNat)
                                        case atStart => exact ⟨0, Nat.zero_le _, rfl, rfl, Lib.hid (Below.refl _ _)⟩
                                        case round =>
                                          obtain ⟨i, hi1, rfl, rfl, HBi⟩ := hrel
                                          have c6 := cell_of_blk (block_below HBi.out KX.out) 6
                                          have d6 := cell_of_blk (block_below HBi.out KY.out) 6
                                          simp only [HII.out] at d6
                                          have HI1 : ListR wr (fun _ => True) 1 encU64 a.iA a.iN a.iC a.insts := HI.out.below (below2 HB2.out HBi.out) (fun _ _ _ => trivial)
                                          have HI2 : ListR wr (fun _ => True) 1 encU64 a'.iA a'.iN a'.iC a'.insts := HI'.out.below (below2 HB2.out HBi.out) (fun _ _ _ => trivial)
                                          have hni : a.iN ≤ 9223372036854775807 := by obtain ⟨_, c, _, h1, h2⟩ := HI1.2.open_; omega
                                          by_cases hm : i < a.iN
                                          · obtain ⟨Bi, Oi, hAi, _, hci⟩ := HI1.elem lenU64 (by omega)
                                            obtain ⟨Bi', Oi', hAi', _, hci'⟩ := HI2.elem lenU64 (by rw [HII.out]; omega)
                                            rw [hAi] at c6
                                            rw [hAi'] at d6
                                            have hq1 : i < a.insts.length := by rw [HI1.1]; exact hm
                                            have hq2 : i < a'.insts.length := by rw [HI2.1, HII.out]; exact hm
                                            have p1 : wr.cell? ⟨Bi, Oi + i * 1, none⟩ = some (.int .u64 a.insts[i]) := hci i hq1 0 _ rfl
                                            have p2 : wr.cell? ⟨Bi', Oi' + i * 1, none⟩ = some (.int .u64 a.insts[i]) := by have h := hci' i hq2 0 _ rfl; simp only [HQI.out] at h; exact h
                                            rw [Nat.mul_one] at p1 p2
                                            have C6 := cell_regrown c6
                                            have D6 := cell_regrown d6
                                            have P1 := cell_regrown p1
                                            have P2 := cell_regrown p2
                                            clear hci hci' HI1 HI2 hAi hAi' hq2
                                            generalize a.insts[i] = z at *
                                            go_wp2
                                            refine wp_region_quiet_below (by kernel_rfl) (by kernel_rfl) ?_
                                            repeat (first | go_big_quiet_step (fail) | quiet_step (fail))
                                            refine wpQuiet_nil ?_
                                            intro _ hw'
                                            obtain ⟨⟨dq, osq⟩, hw''⟩ := hw'
                                            subst hw''
                                            go_wp2
                                            go_roundw
                                            case rel => exact ⟨i + 1, by omega, by go_num, rfl, Lib.hid (below2 HBi.out (below_regrown _ dq osq))⟩
                                            case measure => simp [intOf]; omega
                                          · go_wp2
                                            go_roundw
                                            case rel => exact ⟨k + 1, by omega, by go_num, rfl, Lib.hid (below2 HB1N.out HBi.out)⟩
                                            case measure => simp [intOf]; omega
                                    · go_wp2
                                      clear x11 y11
                                      go_ret
                                      exact ⟨rfl, below2 HNB.out HB8.out⟩
end Go.Proofs.YtgpkmellpllmgaaGreat
/-
  The law that commands and refusals change no list. Printed by gfold21.py.
-/
set_option linter.unusedVariables false
set_option linter.unusedSimpArgs false
namespace Go.Proofs.YtgpkmellpllmgaaGreat
open Go Go.RowKit Go.Proofs.Base
open Go.Sort (grow)
theorem other_pure {pos : Int} {r : GRec} {g : GSt} (hc : r.cls ≠ 2) : applyP pos r g = { g with pos := pos, done := if r.cls = 3 then max g.done r.frm else g.done } := by
  unfold applyP
  by_cases h : r.cls = 3
  · rw [if_neg (by omega), if_neg hc, if_pos h]
  · rw [if_pos ⟨hc, h⟩, if_neg h]
theorem other_same {pos p d : Int} {r : GRec} {g g2 : GSt} (hc : r.cls ≠ 2) (h : g2.pure = applyP pos r g.pure) (hp : p = g.pos) (hd : d = g.done) : g.pure = ({ g2 with pos := p, done := d } : GSt).pure := by
  subst hp hd
  have e : ({ g2 with pos := g.pos, done := g.done } : GSt).pure = { g2.pure with pos := g.pos, done := g.done } := rfl
  rw [e, h, other_pure hc]
  rfl
set_option maxRecDepth 100000 in
set_option maxHeartbeats 8000000 in
theorem others_2g (v : StV) (g : GSt) (pos : Int) (e : ERec) (w : World) (hs : StR w (fun _ => True) v g) (hf : g.fits) (he : GoodRec w e) (hc : e.r.cls = 2) (hd : v.Dd < e.r.frm) :
    Calls Tryz.prog 4 #[.agg v.vals, .int .u64 pos, .agg #[.int .i64 e.r.cls, .int .i64 e.r.kind, .int .u64 e.r.frm, .int .i64 e.r.time, .int .u64 e.r.key, .int .u64 e.r.key2, .int .u64 e.r.key3, .int .i64 e.r.n, .int .i64 e.r.m, .string e.r.a, .string e.r.b, .string e.r.c, .slice e.vA e.vN e.vC]] w fun e w' => e = .returned (.bool true) ∧ Below w.heap.size w w' := by
  rw [hc]
  have hs0 : StR w (fun x => x < w.heap.size) v g := hs.mut (T := fun _ => False) (Mut.refl _ _) (fun _ _ _ h => h) (fun x hx _ => hx)
  have hv0 : VarsR w (fun x => x < w.heap.size) e.vA e.vN e.vC e.r.vars := he.2.mut (T := fun _ => False) (Mut.refl _ _) (fun _ _ _ h => h) (fun x hx _ => hx)
  have HS0 := Lib.hid hs0
  have HV0 := Lib.hid hv0
  have HF := Lib.hid hf
  have HKI := Lib.hid he.1.2.1
  have HNE : Hid (({ e.r with cls := 3 } : GRec).cls ≠ 2) := Lib.hid (by show (3 : Int) ≠ 2; decide)
  have HPD : Hid (∀ (v2 : StV) (g2 : GSt), g2.pure = applyP pos ({ e.r with cls := 3 } : GRec) g.pure → StR w (fun _ => True) v g → v2.Pp = g2.pos → v2.Dd = g2.done → v2.Pp = pos ∧ v2.Dd = e.r.frm) := Lib.hid (fun v2 g2 hp hst h1 h2 => by
    have e1 : g2.pos = g2.pure.pos := rfl
    have e2 : g2.done = g2.pure.done := rfl
    rw [hp, other_pure HNE.out] at e1 e2
    have e3 : v.Dd = g.done := hst.done
    refine ⟨h1.trans e1, ?_⟩
    rw [h2, e2]
    show (if (3 : Int) = 3 then max g.done e.r.frm else g.done) = _
    rw [if_pos rfl, ← e3]; omega)
  have HSA := Lib.hid hs
  clear hs hs0 hv0 hf he hc
  go_enter Tryz.func4, Tryz.ntmps4
  go_wp2_with (first
    | (go_at_call 9; refine (c_shown _).mono ?_; rintro e w1 ⟨rfl, hb⟩; have hbn := below2 (below_alloc (below_alloc (Below.refl w.heap.size w) (.cells v.vals 35)) (.cells #[.int .i64 2, .int .i64 e.r.kind, .int .u64 e.r.frm, .int .i64 e.r.time, .int .u64 e.r.key, .int .u64 e.r.key2, .int .u64 e.r.key3, .int .i64 e.r.n, .int .i64 e.r.m, .string e.r.a, .string e.r.b, .string e.r.c, .slice e.vA e.vN e.vC] 39)) hb; have kx := block_below hb (blk_alloc (blk_new (.cells v.vals 35)) _); have kr := block_below hb (blk_new_of (n := w.heap.size + 1) (.cells #[.int .i64 2, .int .i64 e.r.kind, .int .u64 e.r.frm, .int .i64 e.r.time, .int .u64 e.r.key, .int .u64 e.r.key2, .int .u64 e.r.key3, .int .i64 e.r.n, .int .i64 e.r.m, .string e.r.a, .string e.r.b, .string e.r.c, .slice e.vA e.vN e.vC] 39) (by simp)); have c0 := cell_of_blk kr 0; have f0 := frozen_of_blk kr 0; have HX5 : Hid ((w1.setCell ⟨w.heap.size + 1, 0, none⟩ (.int .i64 3)).heap[w.heap.size]? = some (.cells v.vals 35 (0, 0))) := Lib.hid (blk_set_other kx (by omega)); have HR5 : Hid ((w1.setCell ⟨w.heap.size + 1, 0, none⟩ (.int .i64 3)).heap[w.heap.size + 1]? = some (.cells #[.int .i64 3, .int .i64 e.r.kind, .int .u64 e.r.frm, .int .i64 e.r.time, .int .u64 e.r.key, .int .u64 e.r.key2, .int .u64 e.r.key3, .int .i64 e.r.n, .int .i64 e.r.m, .string e.r.a, .string e.r.b, .string e.r.c, .slice e.vA e.vN e.vC] 39 (0, 0))) := Lib.hid (set_blk (o := 0) kr (.int .i64 3)); have hM5 : Mut (fun x => x = w.heap.size + 1) w1 (w1.setCell ⟨w.heap.size + 1, 0, none⟩ (.int .i64 3)) := Mut.setCell (T := fun x => x = w.heap.size + 1) (Mut.refl _ _) (p := ⟨w.heap.size + 1, 0, none⟩) (fun _ => rfl) _; have HS5 : Hid (StR (w1.setCell ⟨w.heap.size + 1, 0, none⟩ (.int .i64 3)) (fun x => x < w.heap.size) v g) := Lib.hid ((HS0.out.below hbn (fun _ _ h => h)).mut hM5 (fun x _ hx e => by omega) (fun _ _ h => h)); have HV5 : Hid (VarsR (w1.setCell ⟨w.heap.size + 1, 0, none⟩ (.int .i64 3)) (fun x => x < w.heap.size) e.vA e.vN e.vC e.r.vars) := Lib.hid ((HV0.out.below hbn (fun _ _ h => h)).mut hM5 (fun x _ hx e => by omega) (fun _ _ h => h)); have HB5 : Hid (Below w.heap.size w (w1.setCell ⟨w.heap.size + 1, 0, none⟩ (.int .i64 3))) := Lib.hid (below_of_mut hbn hbn.size hM5 (fun x hx => by omega)); clear kx kr hb hbn hM5)
    | (refine wpList_load_box _ _ rfl rfl rfl bSt HX5.out rfl ?_)
    | (refine wpList_load_box _ _ rfl rfl rfl bRec HR5.out rfl ?_)
    | (go_at_call 10; refine (apply_not (r := ({ e.r with cls := 3 } : GRec)) pos HS5.out HKI.out HV5.out (.inl HNE.out) (fun h => absurd h HNE.out)).mono ?_; rintro e w2 ⟨v2, g2, rfl, hs2, hp2, hb2⟩)
    | (refine wpList_store_box _ _ _ rfl rfl rfl rfl bSt (heap_alloc_new _ _) rfl rfl (vals_one _) ?_
       intro V hV hM
       have hm : Mut (fun x => x = w2.heap.size) w2 V := Mut.trans (T := fun x => x = w2.heap.size) ((Mut.refl _ w2).alloc _) hM (fun _ _ h => h)
       have hlt := lt_of_blk HR5.out
       have hsz := hb2.size
       have kx := hm.blk (block_below hb2 HX5.out) (by omega)
       have kr := hm.blk (block_below hb2 HR5.out) (by omega)
       have st1 : StR V (fun x => x < w.heap.size) v g := (HS5.out.below hb2 (fun _ _ h => h)).mut hm (fun x _ hx e => by omega) (fun _ _ h => h)
       have st2 : StR V (fun x => x ≠ w2.heap.size) v2 g2 := hs2.mut hm (fun x hx _ e => by omega) (fun x hx _ => by omega)
       have hbv := below_of_mut (below2 HB5.out hb2) (Nat.le_trans HB5.out.size hsz) hm (fun x hx => by have := HB5.out.size; omega)
       have HPP := HPD.out v2 g2 hp2 HSA.out hs2.pos hs2.done
       have HSM := Lib.hid (other_same HNE.out hp2 HSA.out.pos HSA.out.done)
       have s0 : V.cell? ⟨w.heap.size, 0, none⟩ = some (.int .u64 v.Pp) := cell_of_blk kx 0
       have s1 : V.cell? ⟨w.heap.size, 1, none⟩ = some (.int .u64 v.Dd) := cell_of_blk kx 1
       have t0 : V.cell? ⟨w2.heap.size, 0, none⟩ = some (.int .u64 pos) := (cell_of_blk hV 0).trans (by rw [← HPP.1]; rfl)
       have t1 : V.cell? ⟨w2.heap.size, 1, none⟩ = some (.int .u64 e.r.frm) := (cell_of_blk hV 1).trans (by rw [← HPP.2]; rfl)
       have g0 := frozen_of_blk hV 0
       have g1 := frozen_of_blk hV 1
       have q0 := cell_of_blk kr 0
       have q2 := cell_of_blk kr 2
       have hne : w.heap.size ≠ w2.heap.size := by omega
       have hne2 : w2.heap.size ≠ w.heap.size := by omega
       have hne3 : w.heap.size + 1 ≠ w2.heap.size := by omega
       have hne4 : w2.heap.size ≠ w.heap.size + 1 := by omega
       have hmx : Mut (fun x => x = w2.heap.size) V ((V.setCell ⟨w2.heap.size, 0, none⟩ (.int .u64 v.Pp)).setCell ⟨w2.heap.size, 1, none⟩ (.int .u64 v.Dd)) := Mut.setCell (T := fun x => x = w2.heap.size) (Mut.setCell (T := fun x => x = w2.heap.size) (Mut.refl _ _) (p := ⟨w2.heap.size, 0, none⟩) (fun _ => rfl) _) (p := ⟨w2.heap.size, 1, none⟩) (fun _ => rfl) _
       have HXX := Lib.hid (hmx.blk kx (by omega))
       have HTX : Hid (((V.setCell ⟨w2.heap.size, 0, none⟩ (.int .u64 v.Pp)).setCell ⟨w2.heap.size, 1, none⟩ (.int .u64 v.Dd)).heap[w2.heap.size]? = some (.cells (StV.vals { v2 with Pp := v.Pp, Dd := v.Dd }) 35 (0, 0))) := Lib.hid (set_blk (o := 1) (set_blk (o := 0) hV (.int .u64 v.Pp)) (.int .u64 v.Dd))
       have HS1 := Lib.hid (st1.mut (S' := fun _ => True) hmx (fun x _ hx e => by omega) (fun _ _ _ => trivial))
       have HS2 : Hid (StR ((V.setCell ⟨w2.heap.size, 0, none⟩ (.int .u64 v.Pp)).setCell ⟨w2.heap.size, 1, none⟩ (.int .u64 v.Dd)) (fun _ => True) { v2 with Pp := v.Pp, Dd := v.Dd } { g2 with pos := v.Pp, done := v.Dd }) := Lib.hid (let h := st2.mut (S' := fun _ => True) hmx (fun x _ hx e => hx e) (fun _ _ _ => trivial); { h with pos := rfl, done := rfl })
       have HBX := Lib.hid (below_of_mut hbv hbv.size hmx (fun x hx => by have := HB5.out.size; omega))
       clear hs2 hp2 hb2 hV hM hm kx kr st1 st2 hbv HPP hmx HX5 HR5 HS5 HV5 HB5 HPD hlt hsz
       generalize w2.heap.size = tb at *)
    | (refine wpList_load_box _ _ rfl rfl rfl bSt HXX.out rfl ?_)
    | (refine wpList_load_box _ _ rfl rfl rfl bSt HTX.out rfl ?_)
    | (go_at_call 12; refine (refSame_true HS1.out HS2.out HF.out HSM.out).mono ?_; rintro e W9 ⟨rfl, hb⟩; have HB9 := Lib.hid (below2 HBX.out hb); clear hb))
  go_ret
  exact ⟨rfl, HB9.out⟩
set_option maxRecDepth 100000 in
set_option maxHeartbeats 8000000 in
theorem others_2l (v : StV) (g : GSt) (pos : Int) (e : ERec) (w : World) (hs : StR w (fun _ => True) v g) (hf : g.fits) (he : GoodRec w e) (hc : e.r.cls = 2) (hd : e.r.frm ≤ v.Dd) :
    Calls Tryz.prog 4 #[.agg v.vals, .int .u64 pos, .agg #[.int .i64 e.r.cls, .int .i64 e.r.kind, .int .u64 e.r.frm, .int .i64 e.r.time, .int .u64 e.r.key, .int .u64 e.r.key2, .int .u64 e.r.key3, .int .i64 e.r.n, .int .i64 e.r.m, .string e.r.a, .string e.r.b, .string e.r.c, .slice e.vA e.vN e.vC]] w fun e w' => e = .returned (.bool true) ∧ Below w.heap.size w w' := by
  rw [hc]
  have hs0 : StR w (fun x => x < w.heap.size) v g := hs.mut (T := fun _ => False) (Mut.refl _ _) (fun _ _ _ h => h) (fun x hx _ => hx)
  have hv0 : VarsR w (fun x => x < w.heap.size) e.vA e.vN e.vC e.r.vars := he.2.mut (T := fun _ => False) (Mut.refl _ _) (fun _ _ _ h => h) (fun x hx _ => hx)
  have HS0 := Lib.hid hs0
  have HV0 := Lib.hid hv0
  have HF := Lib.hid hf
  have HKI := Lib.hid he.1.2.1
  have HNE : Hid (({ e.r with cls := 3 } : GRec).cls ≠ 2) := Lib.hid (by show (3 : Int) ≠ 2; decide)
  have HPD : Hid (∀ (v2 : StV) (g2 : GSt), g2.pure = applyP pos ({ e.r with cls := 3 } : GRec) g.pure → StR w (fun _ => True) v g → v2.Pp = g2.pos → v2.Dd = g2.done → v2.Pp = pos ∧ v2.Dd = v.Dd) := Lib.hid (fun v2 g2 hp hst h1 h2 => by
    have e1 : g2.pos = g2.pure.pos := rfl
    have e2 : g2.done = g2.pure.done := rfl
    rw [hp, other_pure HNE.out] at e1 e2
    have e3 : v.Dd = g.done := hst.done
    refine ⟨h1.trans e1, ?_⟩
    rw [h2, e2]
    show (if (3 : Int) = 3 then max g.done e.r.frm else g.done) = _
    rw [if_pos rfl, ← e3]; omega)
  have HSA := Lib.hid hs
  clear hs hs0 hv0 hf he hc
  go_enter Tryz.func4, Tryz.ntmps4
  go_wp2_with (first
    | (go_at_call 9; refine (c_shown _).mono ?_; rintro e w1 ⟨rfl, hb⟩; have hbn := below2 (below_alloc (below_alloc (Below.refl w.heap.size w) (.cells v.vals 35)) (.cells #[.int .i64 2, .int .i64 e.r.kind, .int .u64 e.r.frm, .int .i64 e.r.time, .int .u64 e.r.key, .int .u64 e.r.key2, .int .u64 e.r.key3, .int .i64 e.r.n, .int .i64 e.r.m, .string e.r.a, .string e.r.b, .string e.r.c, .slice e.vA e.vN e.vC] 39)) hb; have kx := block_below hb (blk_alloc (blk_new (.cells v.vals 35)) _); have kr := block_below hb (blk_new_of (n := w.heap.size + 1) (.cells #[.int .i64 2, .int .i64 e.r.kind, .int .u64 e.r.frm, .int .i64 e.r.time, .int .u64 e.r.key, .int .u64 e.r.key2, .int .u64 e.r.key3, .int .i64 e.r.n, .int .i64 e.r.m, .string e.r.a, .string e.r.b, .string e.r.c, .slice e.vA e.vN e.vC] 39) (by simp)); have c0 := cell_of_blk kr 0; have f0 := frozen_of_blk kr 0; have HX5 : Hid ((w1.setCell ⟨w.heap.size + 1, 0, none⟩ (.int .i64 3)).heap[w.heap.size]? = some (.cells v.vals 35 (0, 0))) := Lib.hid (blk_set_other kx (by omega)); have HR5 : Hid ((w1.setCell ⟨w.heap.size + 1, 0, none⟩ (.int .i64 3)).heap[w.heap.size + 1]? = some (.cells #[.int .i64 3, .int .i64 e.r.kind, .int .u64 e.r.frm, .int .i64 e.r.time, .int .u64 e.r.key, .int .u64 e.r.key2, .int .u64 e.r.key3, .int .i64 e.r.n, .int .i64 e.r.m, .string e.r.a, .string e.r.b, .string e.r.c, .slice e.vA e.vN e.vC] 39 (0, 0))) := Lib.hid (set_blk (o := 0) kr (.int .i64 3)); have hM5 : Mut (fun x => x = w.heap.size + 1) w1 (w1.setCell ⟨w.heap.size + 1, 0, none⟩ (.int .i64 3)) := Mut.setCell (T := fun x => x = w.heap.size + 1) (Mut.refl _ _) (p := ⟨w.heap.size + 1, 0, none⟩) (fun _ => rfl) _; have HS5 : Hid (StR (w1.setCell ⟨w.heap.size + 1, 0, none⟩ (.int .i64 3)) (fun x => x < w.heap.size) v g) := Lib.hid ((HS0.out.below hbn (fun _ _ h => h)).mut hM5 (fun x _ hx e => by omega) (fun _ _ h => h)); have HV5 : Hid (VarsR (w1.setCell ⟨w.heap.size + 1, 0, none⟩ (.int .i64 3)) (fun x => x < w.heap.size) e.vA e.vN e.vC e.r.vars) := Lib.hid ((HV0.out.below hbn (fun _ _ h => h)).mut hM5 (fun x _ hx e => by omega) (fun _ _ h => h)); have HB5 : Hid (Below w.heap.size w (w1.setCell ⟨w.heap.size + 1, 0, none⟩ (.int .i64 3))) := Lib.hid (below_of_mut hbn hbn.size hM5 (fun x hx => by omega)); clear kx kr hb hbn hM5)
    | (refine wpList_load_box _ _ rfl rfl rfl bSt HX5.out rfl ?_)
    | (refine wpList_load_box _ _ rfl rfl rfl bRec HR5.out rfl ?_)
    | (go_at_call 10; refine (apply_not (r := ({ e.r with cls := 3 } : GRec)) pos HS5.out HKI.out HV5.out (.inl HNE.out) (fun h => absurd h HNE.out)).mono ?_; rintro e w2 ⟨v2, g2, rfl, hs2, hp2, hb2⟩)
    | (refine wpList_store_box _ _ _ rfl rfl rfl rfl bSt (heap_alloc_new _ _) rfl rfl (vals_one _) ?_
       intro V hV hM
       have hm : Mut (fun x => x = w2.heap.size) w2 V := Mut.trans (T := fun x => x = w2.heap.size) ((Mut.refl _ w2).alloc _) hM (fun _ _ h => h)
       have hlt := lt_of_blk HR5.out
       have hsz := hb2.size
       have kx := hm.blk (block_below hb2 HX5.out) (by omega)
       have kr := hm.blk (block_below hb2 HR5.out) (by omega)
       have st1 : StR V (fun x => x < w.heap.size) v g := (HS5.out.below hb2 (fun _ _ h => h)).mut hm (fun x _ hx e => by omega) (fun _ _ h => h)
       have st2 : StR V (fun x => x ≠ w2.heap.size) v2 g2 := hs2.mut hm (fun x hx _ e => by omega) (fun x hx _ => by omega)
       have hbv := below_of_mut (below2 HB5.out hb2) (Nat.le_trans HB5.out.size hsz) hm (fun x hx => by have := HB5.out.size; omega)
       have HPP := HPD.out v2 g2 hp2 HSA.out hs2.pos hs2.done
       have HSM := Lib.hid (other_same HNE.out hp2 HSA.out.pos HSA.out.done)
       have s0 : V.cell? ⟨w.heap.size, 0, none⟩ = some (.int .u64 v.Pp) := cell_of_blk kx 0
       have s1 : V.cell? ⟨w.heap.size, 1, none⟩ = some (.int .u64 v.Dd) := cell_of_blk kx 1
       have t0 : V.cell? ⟨w2.heap.size, 0, none⟩ = some (.int .u64 pos) := (cell_of_blk hV 0).trans (by rw [← HPP.1]; rfl)
       have t1 : V.cell? ⟨w2.heap.size, 1, none⟩ = some (.int .u64 v.Dd) := (cell_of_blk hV 1).trans (by rw [← HPP.2]; rfl)
       have g0 := frozen_of_blk hV 0
       have g1 := frozen_of_blk hV 1
       have q0 := cell_of_blk kr 0
       have q2 := cell_of_blk kr 2
       have hne : w.heap.size ≠ w2.heap.size := by omega
       have hne2 : w2.heap.size ≠ w.heap.size := by omega
       have hne3 : w.heap.size + 1 ≠ w2.heap.size := by omega
       have hne4 : w2.heap.size ≠ w.heap.size + 1 := by omega
       have hmx : Mut (fun x => x = w2.heap.size) V ((V.setCell ⟨w2.heap.size, 0, none⟩ (.int .u64 v.Pp)).setCell ⟨w2.heap.size, 1, none⟩ (.int .u64 v.Dd)) := Mut.setCell (T := fun x => x = w2.heap.size) (Mut.setCell (T := fun x => x = w2.heap.size) (Mut.refl _ _) (p := ⟨w2.heap.size, 0, none⟩) (fun _ => rfl) _) (p := ⟨w2.heap.size, 1, none⟩) (fun _ => rfl) _
       have HXX := Lib.hid (hmx.blk kx (by omega))
       have HTX : Hid (((V.setCell ⟨w2.heap.size, 0, none⟩ (.int .u64 v.Pp)).setCell ⟨w2.heap.size, 1, none⟩ (.int .u64 v.Dd)).heap[w2.heap.size]? = some (.cells (StV.vals { v2 with Pp := v.Pp, Dd := v.Dd }) 35 (0, 0))) := Lib.hid (set_blk (o := 1) (set_blk (o := 0) hV (.int .u64 v.Pp)) (.int .u64 v.Dd))
       have HS1 := Lib.hid (st1.mut (S' := fun _ => True) hmx (fun x _ hx e => by omega) (fun _ _ _ => trivial))
       have HS2 : Hid (StR ((V.setCell ⟨w2.heap.size, 0, none⟩ (.int .u64 v.Pp)).setCell ⟨w2.heap.size, 1, none⟩ (.int .u64 v.Dd)) (fun _ => True) { v2 with Pp := v.Pp, Dd := v.Dd } { g2 with pos := v.Pp, done := v.Dd }) := Lib.hid (let h := st2.mut (S' := fun _ => True) hmx (fun x _ hx e => hx e) (fun _ _ _ => trivial); { h with pos := rfl, done := rfl })
       have HBX := Lib.hid (below_of_mut hbv hbv.size hmx (fun x hx => by have := HB5.out.size; omega))
       clear hs2 hp2 hb2 hV hM hm kx kr st1 st2 hbv HPP hmx HX5 HR5 HS5 HV5 HB5 HPD hlt hsz
       generalize w2.heap.size = tb at *)
    | (refine wpList_load_box _ _ rfl rfl rfl bSt HXX.out rfl ?_)
    | (refine wpList_load_box _ _ rfl rfl rfl bSt HTX.out rfl ?_)
    | (go_at_call 12; refine (refSame_true HS1.out HS2.out HF.out HSM.out).mono ?_; rintro e W9 ⟨rfl, hb⟩; have HB9 := Lib.hid (below2 HBX.out hb); clear hb))
  go_ret
  exact ⟨rfl, HB9.out⟩
set_option maxRecDepth 100000 in
set_option maxHeartbeats 8000000 in
theorem others_3g (v : StV) (g : GSt) (pos : Int) (e : ERec) (w : World) (hs : StR w (fun _ => True) v g) (hf : g.fits) (he : GoodRec w e) (hc : e.r.cls = 3) (hd : v.Dd < e.r.frm) :
    Calls Tryz.prog 4 #[.agg v.vals, .int .u64 pos, .agg #[.int .i64 e.r.cls, .int .i64 e.r.kind, .int .u64 e.r.frm, .int .i64 e.r.time, .int .u64 e.r.key, .int .u64 e.r.key2, .int .u64 e.r.key3, .int .i64 e.r.n, .int .i64 e.r.m, .string e.r.a, .string e.r.b, .string e.r.c, .slice e.vA e.vN e.vC]] w fun e w' => e = .returned (.bool true) ∧ Below w.heap.size w w' := by
  rw [hc]
  have hs0 : StR w (fun x => x < w.heap.size) v g := hs.mut (T := fun _ => False) (Mut.refl _ _) (fun _ _ _ h => h) (fun x hx _ => hx)
  have hv0 : VarsR w (fun x => x < w.heap.size) e.vA e.vN e.vC e.r.vars := he.2.mut (T := fun _ => False) (Mut.refl _ _) (fun _ _ _ h => h) (fun x hx _ => hx)
  have HS0 := Lib.hid hs0
  have HV0 := Lib.hid hv0
  have HF := Lib.hid hf
  have HKI := Lib.hid he.1.2.1
  have HNE : Hid (({ e.r with cls := 3 } : GRec).cls ≠ 2) := Lib.hid (by show (3 : Int) ≠ 2; decide)
  have HPD : Hid (∀ (v2 : StV) (g2 : GSt), g2.pure = applyP pos ({ e.r with cls := 3 } : GRec) g.pure → StR w (fun _ => True) v g → v2.Pp = g2.pos → v2.Dd = g2.done → v2.Pp = pos ∧ v2.Dd = e.r.frm) := Lib.hid (fun v2 g2 hp hst h1 h2 => by
    have e1 : g2.pos = g2.pure.pos := rfl
    have e2 : g2.done = g2.pure.done := rfl
    rw [hp, other_pure HNE.out] at e1 e2
    have e3 : v.Dd = g.done := hst.done
    refine ⟨h1.trans e1, ?_⟩
    rw [h2, e2]
    show (if (3 : Int) = 3 then max g.done e.r.frm else g.done) = _
    rw [if_pos rfl, ← e3]; omega)
  have HSA := Lib.hid hs
  clear hs hs0 hv0 hf he hc
  go_enter Tryz.func4, Tryz.ntmps4
  go_wp2_with (first
    | (go_at_call 9; refine (c_shown _).mono ?_; rintro e w1 ⟨rfl, hb⟩; have hbn := below2 (below_alloc (below_alloc (Below.refl w.heap.size w) (.cells v.vals 35)) (.cells #[.int .i64 3, .int .i64 e.r.kind, .int .u64 e.r.frm, .int .i64 e.r.time, .int .u64 e.r.key, .int .u64 e.r.key2, .int .u64 e.r.key3, .int .i64 e.r.n, .int .i64 e.r.m, .string e.r.a, .string e.r.b, .string e.r.c, .slice e.vA e.vN e.vC] 39)) hb; have kx := block_below hb (blk_alloc (blk_new (.cells v.vals 35)) _); have kr := block_below hb (blk_new_of (n := w.heap.size + 1) (.cells #[.int .i64 3, .int .i64 e.r.kind, .int .u64 e.r.frm, .int .i64 e.r.time, .int .u64 e.r.key, .int .u64 e.r.key2, .int .u64 e.r.key3, .int .i64 e.r.n, .int .i64 e.r.m, .string e.r.a, .string e.r.b, .string e.r.c, .slice e.vA e.vN e.vC] 39) (by simp)); have c0 := cell_of_blk kr 0; have f0 := frozen_of_blk kr 0; have HX5 := Lib.hid kx; have HR5 := Lib.hid kr; have hM5 : Mut (fun x => x = w.heap.size + 1) w1 w1 := Mut.refl _ _; have HS5 : Hid (StR w1 (fun x => x < w.heap.size) v g) := Lib.hid ((HS0.out.below hbn (fun _ _ h => h)).mut hM5 (fun x _ hx e => by omega) (fun _ _ h => h)); have HV5 : Hid (VarsR w1 (fun x => x < w.heap.size) e.vA e.vN e.vC e.r.vars) := Lib.hid ((HV0.out.below hbn (fun _ _ h => h)).mut hM5 (fun x _ hx e => by omega) (fun _ _ h => h)); have HB5 : Hid (Below w.heap.size w w1) := Lib.hid (below_of_mut hbn hbn.size hM5 (fun x hx => by omega)); clear kx kr hb hbn hM5)
    | (refine wpList_load_box _ _ rfl rfl rfl bSt HX5.out rfl ?_)
    | (refine wpList_load_box _ _ rfl rfl rfl bRec HR5.out rfl ?_)
    | (go_at_call 10; refine (apply_not (r := ({ e.r with cls := 3 } : GRec)) pos HS5.out HKI.out HV5.out (.inl HNE.out) (fun h => absurd h HNE.out)).mono ?_; rintro e w2 ⟨v2, g2, rfl, hs2, hp2, hb2⟩)
    | (refine wpList_store_box _ _ _ rfl rfl rfl rfl bSt (heap_alloc_new _ _) rfl rfl (vals_one _) ?_
       intro V hV hM
       have hm : Mut (fun x => x = w2.heap.size) w2 V := Mut.trans (T := fun x => x = w2.heap.size) ((Mut.refl _ w2).alloc _) hM (fun _ _ h => h)
       have hlt := lt_of_blk HR5.out
       have hsz := hb2.size
       have kx := hm.blk (block_below hb2 HX5.out) (by omega)
       have kr := hm.blk (block_below hb2 HR5.out) (by omega)
       have st1 : StR V (fun x => x < w.heap.size) v g := (HS5.out.below hb2 (fun _ _ h => h)).mut hm (fun x _ hx e => by omega) (fun _ _ h => h)
       have st2 : StR V (fun x => x ≠ w2.heap.size) v2 g2 := hs2.mut hm (fun x hx _ e => by omega) (fun x hx _ => by omega)
       have hbv := below_of_mut (below2 HB5.out hb2) (Nat.le_trans HB5.out.size hsz) hm (fun x hx => by have := HB5.out.size; omega)
       have HPP := HPD.out v2 g2 hp2 HSA.out hs2.pos hs2.done
       have HSM := Lib.hid (other_same HNE.out hp2 HSA.out.pos HSA.out.done)
       have s0 : V.cell? ⟨w.heap.size, 0, none⟩ = some (.int .u64 v.Pp) := cell_of_blk kx 0
       have s1 : V.cell? ⟨w.heap.size, 1, none⟩ = some (.int .u64 v.Dd) := cell_of_blk kx 1
       have t0 : V.cell? ⟨w2.heap.size, 0, none⟩ = some (.int .u64 pos) := (cell_of_blk hV 0).trans (by rw [← HPP.1]; rfl)
       have t1 : V.cell? ⟨w2.heap.size, 1, none⟩ = some (.int .u64 e.r.frm) := (cell_of_blk hV 1).trans (by rw [← HPP.2]; rfl)
       have g0 := frozen_of_blk hV 0
       have g1 := frozen_of_blk hV 1
       have q0 := cell_of_blk kr 0
       have q2 := cell_of_blk kr 2
       have hne : w.heap.size ≠ w2.heap.size := by omega
       have hne2 : w2.heap.size ≠ w.heap.size := by omega
       have hne3 : w.heap.size + 1 ≠ w2.heap.size := by omega
       have hne4 : w2.heap.size ≠ w.heap.size + 1 := by omega
       have hmx : Mut (fun x => x = w2.heap.size) V ((V.setCell ⟨w2.heap.size, 0, none⟩ (.int .u64 v.Pp)).setCell ⟨w2.heap.size, 1, none⟩ (.int .u64 v.Dd)) := Mut.setCell (T := fun x => x = w2.heap.size) (Mut.setCell (T := fun x => x = w2.heap.size) (Mut.refl _ _) (p := ⟨w2.heap.size, 0, none⟩) (fun _ => rfl) _) (p := ⟨w2.heap.size, 1, none⟩) (fun _ => rfl) _
       have HXX := Lib.hid (hmx.blk kx (by omega))
       have HTX : Hid (((V.setCell ⟨w2.heap.size, 0, none⟩ (.int .u64 v.Pp)).setCell ⟨w2.heap.size, 1, none⟩ (.int .u64 v.Dd)).heap[w2.heap.size]? = some (.cells (StV.vals { v2 with Pp := v.Pp, Dd := v.Dd }) 35 (0, 0))) := Lib.hid (set_blk (o := 1) (set_blk (o := 0) hV (.int .u64 v.Pp)) (.int .u64 v.Dd))
       have HS1 := Lib.hid (st1.mut (S' := fun _ => True) hmx (fun x _ hx e => by omega) (fun _ _ _ => trivial))
       have HS2 : Hid (StR ((V.setCell ⟨w2.heap.size, 0, none⟩ (.int .u64 v.Pp)).setCell ⟨w2.heap.size, 1, none⟩ (.int .u64 v.Dd)) (fun _ => True) { v2 with Pp := v.Pp, Dd := v.Dd } { g2 with pos := v.Pp, done := v.Dd }) := Lib.hid (let h := st2.mut (S' := fun _ => True) hmx (fun x _ hx e => hx e) (fun _ _ _ => trivial); { h with pos := rfl, done := rfl })
       have HBX := Lib.hid (below_of_mut hbv hbv.size hmx (fun x hx => by have := HB5.out.size; omega))
       clear hs2 hp2 hb2 hV hM hm kx kr st1 st2 hbv HPP hmx HX5 HR5 HS5 HV5 HB5 HPD hlt hsz
       generalize w2.heap.size = tb at *)
    | (refine wpList_load_box _ _ rfl rfl rfl bSt HXX.out rfl ?_)
    | (refine wpList_load_box _ _ rfl rfl rfl bSt HTX.out rfl ?_)
    | (go_at_call 12; refine (refSame_true HS1.out HS2.out HF.out HSM.out).mono ?_; rintro e W9 ⟨rfl, hb⟩; have HB9 := Lib.hid (below2 HBX.out hb); clear hb))
  go_ret
  exact ⟨rfl, HB9.out⟩
set_option maxRecDepth 100000 in
set_option maxHeartbeats 8000000 in
theorem others_3l (v : StV) (g : GSt) (pos : Int) (e : ERec) (w : World) (hs : StR w (fun _ => True) v g) (hf : g.fits) (he : GoodRec w e) (hc : e.r.cls = 3) (hd : e.r.frm ≤ v.Dd) :
    Calls Tryz.prog 4 #[.agg v.vals, .int .u64 pos, .agg #[.int .i64 e.r.cls, .int .i64 e.r.kind, .int .u64 e.r.frm, .int .i64 e.r.time, .int .u64 e.r.key, .int .u64 e.r.key2, .int .u64 e.r.key3, .int .i64 e.r.n, .int .i64 e.r.m, .string e.r.a, .string e.r.b, .string e.r.c, .slice e.vA e.vN e.vC]] w fun e w' => e = .returned (.bool true) ∧ Below w.heap.size w w' := by
  rw [hc]
  have hs0 : StR w (fun x => x < w.heap.size) v g := hs.mut (T := fun _ => False) (Mut.refl _ _) (fun _ _ _ h => h) (fun x hx _ => hx)
  have hv0 : VarsR w (fun x => x < w.heap.size) e.vA e.vN e.vC e.r.vars := he.2.mut (T := fun _ => False) (Mut.refl _ _) (fun _ _ _ h => h) (fun x hx _ => hx)
  have HS0 := Lib.hid hs0
  have HV0 := Lib.hid hv0
  have HF := Lib.hid hf
  have HKI := Lib.hid he.1.2.1
  have HNE : Hid (({ e.r with cls := 3 } : GRec).cls ≠ 2) := Lib.hid (by show (3 : Int) ≠ 2; decide)
  have HPD : Hid (∀ (v2 : StV) (g2 : GSt), g2.pure = applyP pos ({ e.r with cls := 3 } : GRec) g.pure → StR w (fun _ => True) v g → v2.Pp = g2.pos → v2.Dd = g2.done → v2.Pp = pos ∧ v2.Dd = v.Dd) := Lib.hid (fun v2 g2 hp hst h1 h2 => by
    have e1 : g2.pos = g2.pure.pos := rfl
    have e2 : g2.done = g2.pure.done := rfl
    rw [hp, other_pure HNE.out] at e1 e2
    have e3 : v.Dd = g.done := hst.done
    refine ⟨h1.trans e1, ?_⟩
    rw [h2, e2]
    show (if (3 : Int) = 3 then max g.done e.r.frm else g.done) = _
    rw [if_pos rfl, ← e3]; omega)
  have HSA := Lib.hid hs
  clear hs hs0 hv0 hf he hc
  go_enter Tryz.func4, Tryz.ntmps4
  go_wp2_with (first
    | (go_at_call 9; refine (c_shown _).mono ?_; rintro e w1 ⟨rfl, hb⟩; have hbn := below2 (below_alloc (below_alloc (Below.refl w.heap.size w) (.cells v.vals 35)) (.cells #[.int .i64 3, .int .i64 e.r.kind, .int .u64 e.r.frm, .int .i64 e.r.time, .int .u64 e.r.key, .int .u64 e.r.key2, .int .u64 e.r.key3, .int .i64 e.r.n, .int .i64 e.r.m, .string e.r.a, .string e.r.b, .string e.r.c, .slice e.vA e.vN e.vC] 39)) hb; have kx := block_below hb (blk_alloc (blk_new (.cells v.vals 35)) _); have kr := block_below hb (blk_new_of (n := w.heap.size + 1) (.cells #[.int .i64 3, .int .i64 e.r.kind, .int .u64 e.r.frm, .int .i64 e.r.time, .int .u64 e.r.key, .int .u64 e.r.key2, .int .u64 e.r.key3, .int .i64 e.r.n, .int .i64 e.r.m, .string e.r.a, .string e.r.b, .string e.r.c, .slice e.vA e.vN e.vC] 39) (by simp)); have c0 := cell_of_blk kr 0; have f0 := frozen_of_blk kr 0; have HX5 := Lib.hid kx; have HR5 := Lib.hid kr; have hM5 : Mut (fun x => x = w.heap.size + 1) w1 w1 := Mut.refl _ _; have HS5 : Hid (StR w1 (fun x => x < w.heap.size) v g) := Lib.hid ((HS0.out.below hbn (fun _ _ h => h)).mut hM5 (fun x _ hx e => by omega) (fun _ _ h => h)); have HV5 : Hid (VarsR w1 (fun x => x < w.heap.size) e.vA e.vN e.vC e.r.vars) := Lib.hid ((HV0.out.below hbn (fun _ _ h => h)).mut hM5 (fun x _ hx e => by omega) (fun _ _ h => h)); have HB5 : Hid (Below w.heap.size w w1) := Lib.hid (below_of_mut hbn hbn.size hM5 (fun x hx => by omega)); clear kx kr hb hbn hM5)
    | (refine wpList_load_box _ _ rfl rfl rfl bSt HX5.out rfl ?_)
    | (refine wpList_load_box _ _ rfl rfl rfl bRec HR5.out rfl ?_)
    | (go_at_call 10; refine (apply_not (r := ({ e.r with cls := 3 } : GRec)) pos HS5.out HKI.out HV5.out (.inl HNE.out) (fun h => absurd h HNE.out)).mono ?_; rintro e w2 ⟨v2, g2, rfl, hs2, hp2, hb2⟩)
    | (refine wpList_store_box _ _ _ rfl rfl rfl rfl bSt (heap_alloc_new _ _) rfl rfl (vals_one _) ?_
       intro V hV hM
       have hm : Mut (fun x => x = w2.heap.size) w2 V := Mut.trans (T := fun x => x = w2.heap.size) ((Mut.refl _ w2).alloc _) hM (fun _ _ h => h)
       have hlt := lt_of_blk HR5.out
       have hsz := hb2.size
       have kx := hm.blk (block_below hb2 HX5.out) (by omega)
       have kr := hm.blk (block_below hb2 HR5.out) (by omega)
       have st1 : StR V (fun x => x < w.heap.size) v g := (HS5.out.below hb2 (fun _ _ h => h)).mut hm (fun x _ hx e => by omega) (fun _ _ h => h)
       have st2 : StR V (fun x => x ≠ w2.heap.size) v2 g2 := hs2.mut hm (fun x hx _ e => by omega) (fun x hx _ => by omega)
       have hbv := below_of_mut (below2 HB5.out hb2) (Nat.le_trans HB5.out.size hsz) hm (fun x hx => by have := HB5.out.size; omega)
       have HPP := HPD.out v2 g2 hp2 HSA.out hs2.pos hs2.done
       have HSM := Lib.hid (other_same HNE.out hp2 HSA.out.pos HSA.out.done)
       have s0 : V.cell? ⟨w.heap.size, 0, none⟩ = some (.int .u64 v.Pp) := cell_of_blk kx 0
       have s1 : V.cell? ⟨w.heap.size, 1, none⟩ = some (.int .u64 v.Dd) := cell_of_blk kx 1
       have t0 : V.cell? ⟨w2.heap.size, 0, none⟩ = some (.int .u64 pos) := (cell_of_blk hV 0).trans (by rw [← HPP.1]; rfl)
       have t1 : V.cell? ⟨w2.heap.size, 1, none⟩ = some (.int .u64 v.Dd) := (cell_of_blk hV 1).trans (by rw [← HPP.2]; rfl)
       have g0 := frozen_of_blk hV 0
       have g1 := frozen_of_blk hV 1
       have q0 := cell_of_blk kr 0
       have q2 := cell_of_blk kr 2
       have hne : w.heap.size ≠ w2.heap.size := by omega
       have hne2 : w2.heap.size ≠ w.heap.size := by omega
       have hne3 : w.heap.size + 1 ≠ w2.heap.size := by omega
       have hne4 : w2.heap.size ≠ w.heap.size + 1 := by omega
       have hmx : Mut (fun x => x = w2.heap.size) V ((V.setCell ⟨w2.heap.size, 0, none⟩ (.int .u64 v.Pp)).setCell ⟨w2.heap.size, 1, none⟩ (.int .u64 v.Dd)) := Mut.setCell (T := fun x => x = w2.heap.size) (Mut.setCell (T := fun x => x = w2.heap.size) (Mut.refl _ _) (p := ⟨w2.heap.size, 0, none⟩) (fun _ => rfl) _) (p := ⟨w2.heap.size, 1, none⟩) (fun _ => rfl) _
       have HXX := Lib.hid (hmx.blk kx (by omega))
       have HTX : Hid (((V.setCell ⟨w2.heap.size, 0, none⟩ (.int .u64 v.Pp)).setCell ⟨w2.heap.size, 1, none⟩ (.int .u64 v.Dd)).heap[w2.heap.size]? = some (.cells (StV.vals { v2 with Pp := v.Pp, Dd := v.Dd }) 35 (0, 0))) := Lib.hid (set_blk (o := 1) (set_blk (o := 0) hV (.int .u64 v.Pp)) (.int .u64 v.Dd))
       have HS1 := Lib.hid (st1.mut (S' := fun _ => True) hmx (fun x _ hx e => by omega) (fun _ _ _ => trivial))
       have HS2 : Hid (StR ((V.setCell ⟨w2.heap.size, 0, none⟩ (.int .u64 v.Pp)).setCell ⟨w2.heap.size, 1, none⟩ (.int .u64 v.Dd)) (fun _ => True) { v2 with Pp := v.Pp, Dd := v.Dd } { g2 with pos := v.Pp, done := v.Dd }) := Lib.hid (let h := st2.mut (S' := fun _ => True) hmx (fun x _ hx e => hx e) (fun _ _ _ => trivial); { h with pos := rfl, done := rfl })
       have HBX := Lib.hid (below_of_mut hbv hbv.size hmx (fun x hx => by have := HB5.out.size; omega))
       clear hs2 hp2 hb2 hV hM hm kx kr st1 st2 hbv HPP hmx HX5 HR5 HS5 HV5 HB5 HPD hlt hsz
       generalize w2.heap.size = tb at *)
    | (refine wpList_load_box _ _ rfl rfl rfl bSt HXX.out rfl ?_)
    | (refine wpList_load_box _ _ rfl rfl rfl bSt HTX.out rfl ?_)
    | (go_at_call 12; refine (refSame_true HS1.out HS2.out HF.out HSM.out).mono ?_; rintro e W9 ⟨rfl, hb⟩; have HB9 := Lib.hid (below2 HBX.out hb); clear hb))
  go_ret
  exact ⟨rfl, HB9.out⟩
set_option maxRecDepth 100000 in
set_option maxHeartbeats 8000000 in
theorem others_o (v : StV) (g : GSt) (pos : Int) (e : ERec) (w : World) (hs : StR w (fun _ => True) v g) (hf : g.fits) (he : GoodRec w e) (hc : e.r.cls ≠ 2) (hc3 : e.r.cls ≠ 3) :
    Calls Tryz.prog 4 #[.agg v.vals, .int .u64 pos, .agg #[.int .i64 e.r.cls, .int .i64 e.r.kind, .int .u64 e.r.frm, .int .i64 e.r.time, .int .u64 e.r.key, .int .u64 e.r.key2, .int .u64 e.r.key3, .int .i64 e.r.n, .int .i64 e.r.m, .string e.r.a, .string e.r.b, .string e.r.c, .slice e.vA e.vN e.vC]] w fun e w' => e = .returned (.bool true) ∧ Below w.heap.size w w' := by
  have hs0 : StR w (fun x => x < w.heap.size) v g := hs.mut (T := fun _ => False) (Mut.refl _ _) (fun _ _ _ h => h) (fun x hx _ => hx)
  have hv0 : VarsR w (fun x => x < w.heap.size) e.vA e.vN e.vC e.r.vars := he.2.mut (T := fun _ => False) (Mut.refl _ _) (fun _ _ _ h => h) (fun x hx _ => hx)
  have HS0 := Lib.hid hs0
  have HV0 := Lib.hid hv0
  have HF := Lib.hid hf
  have HKI := Lib.hid he.1.2.1
  have HNE : Hid (e.r.cls ≠ 2) := Lib.hid hc
  have HPD : Hid (∀ (v2 : StV) (g2 : GSt), g2.pure = applyP pos e.r g.pure → StR w (fun _ => True) v g → v2.Pp = g2.pos → v2.Dd = g2.done → v2.Pp = pos ∧ v2.Dd = v.Dd) := Lib.hid (fun v2 g2 hp hst h1 h2 => by
    have e1 : g2.pos = g2.pure.pos := rfl
    have e2 : g2.done = g2.pure.done := rfl
    rw [hp, other_pure HNE.out] at e1 e2
    have e3 : v.Dd = g.done := hst.done
    refine ⟨h1.trans e1, ?_⟩
    rw [h2, e2]
    show (if e.r.cls = 3 then max g.done e.r.frm else g.done) = _
    rw [if_neg hc3, ← e3])
  have HSA := Lib.hid hs
  clear hs hs0 hv0 hf he
  have b2 := beq_f hc
  have b3 := beq_f hc3
  have HC3 := Lib.hid (And.intro hc hc3)
  clear hc hc3
  go_enter Tryz.func4, Tryz.ntmps4
  go_wp2_with (first
    | (go_at_call 9; refine (c_shown _).mono ?_; rintro e w1 ⟨rfl, hb⟩; have hbn := below2 (below_alloc (below_alloc (Below.refl w.heap.size w) (.cells v.vals 35)) (.cells #[.int .i64 e.r.cls, .int .i64 e.r.kind, .int .u64 e.r.frm, .int .i64 e.r.time, .int .u64 e.r.key, .int .u64 e.r.key2, .int .u64 e.r.key3, .int .i64 e.r.n, .int .i64 e.r.m, .string e.r.a, .string e.r.b, .string e.r.c, .slice e.vA e.vN e.vC] 39)) hb; have kx := block_below hb (blk_alloc (blk_new (.cells v.vals 35)) _); have kr := block_below hb (blk_new_of (n := w.heap.size + 1) (.cells #[.int .i64 e.r.cls, .int .i64 e.r.kind, .int .u64 e.r.frm, .int .i64 e.r.time, .int .u64 e.r.key, .int .u64 e.r.key2, .int .u64 e.r.key3, .int .i64 e.r.n, .int .i64 e.r.m, .string e.r.a, .string e.r.b, .string e.r.c, .slice e.vA e.vN e.vC] 39) (by simp)); have c0 := cell_of_blk kr 0; have f0 := frozen_of_blk kr 0; have HX5 := Lib.hid kx; have HR5 := Lib.hid kr; have hM5 : Mut (fun x => x = w.heap.size + 1) w1 w1 := Mut.refl _ _; have HS5 : Hid (StR w1 (fun x => x < w.heap.size) v g) := Lib.hid ((HS0.out.below hbn (fun _ _ h => h)).mut hM5 (fun x _ hx e => by omega) (fun _ _ h => h)); have HV5 : Hid (VarsR w1 (fun x => x < w.heap.size) e.vA e.vN e.vC e.r.vars) := Lib.hid ((HV0.out.below hbn (fun _ _ h => h)).mut hM5 (fun x _ hx e => by omega) (fun _ _ h => h)); have HB5 : Hid (Below w.heap.size w w1) := Lib.hid (below_of_mut hbn hbn.size hM5 (fun x hx => by omega)); clear kx kr hb hbn hM5)
    | (refine wpList_load_box _ _ rfl rfl rfl bSt HX5.out rfl ?_)
    | (refine wpList_load_box _ _ rfl rfl rfl bRec HR5.out rfl ?_)
    | (go_at_call 10; refine (apply_not (r := e.r) pos HS5.out HKI.out HV5.out (.inl HNE.out) (fun h => absurd h HNE.out)).mono ?_; rintro e w2 ⟨v2, g2, rfl, hs2, hp2, hb2⟩)
    | (refine wpList_store_box _ _ _ rfl rfl rfl rfl bSt (heap_alloc_new _ _) rfl rfl (vals_one _) ?_
       intro V hV hM
       have hm : Mut (fun x => x = w2.heap.size) w2 V := Mut.trans (T := fun x => x = w2.heap.size) ((Mut.refl _ w2).alloc _) hM (fun _ _ h => h)
       have hlt := lt_of_blk HR5.out
       have hsz := hb2.size
       have kx := hm.blk (block_below hb2 HX5.out) (by omega)
       have kr := hm.blk (block_below hb2 HR5.out) (by omega)
       have st1 : StR V (fun x => x < w.heap.size) v g := (HS5.out.below hb2 (fun _ _ h => h)).mut hm (fun x _ hx e => by omega) (fun _ _ h => h)
       have st2 : StR V (fun x => x ≠ w2.heap.size) v2 g2 := hs2.mut hm (fun x hx _ e => by omega) (fun x hx _ => by omega)
       have hbv := below_of_mut (below2 HB5.out hb2) (Nat.le_trans HB5.out.size hsz) hm (fun x hx => by have := HB5.out.size; omega)
       have HPP := HPD.out v2 g2 hp2 HSA.out hs2.pos hs2.done
       have HSM := Lib.hid (other_same HNE.out hp2 HSA.out.pos HSA.out.done)
       have s0 : V.cell? ⟨w.heap.size, 0, none⟩ = some (.int .u64 v.Pp) := cell_of_blk kx 0
       have s1 : V.cell? ⟨w.heap.size, 1, none⟩ = some (.int .u64 v.Dd) := cell_of_blk kx 1
       have t0 : V.cell? ⟨w2.heap.size, 0, none⟩ = some (.int .u64 pos) := (cell_of_blk hV 0).trans (by rw [← HPP.1]; rfl)
       have t1 : V.cell? ⟨w2.heap.size, 1, none⟩ = some (.int .u64 v.Dd) := (cell_of_blk hV 1).trans (by rw [← HPP.2]; rfl)
       have g0 := frozen_of_blk hV 0
       have g1 := frozen_of_blk hV 1
       have q0 := cell_of_blk kr 0
       have q2 := cell_of_blk kr 2
       have hne : w.heap.size ≠ w2.heap.size := by omega
       have hne2 : w2.heap.size ≠ w.heap.size := by omega
       have hne3 : w.heap.size + 1 ≠ w2.heap.size := by omega
       have hne4 : w2.heap.size ≠ w.heap.size + 1 := by omega
       have hmx : Mut (fun x => x = w2.heap.size) V ((V.setCell ⟨w2.heap.size, 0, none⟩ (.int .u64 v.Pp)).setCell ⟨w2.heap.size, 1, none⟩ (.int .u64 v.Dd)) := Mut.setCell (T := fun x => x = w2.heap.size) (Mut.setCell (T := fun x => x = w2.heap.size) (Mut.refl _ _) (p := ⟨w2.heap.size, 0, none⟩) (fun _ => rfl) _) (p := ⟨w2.heap.size, 1, none⟩) (fun _ => rfl) _
       have HXX := Lib.hid (hmx.blk kx (by omega))
       have HTX : Hid (((V.setCell ⟨w2.heap.size, 0, none⟩ (.int .u64 v.Pp)).setCell ⟨w2.heap.size, 1, none⟩ (.int .u64 v.Dd)).heap[w2.heap.size]? = some (.cells (StV.vals { v2 with Pp := v.Pp, Dd := v.Dd }) 35 (0, 0))) := Lib.hid (set_blk (o := 1) (set_blk (o := 0) hV (.int .u64 v.Pp)) (.int .u64 v.Dd))
       have HS1 := Lib.hid (st1.mut (S' := fun _ => True) hmx (fun x _ hx e => by omega) (fun _ _ _ => trivial))
       have HS2 : Hid (StR ((V.setCell ⟨w2.heap.size, 0, none⟩ (.int .u64 v.Pp)).setCell ⟨w2.heap.size, 1, none⟩ (.int .u64 v.Dd)) (fun _ => True) { v2 with Pp := v.Pp, Dd := v.Dd } { g2 with pos := v.Pp, done := v.Dd }) := Lib.hid (let h := st2.mut (S' := fun _ => True) hmx (fun x _ hx e => hx e) (fun _ _ _ => trivial); { h with pos := rfl, done := rfl })
       have HBX := Lib.hid (below_of_mut hbv hbv.size hmx (fun x hx => by have := HB5.out.size; omega))
       clear hs2 hp2 hb2 hV hM hm kx kr st1 st2 hbv HPP hmx HX5 HR5 HS5 HV5 HB5 HPD hlt hsz
       generalize w2.heap.size = tb at *)
    | (refine wpList_load_box _ _ rfl rfl rfl bSt HXX.out rfl ?_)
    | (refine wpList_load_box _ _ rfl rfl rfl bSt HTX.out rfl ?_)
    | (go_at_call 12; refine (refSame_true HS1.out HS2.out HF.out HSM.out).mono ?_; rintro e W9 ⟨rfl, hb⟩; have HB9 := Lib.hid (below2 HBX.out hb); clear hb))
  go_ret
  exact ⟨rfl, HB9.out⟩
theorem law_Others (v : StV) (g : GSt) (pos : Int) (e : ERec) (w : World) (hs : StR w (fun _ => True) v g) (hf : g.fits) (he : GoodRec w e) :
    Calls Tryz.prog 4 #[.agg v.vals, .int .u64 pos, .agg #[.int .i64 e.r.cls, .int .i64 e.r.kind, .int .u64 e.r.frm, .int .i64 e.r.time, .int .u64 e.r.key, .int .u64 e.r.key2, .int .u64 e.r.key3, .int .i64 e.r.n, .int .i64 e.r.m, .string e.r.a, .string e.r.b, .string e.r.c, .slice e.vA e.vN e.vC]] w fun e w' => e = .returned (.bool true) ∧ Below w.heap.size w w' := by
  by_cases h2 : e.r.cls = 2
  · by_cases hd : v.Dd < e.r.frm
    · exact others_2g v g pos e w hs hf he h2 hd
    · exact others_2l v g pos e w hs hf he h2 (by omega)
  · by_cases h3 : e.r.cls = 3
    · by_cases hd : v.Dd < e.r.frm
      · exact others_3g v g pos e w hs hf he h3 hd
      · exact others_3l v g pos e w hs hf he h3 (by omega)
    · exact others_o v g pos e w hs hf he h2 h3
end Go.Proofs.YtgpkmellpllmgaaGreat
/-
  A State among a law's arguments, opened. Printed by gfold22.py.
-/
set_option linter.unusedVariables false
set_option linter.unusedSimpArgs false
namespace Go.Proofs.YtgpkmellpllmgaaGreat
open Go Go.RowKit Go.Proofs.Base Go.WideShapes Go.ChangeShapes
theorem cellsO_bool : Tryz.prog.cellsOf 4 = 1 := by kernel_rfl
theorem cellsO_u64s : Tryz.prog.cellsOf 62 = 1 := by kernel_rfl
theorem cellsO_state : Tryz.prog.cellsOf 35 = 12 := by kernel_rfl
theorem cellsO_Proc : Tryz.prog.cellsOf 70 = 2 := by kernel_rfl
theorem cellsO_sProc : Tryz.prog.cellsOf 25 = 1 := by kernel_rfl
theorem cellsO_Inst : Tryz.prog.cellsOf 61 = 3 := by kernel_rfl
theorem cellsO_sInst : Tryz.prog.cellsOf 26 = 1 := by kernel_rfl
theorem cellsO_Tok : Tryz.prog.cellsOf 42 = 6 := by kernel_rfl
theorem cellsO_sTok : Tryz.prog.cellsOf 27 = 1 := by kernel_rfl
theorem cellsO_Job : Tryz.prog.cellsOf 52 = 6 := by kernel_rfl
theorem cellsO_sJob : Tryz.prog.cellsOf 28 = 1 := by kernel_rfl
theorem cellsO_Tim : Tryz.prog.cellsOf 66 = 3 := by kernel_rfl
theorem cellsO_sTim : Tryz.prog.cellsOf 29 = 1 := by kernel_rfl
theorem cellsO_Sub : Tryz.prog.cellsOf 73 = 6 := by kernel_rfl
theorem cellsO_sSub : Tryz.prog.cellsOf 30 = 1 := by kernel_rfl
theorem cellsO_Kept : Tryz.prog.cellsOf 75 = 3 := by kernel_rfl
theorem cellsO_sKept : Tryz.prog.cellsOf 31 = 1 := by kernel_rfl
theorem cellsO_Lst : Tryz.prog.cellsOf 68 = 7 := by kernel_rfl
theorem cellsO_sLst : Tryz.prog.cellsOf 32 = 1 := by kernel_rfl
theorem cellsO_Msg : Tryz.prog.cellsOf 64 = 7 := by kernel_rfl
theorem cellsO_sMsg : Tryz.prog.cellsOf 33 = 1 := by kernel_rfl
section
variable {H : Type} {enc : TypeId × Value → H} {w : World} {base : Nat} {spare : Nat → Bool} {held : Bool}
theorem read_boolv {t : TypeId} {n : Nat} {c : Value} {x : DataW H × List MemPlace} (hu : Tryz.prog.underlying t = some .bool) (h : DataW.trod enc Tryz.prog w base spare held n t [c] = some x) : ∃ b, c = .bool b := by
  obtain ⟨b, e, _⟩ := DataW.trod_bool hu h
  exact ⟨b, by simpa using e⟩
theorem read_u64s {n : Nat} {c : Value} {x : DataW H × List MemPlace} (h : DataW.trod enc Tryz.prog w base spare held n 62 [c] = some x) (hl : Light 62 x.1) :
    ∃ l : List Int, Row w (fun _ => True) 1 l.length c (l.flatMap encU64) ∧ (∀ y ∈ l, u64 y) ∧ l.length * 8 ≤ 140737488351232 :=
  read_rows (ec := encU64) u64 ⟨0⟩ Tryz.underlying62 cells_uint64 (by kernel_rfl) lenU64 (by decide) (fun {n cs x} h hl => by
    obtain ⟨k, e, _, wk⟩ := DataW.trod_int Tryz.underlying24 h
    exact ⟨k, by simpa [encU64] using e, by have := bounds_u64 wk; exact this⟩) h hl
def GoodProc (w : World) (x : EProc) : Prop := (okS x.id) ∧ (okS x.bts)
set_option maxRecDepth 100000 in
theorem read_Proc {n : Nat} {cs : List Value} {x : DataW H × List MemPlace} (h : DataW.trod enc Tryz.prog w base spare held n 70 cs = some x) (hl : Light 70 x.1) : ∃ v : EProc, cs = encProc v ∧ GoodProc w v := by
  obtain ⟨xs, m, _, rfl, hcl, hlen, hf⟩ := DataW.trod_struct Tryz.underlying70 h
  match cs, hcl.trans cellsO_Proc, xs, hlen with
  | [c0, c1], _, [x0, x1], _ =>
    have g0 := fld hf (i := 0) rfl rfl cells_string (c := [c0]) rfl (x := x0) rfl
    obtain ⟨v0, rfl, w0⟩ := read_str Tryz.underlying9 (x := x0) g0 (light_part Tryz.underlying70 hl (j := 0) rfl rfl)
    have g1 := fld hf (i := 1) rfl rfl cells_string (c := [c1]) rfl (x := x1) rfl
    obtain ⟨v1, rfl, w1⟩ := read_str Tryz.underlying9 (x := x1) g1 (light_part Tryz.underlying70 hl (j := 1) rfl rfl)
    exact ⟨⟨v0, v1⟩, rfl, w0, w1⟩
theorem reads_Proc {n : Nat} {c : Value} {x : DataW H × List MemPlace} (h : DataW.trod enc Tryz.prog w base spare held n 25 [c] = some x) (hl : Light 25 x.1) :
    ∃ l : List EProc, Row w (fun _ => True) 2 l.length c (l.flatMap encProc) ∧ (∀ y ∈ l, GoodProc w y) ∧ l.length * 32 ≤ 140737488351232 :=
  read_rows (ec := encProc) (GoodProc w) ⟨⟨⟨#[]⟩, ⟨#[]⟩⟩⟩ Tryz.underlying25 cellsO_Proc (by kernel_rfl) lenProc (by decide) (fun h hl => read_Proc h hl) h hl
def GoodInst (w : World) (x : EInst) : Prop := (u64 x.key) ∧ (okS x.id) ∧ (VarsR w (fun _ => True) x.vA x.vN x.vC x.vars ∧ (∀ y ∈ x.vars, y.wf))
set_option maxRecDepth 100000 in
theorem read_Inst {n : Nat} {cs : List Value} {x : DataW H × List MemPlace} (h : DataW.trod enc Tryz.prog w base spare held n 61 cs = some x) (hl : Light 61 x.1) : ∃ v : EInst, cs = encInst v ∧ GoodInst w v := by
  obtain ⟨xs, m, _, rfl, hcl, hlen, hf⟩ := DataW.trod_struct Tryz.underlying61 h
  match cs, hcl.trans cellsO_Inst, xs, hlen with
  | [c0, c1, c2], _, [x0, x1, x2], _ =>
    have g0 := fld hf (i := 0) rfl rfl cells_uint64 (c := [c0]) rfl (x := x0) rfl
    obtain ⟨v0, rfl, w0⟩ := read_u64 Tryz.underlying24 (x := x0) g0
    have g1 := fld hf (i := 1) rfl rfl cells_string (c := [c1]) rfl (x := x1) rfl
    obtain ⟨v1, rfl, w1⟩ := read_str Tryz.underlying9 (x := x1) g1 (light_part Tryz.underlying61 hl (j := 1) rfl rfl)
    have g2 := fld hf (i := 2) rfl rfl cells_vars (c := [c2]) rfl (x := x2) rfl
    obtain ⟨l2, r2, y2, z2⟩ := read_varsR (x := x2) g2 (light_part Tryz.underlying61 hl (j := 2) rfl rfl)
    obtain ⟨A2, C2, e2, _, _⟩ := r2.open_
    subst e2
    exact ⟨⟨v0, v1, A2, l2.length, C2, l2⟩, rfl, w0, w1, ⟨⟨rfl, (by show l2.length * 48 ≤ _; omega), r2⟩, y2⟩⟩
theorem reads_Inst {n : Nat} {c : Value} {x : DataW H × List MemPlace} (h : DataW.trod enc Tryz.prog w base spare held n 26 [c] = some x) (hl : Light 26 x.1) :
    ∃ l : List EInst, Row w (fun _ => True) 3 l.length c (l.flatMap encInst) ∧ (∀ y ∈ l, GoodInst w y) ∧ l.length * 48 ≤ 140737488351232 :=
  read_rows (ec := encInst) (GoodInst w) ⟨⟨0, ⟨#[]⟩, none, 0, 0, []⟩⟩ Tryz.underlying26 cellsO_Inst (by kernel_rfl) lenInst (by decide) (fun h hl => read_Inst h hl) h hl
def GoodTok (w : World) (x : ETok) : Prop := (u64 x.key) ∧ (u64 x.inst) ∧ (u64 x.scope) ∧ (i64 x.node) ∧ (i64 x.flow) ∧ (okS x.stuck)
set_option maxRecDepth 100000 in
theorem read_Tok {n : Nat} {cs : List Value} {x : DataW H × List MemPlace} (h : DataW.trod enc Tryz.prog w base spare held n 42 cs = some x) (hl : Light 42 x.1) : ∃ v : ETok, cs = encTok v ∧ GoodTok w v := by
  obtain ⟨xs, m, _, rfl, hcl, hlen, hf⟩ := DataW.trod_struct Tryz.underlying42 h
  match cs, hcl.trans cellsO_Tok, xs, hlen with
  | [c0, c1, c2, c3, c4, c5], _, [x0, x1, x2, x3, x4, x5], _ =>
    have g0 := fld hf (i := 0) rfl rfl cells_uint64 (c := [c0]) rfl (x := x0) rfl
    obtain ⟨v0, rfl, w0⟩ := read_u64 Tryz.underlying24 (x := x0) g0
    have g1 := fld hf (i := 1) rfl rfl cells_uint64 (c := [c1]) rfl (x := x1) rfl
    obtain ⟨v1, rfl, w1⟩ := read_u64 Tryz.underlying24 (x := x1) g1
    have g2 := fld hf (i := 2) rfl rfl cells_uint64 (c := [c2]) rfl (x := x2) rfl
    obtain ⟨v2, rfl, w2⟩ := read_u64 Tryz.underlying24 (x := x2) g2
    have g3 := fld hf (i := 3) rfl rfl cells_int (c := [c3]) rfl (x := x3) rfl
    obtain ⟨v3, rfl, w3⟩ := read_i64 Tryz.underlying3 (x := x3) g3
    have g4 := fld hf (i := 4) rfl rfl cells_int (c := [c4]) rfl (x := x4) rfl
    obtain ⟨v4, rfl, w4⟩ := read_i64 Tryz.underlying3 (x := x4) g4
    have g5 := fld hf (i := 5) rfl rfl cells_string (c := [c5]) rfl (x := x5) rfl
    obtain ⟨v5, rfl, w5⟩ := read_str Tryz.underlying9 (x := x5) g5 (light_part Tryz.underlying42 hl (j := 5) rfl rfl)
    exact ⟨⟨v0, v1, v2, v3, v4, v5⟩, rfl, w0, w1, w2, w3, w4, w5⟩
theorem reads_Tok {n : Nat} {c : Value} {x : DataW H × List MemPlace} (h : DataW.trod enc Tryz.prog w base spare held n 27 [c] = some x) (hl : Light 27 x.1) :
    ∃ l : List ETok, Row w (fun _ => True) 6 l.length c (l.flatMap encTok) ∧ (∀ y ∈ l, GoodTok w y) ∧ l.length * 56 ≤ 140737488351232 :=
  read_rows (ec := encTok) (GoodTok w) ⟨⟨0, 0, 0, 0, 0, ⟨#[]⟩⟩⟩ Tryz.underlying27 cellsO_Tok (by kernel_rfl) lenTok (by decide) (fun h hl => read_Tok h hl) h hl
def GoodJob (w : World) (x : EJob) : Prop := (u64 x.key) ∧ (u64 x.token) ∧ (okS x.typ) ∧ (i64 x.retries) ∧ (okS x.worker) ∧ (i64 x.till)
set_option maxRecDepth 100000 in
theorem read_Job {n : Nat} {cs : List Value} {x : DataW H × List MemPlace} (h : DataW.trod enc Tryz.prog w base spare held n 52 cs = some x) (hl : Light 52 x.1) : ∃ v : EJob, cs = encJob v ∧ GoodJob w v := by
  obtain ⟨xs, m, _, rfl, hcl, hlen, hf⟩ := DataW.trod_struct Tryz.underlying52 h
  match cs, hcl.trans cellsO_Job, xs, hlen with
  | [c0, c1, c2, c3, c4, c5], _, [x0, x1, x2, x3, x4, x5], _ =>
    have g0 := fld hf (i := 0) rfl rfl cells_uint64 (c := [c0]) rfl (x := x0) rfl
    obtain ⟨v0, rfl, w0⟩ := read_u64 Tryz.underlying24 (x := x0) g0
    have g1 := fld hf (i := 1) rfl rfl cells_uint64 (c := [c1]) rfl (x := x1) rfl
    obtain ⟨v1, rfl, w1⟩ := read_u64 Tryz.underlying24 (x := x1) g1
    have g2 := fld hf (i := 2) rfl rfl cells_string (c := [c2]) rfl (x := x2) rfl
    obtain ⟨v2, rfl, w2⟩ := read_str Tryz.underlying9 (x := x2) g2 (light_part Tryz.underlying52 hl (j := 2) rfl rfl)
    have g3 := fld hf (i := 3) rfl rfl cells_int (c := [c3]) rfl (x := x3) rfl
    obtain ⟨v3, rfl, w3⟩ := read_i64 Tryz.underlying3 (x := x3) g3
    have g4 := fld hf (i := 4) rfl rfl cells_string (c := [c4]) rfl (x := x4) rfl
    obtain ⟨v4, rfl, w4⟩ := read_str Tryz.underlying9 (x := x4) g4 (light_part Tryz.underlying52 hl (j := 4) rfl rfl)
    have g5 := fld hf (i := 5) rfl rfl cells_int64 (c := [c5]) rfl (x := x5) rfl
    obtain ⟨v5, rfl, w5⟩ := read_i64 Tryz.underlying2 (x := x5) g5
    exact ⟨⟨v0, v1, v2, v3, v4, v5⟩, rfl, w0, w1, w2, w3, w4, w5⟩
theorem reads_Job {n : Nat} {c : Value} {x : DataW H × List MemPlace} (h : DataW.trod enc Tryz.prog w base spare held n 28 [c] = some x) (hl : Light 28 x.1) :
    ∃ l : List EJob, Row w (fun _ => True) 6 l.length c (l.flatMap encJob) ∧ (∀ y ∈ l, GoodJob w y) ∧ l.length * 64 ≤ 140737488351232 :=
  read_rows (ec := encJob) (GoodJob w) ⟨⟨0, 0, ⟨#[]⟩, 0, ⟨#[]⟩, 0⟩⟩ Tryz.underlying28 cellsO_Job (by kernel_rfl) lenJob (by decide) (fun h hl => read_Job h hl) h hl
def GoodTim (w : World) (x : ETim) : Prop := (u64 x.token) ∧ (i64 x.node) ∧ (i64 x.due)
set_option maxRecDepth 100000 in
theorem read_Tim {n : Nat} {cs : List Value} {x : DataW H × List MemPlace} (h : DataW.trod enc Tryz.prog w base spare held n 66 cs = some x) (hl : Light 66 x.1) : ∃ v : ETim, cs = encTim v ∧ GoodTim w v := by
  obtain ⟨xs, m, _, rfl, hcl, hlen, hf⟩ := DataW.trod_struct Tryz.underlying66 h
  match cs, hcl.trans cellsO_Tim, xs, hlen with
  | [c0, c1, c2], _, [x0, x1, x2], _ =>
    have g0 := fld hf (i := 0) rfl rfl cells_uint64 (c := [c0]) rfl (x := x0) rfl
    obtain ⟨v0, rfl, w0⟩ := read_u64 Tryz.underlying24 (x := x0) g0
    have g1 := fld hf (i := 1) rfl rfl cells_int (c := [c1]) rfl (x := x1) rfl
    obtain ⟨v1, rfl, w1⟩ := read_i64 Tryz.underlying3 (x := x1) g1
    have g2 := fld hf (i := 2) rfl rfl cells_int64 (c := [c2]) rfl (x := x2) rfl
    obtain ⟨v2, rfl, w2⟩ := read_i64 Tryz.underlying2 (x := x2) g2
    exact ⟨⟨v0, v1, v2⟩, rfl, w0, w1, w2⟩
theorem reads_Tim {n : Nat} {c : Value} {x : DataW H × List MemPlace} (h : DataW.trod enc Tryz.prog w base spare held n 29 [c] = some x) (hl : Light 29 x.1) :
    ∃ l : List ETim, Row w (fun _ => True) 3 l.length c (l.flatMap encTim) ∧ (∀ y ∈ l, GoodTim w y) ∧ l.length * 24 ≤ 140737488351232 :=
  read_rows (ec := encTim) (GoodTim w) ⟨⟨0, 0, 0⟩⟩ Tryz.underlying29 cellsO_Tim (by kernel_rfl) lenTim (by decide) (fun h hl => read_Tim h hl) h hl
def GoodSub (w : World) (x : ESub) : Prop := (u64 x.token) ∧ (u64 x.inst) ∧ (i64 x.node) ∧ (okS x.name) ∧ (okS x.key)
set_option maxRecDepth 100000 in
theorem read_Sub {n : Nat} {cs : List Value} {x : DataW H × List MemPlace} (h : DataW.trod enc Tryz.prog w base spare held n 73 cs = some x) (hl : Light 73 x.1) : ∃ v : ESub, cs = encSub v ∧ GoodSub w v := by
  obtain ⟨xs, m, _, rfl, hcl, hlen, hf⟩ := DataW.trod_struct Tryz.underlying73 h
  match cs, hcl.trans cellsO_Sub, xs, hlen with
  | [c0, c1, c2, c3, c4, c5], _, [x0, x1, x2, x3, x4, x5], _ =>
    have g0 := fld hf (i := 0) rfl rfl cells_uint64 (c := [c0]) rfl (x := x0) rfl
    obtain ⟨v0, rfl, w0⟩ := read_u64 Tryz.underlying24 (x := x0) g0
    have g1 := fld hf (i := 1) rfl rfl cells_uint64 (c := [c1]) rfl (x := x1) rfl
    obtain ⟨v1, rfl, w1⟩ := read_u64 Tryz.underlying24 (x := x1) g1
    have g2 := fld hf (i := 2) rfl rfl cells_int (c := [c2]) rfl (x := x2) rfl
    obtain ⟨v2, rfl, w2⟩ := read_i64 Tryz.underlying3 (x := x2) g2
    have g3 := fld hf (i := 3) rfl rfl cells_string (c := [c3]) rfl (x := x3) rfl
    obtain ⟨v3, rfl, w3⟩ := read_str Tryz.underlying9 (x := x3) g3 (light_part Tryz.underlying73 hl (j := 3) rfl rfl)
    have g4 := fld hf (i := 4) rfl rfl cells_string (c := [c4]) rfl (x := x4) rfl
    obtain ⟨v4, rfl, w4⟩ := read_str Tryz.underlying9 (x := x4) g4 (light_part Tryz.underlying73 hl (j := 4) rfl rfl)
    have g5 := fld hf (i := 5) rfl rfl cellsO_bool (c := [c5]) rfl (x := x5) rfl
    obtain ⟨v5, rfl⟩ := read_boolv Tryz.underlying4 (x := x5) g5
    exact ⟨⟨v0, v1, v2, v3, v4, v5⟩, rfl, w0, w1, w2, w3, w4⟩
theorem reads_Sub {n : Nat} {c : Value} {x : DataW H × List MemPlace} (h : DataW.trod enc Tryz.prog w base spare held n 30 [c] = some x) (hl : Light 30 x.1) :
    ∃ l : List ESub, Row w (fun _ => True) 6 l.length c (l.flatMap encSub) ∧ (∀ y ∈ l, GoodSub w y) ∧ l.length * 64 ≤ 140737488351232 :=
  read_rows (ec := encSub) (GoodSub w) ⟨⟨0, 0, 0, ⟨#[]⟩, ⟨#[]⟩, false⟩⟩ Tryz.underlying30 cellsO_Sub (by kernel_rfl) lenSub (by decide) (fun h hl => read_Sub h hl) h hl
def GoodKept (w : World) (x : EKept) : Prop := (u64 x.token) ∧ (u64 x.message) ∧ (i64 x.node)
set_option maxRecDepth 100000 in
theorem read_Kept {n : Nat} {cs : List Value} {x : DataW H × List MemPlace} (h : DataW.trod enc Tryz.prog w base spare held n 75 cs = some x) (hl : Light 75 x.1) : ∃ v : EKept, cs = encKept v ∧ GoodKept w v := by
  obtain ⟨xs, m, _, rfl, hcl, hlen, hf⟩ := DataW.trod_struct Tryz.underlying75 h
  match cs, hcl.trans cellsO_Kept, xs, hlen with
  | [c0, c1, c2], _, [x0, x1, x2], _ =>
    have g0 := fld hf (i := 0) rfl rfl cells_uint64 (c := [c0]) rfl (x := x0) rfl
    obtain ⟨v0, rfl, w0⟩ := read_u64 Tryz.underlying24 (x := x0) g0
    have g1 := fld hf (i := 1) rfl rfl cells_uint64 (c := [c1]) rfl (x := x1) rfl
    obtain ⟨v1, rfl, w1⟩ := read_u64 Tryz.underlying24 (x := x1) g1
    have g2 := fld hf (i := 2) rfl rfl cells_int (c := [c2]) rfl (x := x2) rfl
    obtain ⟨v2, rfl, w2⟩ := read_i64 Tryz.underlying3 (x := x2) g2
    exact ⟨⟨v0, v1, v2⟩, rfl, w0, w1, w2⟩
theorem reads_Kept {n : Nat} {c : Value} {x : DataW H × List MemPlace} (h : DataW.trod enc Tryz.prog w base spare held n 31 [c] = some x) (hl : Light 31 x.1) :
    ∃ l : List EKept, Row w (fun _ => True) 3 l.length c (l.flatMap encKept) ∧ (∀ y ∈ l, GoodKept w y) ∧ l.length * 24 ≤ 140737488351232 :=
  read_rows (ec := encKept) (GoodKept w) ⟨⟨0, 0, 0⟩⟩ Tryz.underlying31 cellsO_Kept (by kernel_rfl) lenKept (by decide) (fun h hl => read_Kept h hl) h hl
def GoodLst (w : World) (x : ELst) : Prop := (u64 x.token) ∧ (u64 x.inst) ∧ (i64 x.node) ∧ (okS x.name) ∧ (okS x.key) ∧ (u64 x.message) ∧ (VarsR w (fun _ => True) x.vA x.vN x.vC x.vars ∧ (∀ y ∈ x.vars, y.wf))
set_option maxRecDepth 100000 in
theorem read_Lst {n : Nat} {cs : List Value} {x : DataW H × List MemPlace} (h : DataW.trod enc Tryz.prog w base spare held n 68 cs = some x) (hl : Light 68 x.1) : ∃ v : ELst, cs = encLst v ∧ GoodLst w v := by
  obtain ⟨xs, m, _, rfl, hcl, hlen, hf⟩ := DataW.trod_struct Tryz.underlying68 h
  match cs, hcl.trans cellsO_Lst, xs, hlen with
  | [c0, c1, c2, c3, c4, c5, c6], _, [x0, x1, x2, x3, x4, x5, x6], _ =>
    have g0 := fld hf (i := 0) rfl rfl cells_uint64 (c := [c0]) rfl (x := x0) rfl
    obtain ⟨v0, rfl, w0⟩ := read_u64 Tryz.underlying24 (x := x0) g0
    have g1 := fld hf (i := 1) rfl rfl cells_uint64 (c := [c1]) rfl (x := x1) rfl
    obtain ⟨v1, rfl, w1⟩ := read_u64 Tryz.underlying24 (x := x1) g1
    have g2 := fld hf (i := 2) rfl rfl cells_int (c := [c2]) rfl (x := x2) rfl
    obtain ⟨v2, rfl, w2⟩ := read_i64 Tryz.underlying3 (x := x2) g2
    have g3 := fld hf (i := 3) rfl rfl cells_string (c := [c3]) rfl (x := x3) rfl
    obtain ⟨v3, rfl, w3⟩ := read_str Tryz.underlying9 (x := x3) g3 (light_part Tryz.underlying68 hl (j := 3) rfl rfl)
    have g4 := fld hf (i := 4) rfl rfl cells_string (c := [c4]) rfl (x := x4) rfl
    obtain ⟨v4, rfl, w4⟩ := read_str Tryz.underlying9 (x := x4) g4 (light_part Tryz.underlying68 hl (j := 4) rfl rfl)
    have g5 := fld hf (i := 5) rfl rfl cells_uint64 (c := [c5]) rfl (x := x5) rfl
    obtain ⟨v5, rfl, w5⟩ := read_u64 Tryz.underlying24 (x := x5) g5
    have g6 := fld hf (i := 6) rfl rfl cells_vars (c := [c6]) rfl (x := x6) rfl
    obtain ⟨l6, r6, y6, z6⟩ := read_varsR (x := x6) g6 (light_part Tryz.underlying68 hl (j := 6) rfl rfl)
    obtain ⟨A6, C6, e6, _, _⟩ := r6.open_
    subst e6
    exact ⟨⟨v0, v1, v2, v3, v4, v5, A6, l6.length, C6, l6⟩, rfl, w0, w1, w2, w3, w4, w5, ⟨⟨rfl, (by show l6.length * 48 ≤ _; omega), r6⟩, y6⟩⟩
theorem reads_Lst {n : Nat} {c : Value} {x : DataW H × List MemPlace} (h : DataW.trod enc Tryz.prog w base spare held n 32 [c] = some x) (hl : Light 32 x.1) :
    ∃ l : List ELst, Row w (fun _ => True) 7 l.length c (l.flatMap encLst) ∧ (∀ y ∈ l, GoodLst w y) ∧ l.length * 88 ≤ 140737488351232 :=
  read_rows (ec := encLst) (GoodLst w) ⟨⟨0, 0, 0, ⟨#[]⟩, ⟨#[]⟩, 0, none, 0, 0, []⟩⟩ Tryz.underlying32 cellsO_Lst (by kernel_rfl) lenLst (by decide) (fun h hl => read_Lst h hl) h hl
def GoodMsg (w : World) (x : EMsg) : Prop := (u64 x.key) ∧ (okS x.name) ∧ (okS x.dest) ∧ (okS x.id) ∧ (i64 x.till) ∧ (VarsR w (fun _ => True) x.vA x.vN x.vC x.vars ∧ (∀ y ∈ x.vars, y.wf)) ∧ (IntsR w (fun _ => True) x.iA x.iN x.iC x.insts ∧ x.iN * 8 ≤ 140737488351232)
set_option maxRecDepth 100000 in
theorem read_Msg {n : Nat} {cs : List Value} {x : DataW H × List MemPlace} (h : DataW.trod enc Tryz.prog w base spare held n 64 cs = some x) (hl : Light 64 x.1) : ∃ v : EMsg, cs = encMsg v ∧ GoodMsg w v := by
  obtain ⟨xs, m, _, rfl, hcl, hlen, hf⟩ := DataW.trod_struct Tryz.underlying64 h
  match cs, hcl.trans cellsO_Msg, xs, hlen with
  | [c0, c1, c2, c3, c4, c5, c6], _, [x0, x1, x2, x3, x4, x5, x6], _ =>
    have g0 := fld hf (i := 0) rfl rfl cells_uint64 (c := [c0]) rfl (x := x0) rfl
    obtain ⟨v0, rfl, w0⟩ := read_u64 Tryz.underlying24 (x := x0) g0
    have g1 := fld hf (i := 1) rfl rfl cells_string (c := [c1]) rfl (x := x1) rfl
    obtain ⟨v1, rfl, w1⟩ := read_str Tryz.underlying9 (x := x1) g1 (light_part Tryz.underlying64 hl (j := 1) rfl rfl)
    have g2 := fld hf (i := 2) rfl rfl cells_string (c := [c2]) rfl (x := x2) rfl
    obtain ⟨v2, rfl, w2⟩ := read_str Tryz.underlying9 (x := x2) g2 (light_part Tryz.underlying64 hl (j := 2) rfl rfl)
    have g3 := fld hf (i := 3) rfl rfl cells_string (c := [c3]) rfl (x := x3) rfl
    obtain ⟨v3, rfl, w3⟩ := read_str Tryz.underlying9 (x := x3) g3 (light_part Tryz.underlying64 hl (j := 3) rfl rfl)
    have g4 := fld hf (i := 4) rfl rfl cells_int64 (c := [c4]) rfl (x := x4) rfl
    obtain ⟨v4, rfl, w4⟩ := read_i64 Tryz.underlying2 (x := x4) g4
    have g5 := fld hf (i := 5) rfl rfl cells_vars (c := [c5]) rfl (x := x5) rfl
    obtain ⟨l5, r5, y5, z5⟩ := read_varsR (x := x5) g5 (light_part Tryz.underlying64 hl (j := 5) rfl rfl)
    obtain ⟨A5, C5, e5, _, _⟩ := r5.open_
    subst e5
    have g6 := fld hf (i := 6) rfl rfl cellsO_u64s (c := [c6]) rfl (x := x6) rfl
    obtain ⟨l6, r6, y6, z6⟩ := read_u64s (x := x6) g6 (light_part Tryz.underlying64 hl (j := 6) rfl rfl)
    obtain ⟨A6, C6, e6, _, _⟩ := r6.open_
    subst e6
    exact ⟨⟨v0, v1, v2, v3, v4, A5, l5.length, C5, l5, A6, l6.length, C6, l6⟩, rfl, w0, w1, w2, w3, w4, ⟨⟨rfl, (by show l5.length * 48 ≤ _; omega), r5⟩, y5⟩, ⟨⟨rfl, r6⟩, z6⟩⟩
theorem reads_Msg {n : Nat} {c : Value} {x : DataW H × List MemPlace} (h : DataW.trod enc Tryz.prog w base spare held n 33 [c] = some x) (hl : Light 33 x.1) :
    ∃ l : List EMsg, Row w (fun _ => True) 7 l.length c (l.flatMap encMsg) ∧ (∀ y ∈ l, GoodMsg w y) ∧ l.length * 112 ≤ 140737488351232 :=
  read_rows (ec := encMsg) (GoodMsg w) ⟨⟨0, ⟨#[]⟩, ⟨#[]⟩, ⟨#[]⟩, 0, none, 0, 0, [], none, 0, 0, []⟩⟩ Tryz.underlying33 cellsO_Msg (by kernel_rfl) lenMsg (by decide) (fun h hl => read_Msg h hl) h hl
structure GoodSt (w : World) (v : StV) (g : GSt) : Prop where
  st : StR w (fun _ => True) v g
  nums : u64 g.pos ∧ u64 g.done ∧ u64 g.made
  procs : (∀ x ∈ g.procs, GoodProc w x) ∧ g.procs.length * 32 ≤ 140737488351232
  insts : (∀ x ∈ g.insts, GoodInst w x) ∧ g.insts.length * 48 ≤ 140737488351232
  tokens : (∀ x ∈ g.tokens, GoodTok w x) ∧ g.tokens.length * 56 ≤ 140737488351232
  jobs : (∀ x ∈ g.jobs, GoodJob w x) ∧ g.jobs.length * 64 ≤ 140737488351232
  timers : (∀ x ∈ g.timers, GoodTim w x) ∧ g.timers.length * 24 ≤ 140737488351232
  subs : (∀ x ∈ g.subs, GoodSub w x) ∧ g.subs.length * 64 ≤ 140737488351232
  kept : (∀ x ∈ g.kept, GoodKept w x) ∧ g.kept.length * 24 ≤ 140737488351232
  listed : (∀ x ∈ g.listed, GoodLst w x) ∧ g.listed.length * 88 ≤ 140737488351232
  msgs : (∀ x ∈ g.msgs, GoodMsg w x) ∧ g.msgs.length * 112 ≤ 140737488351232
theorem GoodSt.fits {w : World} {v : StV} {g : GSt} (h : GoodSt w v g) : g.fits := by
  have h1 := h.procs.2; have h2 := h.insts.2; have h3 := h.tokens.2; have h4 := h.jobs.2; have h5 := h.timers.2; have h6 := h.subs.2; have h7 := h.kept.2; have h8 := h.listed.2; have h9 := h.msgs.2
  unfold GSt.fits; omega
theorem GoodSt.wf {w : World} {v : StV} {g : GSt} (h : GoodSt w v g) : g.wf :=
  ⟨fun x hx => (h.tokens.1 x hx).1, fun x hx => (h.jobs.1 x hx).2.1, fun x hx => (h.timers.1 x hx).1, fun x hx => (h.subs.1 x hx).1⟩
theorem GoodSt.ints {w : World} {v : StV} {g : GSt} (h : GoodSt w v g) : ∀ x ∈ g.msgs, x.insts.length * 8 ≤ 140737488351232 := fun x hx => by
  have h1 := (h.msgs.1 x hx).2.2.2.2.2.2
  rw [h1.1.1]; exact h1.2
set_option maxRecDepth 100000 in
set_option maxHeartbeats 1000000 in
theorem read_state {n : Nat} {cs : List Value} {x : DataW H × List MemPlace} (h : DataW.trod enc Tryz.prog w base spare held n 35 cs = some x) (hl : Light 35 x.1) : ∃ v g, cs = v.vals.toList ∧ GoodSt w v g := by
  obtain ⟨xs, m, _, rfl, hcl, hlen, hf⟩ := DataW.trod_struct Tryz.underlying35 h
  match cs, hcl.trans cellsO_state, xs, hlen with
  | [c0, c1, c2, c3, c4, c5, c6, c7, c8, c9, c10, c11], _, [x0, x1, x2, x3, x4, x5, x6, x7, x8, x9, x10, x11], _ =>
    have g0 := fld hf (i := 0) rfl rfl cells_uint64 (c := [c0]) rfl (x := x0) rfl
    obtain ⟨v0, rfl, w0⟩ := read_u64 Tryz.underlying24 (x := x0) g0
    have g1 := fld hf (i := 1) rfl rfl cells_uint64 (c := [c1]) rfl (x := x1) rfl
    obtain ⟨v1, rfl, w1⟩ := read_u64 Tryz.underlying24 (x := x1) g1
    have g2 := fld hf (i := 2) rfl rfl cells_uint64 (c := [c2]) rfl (x := x2) rfl
    obtain ⟨v2, rfl, w2⟩ := read_u64 Tryz.underlying24 (x := x2) g2
    have g3 := fld hf (i := 3) rfl rfl cellsO_sProc (c := [c3]) rfl (x := x3) rfl
    obtain ⟨l3, r3, y3, z3⟩ := reads_Proc (x := x3) g3 (light_part Tryz.underlying35 hl (j := 3) rfl rfl)
    obtain ⟨A3, C3, e3, _, _⟩ := r3.open_
    subst e3
    have g4 := fld hf (i := 4) rfl rfl cellsO_sInst (c := [c4]) rfl (x := x4) rfl
    obtain ⟨l4, r4, y4, z4⟩ := reads_Inst (x := x4) g4 (light_part Tryz.underlying35 hl (j := 4) rfl rfl)
    obtain ⟨A4, C4, e4, _, _⟩ := r4.open_
    subst e4
    have g5 := fld hf (i := 5) rfl rfl cellsO_sTok (c := [c5]) rfl (x := x5) rfl
    obtain ⟨l5, r5, y5, z5⟩ := reads_Tok (x := x5) g5 (light_part Tryz.underlying35 hl (j := 5) rfl rfl)
    obtain ⟨A5, C5, e5, _, _⟩ := r5.open_
    subst e5
    have g6 := fld hf (i := 6) rfl rfl cellsO_sJob (c := [c6]) rfl (x := x6) rfl
    obtain ⟨l6, r6, y6, z6⟩ := reads_Job (x := x6) g6 (light_part Tryz.underlying35 hl (j := 6) rfl rfl)
    obtain ⟨A6, C6, e6, _, _⟩ := r6.open_
    subst e6
    have g7 := fld hf (i := 7) rfl rfl cellsO_sTim (c := [c7]) rfl (x := x7) rfl
    obtain ⟨l7, r7, y7, z7⟩ := reads_Tim (x := x7) g7 (light_part Tryz.underlying35 hl (j := 7) rfl rfl)
    obtain ⟨A7, C7, e7, _, _⟩ := r7.open_
    subst e7
    have g8 := fld hf (i := 8) rfl rfl cellsO_sSub (c := [c8]) rfl (x := x8) rfl
    obtain ⟨l8, r8, y8, z8⟩ := reads_Sub (x := x8) g8 (light_part Tryz.underlying35 hl (j := 8) rfl rfl)
    obtain ⟨A8, C8, e8, _, _⟩ := r8.open_
    subst e8
    have g9 := fld hf (i := 9) rfl rfl cellsO_sKept (c := [c9]) rfl (x := x9) rfl
    obtain ⟨l9, r9, y9, z9⟩ := reads_Kept (x := x9) g9 (light_part Tryz.underlying35 hl (j := 9) rfl rfl)
    obtain ⟨A9, C9, e9, _, _⟩ := r9.open_
    subst e9
    have g10 := fld hf (i := 10) rfl rfl cellsO_sLst (c := [c10]) rfl (x := x10) rfl
    obtain ⟨l10, r10, y10, z10⟩ := reads_Lst (x := x10) g10 (light_part Tryz.underlying35 hl (j := 10) rfl rfl)
    obtain ⟨A10, C10, e10, _, _⟩ := r10.open_
    subst e10
    have g11 := fld hf (i := 11) rfl rfl cellsO_sMsg (c := [c11]) rfl (x := x11) rfl
    obtain ⟨l11, r11, y11, z11⟩ := reads_Msg (x := x11) g11 (light_part Tryz.underlying35 hl (j := 11) rfl rfl)
    obtain ⟨A11, C11, e11, _, _⟩ := r11.open_
    subst e11
    exact ⟨⟨v0, v1, v2, A3, l3.length, C3, A4, l4.length, C4, A5, l5.length, C5, A6, l6.length, C6, A7, l7.length, C7, A8, l8.length, C8, A9, l9.length, C9, A10, l10.length, C10, A11, l11.length, C11⟩, ⟨v0, v1, v2, l3, l4, l5, l6, l7, l8, l9, l10, l11⟩, rfl, ⟨⟨rfl, rfl, rfl, ⟨rfl, r3⟩, ⟨rfl, r4⟩, ⟨rfl, r5⟩, ⟨rfl, r6⟩, ⟨rfl, r7⟩, ⟨rfl, r8⟩, ⟨rfl, r9⟩, ⟨rfl, r10⟩, ⟨rfl, r11⟩, fun x hx => (y4 x hx).2.2.1, fun x hx => (y10 x hx).2.2.2.2.2.2.1, fun x hx => (y11 x hx).2.2.2.2.2.1.1, fun x hx => (y11 x hx).2.2.2.2.2.2.1⟩, ⟨w0, w1, w2⟩, ⟨y3, z3⟩, ⟨y4, z4⟩, ⟨y5, z5⟩, ⟨y6, z6⟩, ⟨y7, z7⟩, ⟨y8, z8⟩, ⟨y9, z9⟩, ⟨y10, z10⟩, ⟨y11, z11⟩⟩⟩
end
end Go.Proofs.YtgpkmellpllmgaaGreat
