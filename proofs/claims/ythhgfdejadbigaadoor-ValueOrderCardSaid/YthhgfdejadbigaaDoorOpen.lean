/-
  The arguments of the laws, opened: values, variables, records as data. Printed by genopen.py.
-/
import Derived.Test.YthhgfdejadbigaaDoorValP
import Derived.Test.YthhgfdejadbigaaDoorRows
import Derived.Deep.Slices
import Derived.Deep.Fields
import Derived.SizedLaws
import Derived.OpenShut
set_option linter.unusedVariables false
set_option linter.unusedSimpArgs false
namespace Go.Proofs.YthhgfdejadbigaaDoor
open Go Go.RowKit Go.Proofs.Base Go.WideShapes Go.ChangeShapes

theorem cells_int : Tryd.prog.cellsOf 3 = 1 := by kernel_rfl
theorem cells_int64 : Tryd.prog.cellsOf 2 = 1 := by kernel_rfl
theorem cells_uint64 : Tryd.prog.cellsOf 89 = 1 := by kernel_rfl
theorem cells_string : Tryd.prog.cellsOf 9 = 1 := by kernel_rfl
theorem cells_vars : Tryd.prog.cellsOf 29 = 1 := by kernel_rfl
theorem cells_value : Tryd.prog.cellsOf 23 = 3 := by kernel_rfl
theorem cells_var : Tryd.prog.cellsOf 60 = 4 := by kernel_rfl

section
variable {H : Type} {enc : TypeId × Value → H} {w : World} {base : Nat} {spare : Nat → Bool} {held : Bool}

/-- no string, slice or map of it is beyond the reach -/
def Light (t : TypeId) (d : DataW H) : Prop := ∀ n ∈ d.weights Tryd.prog t, n ≤ 140737488351232
theorem light_part {t : TypeId} {fs : Array Field} {ds : List (DataW H)} (hu : Tryd.prog.underlying t = some (.struct fs)) (h : Light t (.agg ds)) {j : Nat} {f : Field} {d : DataW H} (hf : fs[j]? = some f) (hd : ds[j]? = some d) : Light f.type d := by
  intro n hn
  refine h n ?_
  simp only [DataW.weights, hu]
  exact DataW.weights_mem_each (j := j) (by simp [hf]) hd n hn
theorem mem_weightsAll {e : TypeId} : ∀ {l : List (DataW H)} {d : DataW H}, d ∈ l → ∀ n ∈ d.weights Tryd.prog e, n ∈ DataW.weightsAll Tryd.prog e l
  | x :: r, d, h, n, hn => by
    simp only [DataW.weightsAll, List.mem_append]
    rcases List.mem_cons.1 h with rfl | h
    · exact .inl hn
    · exact .inr (mem_weightsAll h n hn)
theorem light_elem {t e : TypeId} {es sp : List (DataW H)} (hu : Tryd.prog.underlying t = some (.slice e)) (h : Light t (.slice es sp)) {d : DataW H} (hd : d ∈ es) : Light e d := by
  intro n hn
  refine h n ?_
  simp only [DataW.weights, hu, List.mem_cons, List.mem_append]
  exact .inr (.inl (mem_weightsAll hd n hn))
theorem fld {fs : Array Field} {cs : List Value} {xs : List (DataW H × List MemPlace)} {m : Nat} (hf : ∀ (i : Nat) (f : Field), fs[i]? = some f → DataW.trod enc Tryd.prog w base spare held m f.type ((cs.drop f.offset).take (Tryd.prog.cellsOf f.type)) = xs[i]?)
    {i : Nat} {f : Field} (hi : fs[i]? = some f) {t : TypeId} (ht : f.type = t) {k : Nat} (hk : Tryd.prog.cellsOf t = k) {c : List Value} (hc : (cs.drop f.offset).take k = c) {x : DataW H × List MemPlace} (hx : xs[i]? = some x) : DataW.trod enc Tryd.prog w base spare held m t c = some x := by
  have h := hf i f hi
  rw [ht, hk, hc, hx] at h
  exact h
theorem read_i64 {t : TypeId} {n : Nat} {c : Value} {x : DataW H × List MemPlace} (hu : Tryd.prog.underlying t = some (.int .i64)) (h : DataW.trod enc Tryd.prog w base spare held n t [c] = some x) : ∃ k, c = .int .i64 k ∧ i64 k := by
  obtain ⟨k, e, _, wk⟩ := DataW.trod_int hu h
  exact ⟨k, by simpa using e, by have := bounds_i64 wk; exact this⟩
theorem read_u64 {t : TypeId} {n : Nat} {c : Value} {x : DataW H × List MemPlace} (hu : Tryd.prog.underlying t = some (.int .u64)) (h : DataW.trod enc Tryd.prog w base spare held n t [c] = some x) : ∃ k, c = .int .u64 k ∧ u64 k := by
  obtain ⟨k, e, _, wk⟩ := DataW.trod_int hu h
  exact ⟨k, by simpa using e, by have := bounds_u64 wk; exact this⟩
theorem read_str {t : TypeId} {n : Nat} {c : Value} {x : DataW H × List MemPlace} (hu : Tryd.prog.underlying t = some .string) (h : DataW.trod enc Tryd.prog w base spare held n t [c] = some x) (hl : Light t x.1) : ∃ s, c = .string s ∧ okS s := by
  obtain ⟨s, e, rfl, _⟩ := DataW.trod_string hu h
  refine ⟨s, by simpa using e, ?_⟩
  have := hl s.data.toList.length (by simp [DataW.weights])
  exact Nat.le_trans (by show s.data.size ≤ _; simp) this

theorem varCells_get {l : List GVar} {i j : Nat} {u : Value} (h : i < l.length) (hj : j < 4) (hu : (varCells l)[i * 4 + j]? = some u) : l[i].cells[j]? = some u := by
  obtain ⟨a0, a1, a2, a3⟩ := varCells_at h
  match j, hj with
  | 0, _ => rw [a0] at hu; exact hu
  | 1, _ => rw [a1] at hu; exact hu
  | 2, _ => rw [a2] at hu; exact hu
  | 3, _ => rw [a3] at hu; exact hu

set_option maxRecDepth 100000 in
theorem read_value {n : Nat} {cs : List Value} {x : DataW H × List MemPlace} (h : DataW.trod enc Tryd.prog w base spare held n 23 cs = some x) (hl : Light 23 x.1) : ∃ v : GVal, cs = v.cells ∧ v.wf := by
  obtain ⟨xs, m, _, rfl, hcl, hlen, hf⟩ := DataW.trod_struct Tryd.underlying23 h
  match cs, hcl.trans cells_value, xs, hlen with
  | [c0, c1, c2], _, [x0, x1, x2], _ =>
    have g0 := fld hf (i := 0) rfl rfl cells_int (c := [c0]) rfl (x := x0) rfl
    have g1 := fld hf (i := 1) rfl rfl cells_int64 (c := [c1]) rfl (x := x1) rfl
    have g2 := fld hf (i := 2) rfl rfl cells_string (c := [c2]) rfl (x := x2) rfl
    obtain ⟨k, rfl, wk⟩ := read_i64 Tryd.underlying3 (x := x0) g0
    obtain ⟨l, rfl, wl⟩ := read_i64 Tryd.underlying2 (x := x1) g1
    obtain ⟨s, rfl, ws⟩ := read_str Tryd.underlying9 (x := x2) g2 (light_part Tryd.underlying23 hl (j := 2) rfl rfl)
    exact ⟨⟨k, l, s⟩, rfl, wk, wl, ws⟩

set_option maxRecDepth 100000 in
theorem read_var {n : Nat} {cs : List Value} {x : DataW H × List MemPlace} (h : DataW.trod enc Tryd.prog w base spare held n 60 cs = some x) (hl : Light 60 x.1) : ∃ v : GVar, cs = v.cells ∧ v.wf := by
  obtain ⟨xs, m, _, rfl, hcl, hlen, hf⟩ := DataW.trod_struct Tryd.underlying60 h
  match cs, hcl.trans cells_var, xs, hlen with
  | [c0, c1, c2, c3], _, [x0, x1], _ =>
    have g0 := fld hf (i := 0) rfl rfl cells_string (c := [c0]) rfl (x := x0) rfl
    have g1 := fld hf (i := 1) rfl rfl cells_value (c := [c1, c2, c3]) rfl (x := x1) rfl
    obtain ⟨s, rfl, ws⟩ := read_str Tryd.underlying9 (x := x0) g0 (light_part Tryd.underlying60 hl (j := 0) rfl rfl)
    obtain ⟨v, hv, wv⟩ := read_value (x := x1) (cs := [c1, c2, c3]) g1 (light_part Tryd.underlying60 hl (j := 1) rfl rfl)
    obtain ⟨rfl, rfl, rfl⟩ : c1 = .int .i64 v.k ∧ c2 = .int .i64 v.n ∧ c3 = .string v.s := by simpa [GVal.cells] using hv
    exact ⟨⟨s, v⟩, rfl, ws, wv⟩

set_option maxRecDepth 100000 in
theorem read_vars {n : Nat} {c : Value} {x : DataW H × List MemPlace} (h : DataW.trod enc Tryd.prog w base spare held n 29 [c] = some x) (hl : Light 29 x.1) :
    ∃ l : List GVar, Row w (fun _ => True) 4 l.length c (varCells l) ∧ ∀ y ∈ l, y.wf := by
  rcases Go.Deep.open_slice Tryd.underlying29 h with ⟨hcs, _⟩ | ⟨a, len, cap, m, n', D, Pl, hcs, _, hlc, hcm, hm, rfl, hi⟩
  · obtain rfl : c = .slice none 0 0 := by simpa using hcs
    exact ⟨[], Row.nil _ _ _, fun y hy => by cases hy⟩
  · obtain rfl : c = .slice (some a) len cap := by simpa using hcs
    have hlm : len ≤ m := by rw [hm]; split <;> omega
    have hex : ∀ i, ∃ v : GVar, i < len → v.wf ∧ ∀ j u, v.cells[j]? = some u → w.cell? (a.add (i * 4 + j)) = some u := by
      intro i
      by_cases hil : i < len
      · obtain ⟨cs', hc, ht⟩ := hi i (by omega)
        rw [cells_var] at hc
        obtain ⟨v, rfl, wv⟩ := read_var ht (light_elem Tryd.underlying29 hl (List.mem_map.2 ⟨i, List.mem_range.2 hil, rfl⟩))
        obtain ⟨_, hcl, hat⟩ := World.cells?_some hc
        refine ⟨v, fun _ => ⟨wv, fun j u hj => ?_⟩⟩
        have hj4 : j < 4 := (List.getElem?_eq_some_iff.1 hj).1
        have := hat j hj4
        rw [← Go.Deep.add_add, this, hj]
      · exact ⟨⟨ByteArray.empty, zeroV⟩, fun h => absurd h hil⟩
    obtain ⟨f, hf⟩ := Classical.axiomOfChoice hex
    refine ⟨(List.range len).map f, ⟨some a, cap, by simp, by simpa using hlc, hcm, ?_, fun h => (nomatch h), fun hn => ?_⟩, fun y hy => ?_⟩
    · rw [varCells_len]
    · have hn' : 0 < len := by simpa using hn
      have h0 := (hf 0 hn').2 0 _ rfl
      obtain ⟨b, o, s⟩ := a
      have hs : s = none := by simpa [Addr.add] using World.cell?_spot h0
      subst hs
      refine ⟨b, o, rfl, trivial, by simpa [Addr.add] using World.block_lt_of_cell? _ _ h0, fun j u hj => ?_⟩
      have hj2 : j < len * 4 := by
        have := (List.getElem?_eq_some_iff.1 hj).1
        rw [varCells_len] at this
        simpa using this
      have e : j = (j / 4) * 4 + j % 4 := by omega
      rw [e] at hj
      have hq : j / 4 < ((List.range len).map f).length := by simp; omega
      have hv := varCells_get hq (Nat.mod_lt j (by decide)) hj
      have := (hf (j / 4) (by omega)).2 (j % 4) u (by simpa using hv)
      rw [Base.add_plain] at this
      rw [e, ← Nat.add_assoc]
      simpa [Nat.add_assoc] using this
    · obtain ⟨i, hi', rfl⟩ := List.mem_map.1 hy
      exact (hf i (List.mem_range.1 hi')).1

set_option maxRecDepth 100000 in
end
end Go.Proofs.YthhgfdejadbigaaDoor
