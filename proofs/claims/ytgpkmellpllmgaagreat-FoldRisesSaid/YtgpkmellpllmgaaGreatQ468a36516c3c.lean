/-
  Merged from Open, FoO, FoMd, FoRi, FoRs.
-/
import Derived.Test.YtgpkmellpllmgaaGreatQ7b67ab243e98
import Derived.Test.YtgpkmellpllmgaaGreatRows
import Derived.Deep.Slices
import Derived.Deep.Fields
import Derived.SizedLaws
import Derived.OpenShut
import Derived.Test.YtgpkmellpllmgaaGreatQ0c96740e54d2
import Derived.Deep.QuietTactic
import Derived.BigQuiet
/-
  The arguments of the laws, opened: values, variables, records as data. Printed by genopen.py.
-/
set_option linter.unusedVariables false
set_option linter.unusedSimpArgs false
namespace Go.Proofs.YtgpkmellpllmgaaGreat
open Go Go.RowKit Go.Proofs.Base Go.WideShapes Go.ChangeShapes
theorem cells_int : Tryz.prog.cellsOf 3 = 1 := by kernel_rfl
theorem cells_int64 : Tryz.prog.cellsOf 2 = 1 := by kernel_rfl
theorem cells_uint64 : Tryz.prog.cellsOf 24 = 1 := by kernel_rfl
theorem cells_string : Tryz.prog.cellsOf 9 = 1 := by kernel_rfl
theorem cells_vars : Tryz.prog.cellsOf 37 = 1 := by kernel_rfl
theorem cells_value : Tryz.prog.cellsOf 89 = 3 := by kernel_rfl
theorem cells_var : Tryz.prog.cellsOf 91 = 4 := by kernel_rfl
theorem cells_record : Tryz.prog.cellsOf 39 = 13 := by kernel_rfl
section
variable {H : Type} {enc : TypeId × Value → H} {w : World} {base : Nat} {spare : Nat → Bool} {held : Bool}
def Light (t : TypeId) (d : DataW H) : Prop := ∀ n ∈ d.weights Tryz.prog t, n ≤ 140737488351232
theorem light_part {t : TypeId} {fs : Array Field} {ds : List (DataW H)} (hu : Tryz.prog.underlying t = some (.struct fs)) (h : Light t (.agg ds)) {j : Nat} {f : Field} {d : DataW H} (hf : fs[j]? = some f) (hd : ds[j]? = some d) : Light f.type d := by
  intro n hn
  refine h n ?_
  simp only [DataW.weights, hu]
  exact DataW.weights_mem_each (j := j) (by simp [hf]) hd n hn
theorem mem_weightsAll {e : TypeId} : ∀ {l : List (DataW H)} {d : DataW H}, d ∈ l → ∀ n ∈ d.weights Tryz.prog e, n ∈ DataW.weightsAll Tryz.prog e l
  | x :: r, d, h, n, hn => by
    simp only [DataW.weightsAll, List.mem_append]
    rcases List.mem_cons.1 h with rfl | h
    · exact .inl hn
    · exact .inr (mem_weightsAll h n hn)
theorem light_elem {t e : TypeId} {es sp : List (DataW H)} (hu : Tryz.prog.underlying t = some (.slice e)) (h : Light t (.slice es sp)) {d : DataW H} (hd : d ∈ es) : Light e d := by
  intro n hn
  refine h n ?_
  simp only [DataW.weights, hu, List.mem_cons, List.mem_append]
  exact .inr (.inl (mem_weightsAll hd n hn))
theorem fld {fs : Array Field} {cs : List Value} {xs : List (DataW H × List MemPlace)} {m : Nat} (hf : ∀ (i : Nat) (f : Field), fs[i]? = some f → DataW.trod enc Tryz.prog w base spare held m f.type ((cs.drop f.offset).take (Tryz.prog.cellsOf f.type)) = xs[i]?)
    {i : Nat} {f : Field} (hi : fs[i]? = some f) {t : TypeId} (ht : f.type = t) {k : Nat} (hk : Tryz.prog.cellsOf t = k) {c : List Value} (hc : (cs.drop f.offset).take k = c) {x : DataW H × List MemPlace} (hx : xs[i]? = some x) : DataW.trod enc Tryz.prog w base spare held m t c = some x := by
  have h := hf i f hi
  rw [ht, hk, hc, hx] at h
  exact h
theorem read_i64 {t : TypeId} {n : Nat} {c : Value} {x : DataW H × List MemPlace} (hu : Tryz.prog.underlying t = some (.int .i64)) (h : DataW.trod enc Tryz.prog w base spare held n t [c] = some x) : ∃ k, c = .int .i64 k ∧ i64 k := by
  obtain ⟨k, e, _, wk⟩ := DataW.trod_int hu h
  exact ⟨k, by simpa using e, by have := bounds_i64 wk; exact this⟩
theorem read_u64 {t : TypeId} {n : Nat} {c : Value} {x : DataW H × List MemPlace} (hu : Tryz.prog.underlying t = some (.int .u64)) (h : DataW.trod enc Tryz.prog w base spare held n t [c] = some x) : ∃ k, c = .int .u64 k ∧ u64 k := by
  obtain ⟨k, e, _, wk⟩ := DataW.trod_int hu h
  exact ⟨k, by simpa using e, by have := bounds_u64 wk; exact this⟩
theorem read_str {t : TypeId} {n : Nat} {c : Value} {x : DataW H × List MemPlace} (hu : Tryz.prog.underlying t = some .string) (h : DataW.trod enc Tryz.prog w base spare held n t [c] = some x) (hl : Light t x.1) : ∃ s, c = .string s ∧ okS s := by
  obtain ⟨s, e, rfl, _⟩ := DataW.trod_string hu h
  refine ⟨s, by simpa using e, ?_⟩
  have := hl s.data.toList.length (by simp [DataW.weights])
  exact Nat.le_trans (by show s.data.size ≤ _; simp) this
theorem varCells_get {l : List GVar} {i j : Nat} {u : Value} (h : i < l.length) (hj : j < 4) (hu : (varCells l)[i * 4 + j]? = some u) : l[i].cells[j]? = some u := by
  obtain ⟨a0, a1, a2, a3⟩ := varCells_at h
  match j, hj with
  | 0, _ => rw [a0] at hu; exact hu
  | 1, _ => rw [a1] at hu; exact hu
  | 2, _ => rw [a2] at hu; exact hu
  | 3, _ => rw [a3] at hu; exact hu
set_option maxRecDepth 100000 in
theorem read_value {n : Nat} {cs : List Value} {x : DataW H × List MemPlace} (h : DataW.trod enc Tryz.prog w base spare held n 89 cs = some x) (hl : Light 89 x.1) : ∃ v : GVal, cs = v.cells ∧ v.wf := by
  obtain ⟨xs, m, _, rfl, hcl, hlen, hf⟩ := DataW.trod_struct Tryz.underlying89 h
  match cs, hcl.trans cells_value, xs, hlen with
  | [c0, c1, c2], _, [x0, x1, x2], _ =>
    have g0 := fld hf (i := 0) rfl rfl cells_int (c := [c0]) rfl (x := x0) rfl
    have g1 := fld hf (i := 1) rfl rfl cells_int64 (c := [c1]) rfl (x := x1) rfl
    have g2 := fld hf (i := 2) rfl rfl cells_string (c := [c2]) rfl (x := x2) rfl
    obtain ⟨k, rfl, wk⟩ := read_i64 Tryz.underlying3 (x := x0) g0
    obtain ⟨l, rfl, wl⟩ := read_i64 Tryz.underlying2 (x := x1) g1
    obtain ⟨s, rfl, ws⟩ := read_str Tryz.underlying9 (x := x2) g2 (light_part Tryz.underlying89 hl (j := 2) rfl rfl)
    exact ⟨⟨k, l, s⟩, rfl, wk, wl, ws⟩
set_option maxRecDepth 100000 in
theorem read_var {n : Nat} {cs : List Value} {x : DataW H × List MemPlace} (h : DataW.trod enc Tryz.prog w base spare held n 91 cs = some x) (hl : Light 91 x.1) : ∃ v : GVar, cs = v.cells ∧ v.wf := by
  obtain ⟨xs, m, _, rfl, hcl, hlen, hf⟩ := DataW.trod_struct Tryz.underlying91 h
  match cs, hcl.trans cells_var, xs, hlen with
  | [c0, c1, c2, c3], _, [x0, x1], _ =>
    have g0 := fld hf (i := 0) rfl rfl cells_string (c := [c0]) rfl (x := x0) rfl
    have g1 := fld hf (i := 1) rfl rfl cells_value (c := [c1, c2, c3]) rfl (x := x1) rfl
    obtain ⟨s, rfl, ws⟩ := read_str Tryz.underlying9 (x := x0) g0 (light_part Tryz.underlying91 hl (j := 0) rfl rfl)
    obtain ⟨v, hv, wv⟩ := read_value (x := x1) (cs := [c1, c2, c3]) g1 (light_part Tryz.underlying91 hl (j := 1) rfl rfl)
    obtain ⟨rfl, rfl, rfl⟩ : c1 = .int .i64 v.k ∧ c2 = .int .i64 v.n ∧ c3 = .string v.s := by simpa [GVal.cells] using hv
    exact ⟨⟨s, v⟩, rfl, ws, wv⟩
set_option maxRecDepth 100000 in
theorem read_vars {n : Nat} {c : Value} {x : DataW H × List MemPlace} (h : DataW.trod enc Tryz.prog w base spare held n 37 [c] = some x) (hl : Light 37 x.1) :
    ∃ l : List GVar, Row w (fun _ => True) 4 l.length c (varCells l) ∧ ∀ y ∈ l, y.wf := by
  rcases Go.Deep.open_slice Tryz.underlying37 h with ⟨hcs, _⟩ | ⟨a, len, cap, m, n', D, Pl, hcs, _, hlc, hcm, hm, rfl, hi⟩
  · obtain rfl : c = .slice none 0 0 := by simpa using hcs
    exact ⟨[], Row.nil _ _ _, fun y hy => by cases hy⟩
  · obtain rfl : c = .slice (some a) len cap := by simpa using hcs
    have hlm : len ≤ m := by rw [hm]; split <;> omega
    have hex : ∀ i, ∃ v : GVar, i < len → v.wf ∧ ∀ j u, v.cells[j]? = some u → w.cell? (a.add (i * 4 + j)) = some u := by
      intro i
      by_cases hil : i < len
      · obtain ⟨cs', hc, ht⟩ := hi i (by omega)
        rw [cells_var] at hc
        obtain ⟨v, rfl, wv⟩ := read_var ht (light_elem Tryz.underlying37 hl (List.mem_map.2 ⟨i, List.mem_range.2 hil, rfl⟩))
        obtain ⟨_, hcl, hat⟩ := World.cells?_some hc
        refine ⟨v, fun _ => ⟨wv, fun j u hj => ?_⟩⟩
        have hj4 : j < 4 := (List.getElem?_eq_some_iff.1 hj).1
        have := hat j hj4
        rw [← Go.Deep.add_add, this, hj]
      · exact ⟨⟨ByteArray.empty, zeroV⟩, fun h => absurd h hil⟩
    obtain ⟨f, hf⟩ := Classical.axiomOfChoice hex
    refine ⟨(List.range len).map f, ⟨some a, cap, by simp, by simpa using hlc, hcm, ?_, fun h => (nomatch h), fun hn => ?_⟩, fun y hy => ?_⟩
    · rw [varCells_len]
    · have hn' : 0 < len := by simpa using hn
      have h0 := (hf 0 hn').2 0 _ rfl
      obtain ⟨b, o, s⟩ := a
      have hs : s = none := by simpa [Addr.add] using World.cell?_spot h0
      subst hs
      refine ⟨b, o, rfl, trivial, by simpa [Addr.add] using World.block_lt_of_cell? _ _ h0, fun j u hj => ?_⟩
      have hj2 : j < len * 4 := by
        have := (List.getElem?_eq_some_iff.1 hj).1
        rw [varCells_len] at this
        simpa using this
      have e : j = (j / 4) * 4 + j % 4 := by omega
      rw [e] at hj
      have hq : j / 4 < ((List.range len).map f).length := by simp; omega
      have hv := varCells_get hq (Nat.mod_lt j (by decide)) hj
      have := (hf (j / 4) (by omega)).2 (j % 4) u (by simpa using hv)
      rw [Base.add_plain] at this
      rw [e, ← Nat.add_assoc]
      simpa [Nat.add_assoc] using this
    · obtain ⟨i, hi', rfl⟩ := List.mem_map.1 hy
      exact (hf i (List.mem_range.1 hi')).1
set_option maxRecDepth 100000 in
theorem read_record {t : TypeId} {n : Nat} {cs : List Value} {x : DataW H × List MemPlace} (h : DataW.trod enc Tryz.prog w base spare held n 39 cs = some x) (hl : Light 39 x.1) :
    ∃ (r : GRec) (vv : Value), cs = [.int .i64 r.cls, .int .i64 r.kind, .int .u64 r.frm, .int .i64 r.time, .int .u64 r.key, .int .u64 r.key2, .int .u64 r.key3, .int .i64 r.n, .int .i64 r.m, .string r.a, .string r.b, .string r.c, vv] ∧ r.wf ∧ Row w (fun _ => True) 4 r.vars.length vv (varCells r.vars) := by
  obtain ⟨xs, m, _, rfl, hcl, hlen, hf⟩ := DataW.trod_struct Tryz.underlying39 h
  match cs, hcl.trans cells_record, xs, hlen with
  | [c0, c1, c2, c3, c4, c5, c6, c7, c8, c9, c10, c11, c12], _, [x0, x1, x2, x3, x4, x5, x6, x7, x8, x9, x10, x11, x12], _ =>
    have g0 := fld hf (i := 0) rfl rfl cells_int (c := [c0]) rfl (x := x0) rfl
    obtain ⟨rcls, rfl, wcls⟩ := read_i64 Tryz.underlying3 (x := x0) g0
    have g1 := fld hf (i := 1) rfl rfl cells_int (c := [c1]) rfl (x := x1) rfl
    obtain ⟨rkind, rfl, wkind⟩ := read_i64 Tryz.underlying3 (x := x1) g1
    have g2 := fld hf (i := 2) rfl rfl cells_uint64 (c := [c2]) rfl (x := x2) rfl
    obtain ⟨rfrm, rfl, wfrm⟩ := read_u64 Tryz.underlying24 (x := x2) g2
    have g3 := fld hf (i := 3) rfl rfl cells_int64 (c := [c3]) rfl (x := x3) rfl
    obtain ⟨rtime, rfl, wtime⟩ := read_i64 Tryz.underlying2 (x := x3) g3
    have g4 := fld hf (i := 4) rfl rfl cells_uint64 (c := [c4]) rfl (x := x4) rfl
    obtain ⟨rkey, rfl, wkey⟩ := read_u64 Tryz.underlying24 (x := x4) g4
    have g5 := fld hf (i := 5) rfl rfl cells_uint64 (c := [c5]) rfl (x := x5) rfl
    obtain ⟨rkey2, rfl, wkey2⟩ := read_u64 Tryz.underlying24 (x := x5) g5
    have g6 := fld hf (i := 6) rfl rfl cells_uint64 (c := [c6]) rfl (x := x6) rfl
    obtain ⟨rkey3, rfl, wkey3⟩ := read_u64 Tryz.underlying24 (x := x6) g6
    have g7 := fld hf (i := 7) rfl rfl cells_int64 (c := [c7]) rfl (x := x7) rfl
    obtain ⟨rn, rfl, wn⟩ := read_i64 Tryz.underlying2 (x := x7) g7
    have g8 := fld hf (i := 8) rfl rfl cells_int64 (c := [c8]) rfl (x := x8) rfl
    obtain ⟨rm, rfl, wm⟩ := read_i64 Tryz.underlying2 (x := x8) g8
    have g9 := fld hf (i := 9) rfl rfl cells_string (c := [c9]) rfl (x := x9) rfl
    obtain ⟨ra, rfl, wa⟩ := read_str Tryz.underlying9 (x := x9) g9 (light_part Tryz.underlying39 hl (j := 9) rfl rfl)
    have g10 := fld hf (i := 10) rfl rfl cells_string (c := [c10]) rfl (x := x10) rfl
    obtain ⟨rb, rfl, wb⟩ := read_str Tryz.underlying9 (x := x10) g10 (light_part Tryz.underlying39 hl (j := 10) rfl rfl)
    have g11 := fld hf (i := 11) rfl rfl cells_string (c := [c11]) rfl (x := x11) rfl
    obtain ⟨rc, rfl, wc⟩ := read_str Tryz.underlying9 (x := x11) g11 (light_part Tryz.underlying39 hl (j := 11) rfl rfl)
    have g12 := fld hf (i := 12) rfl rfl cells_vars (c := [c12]) rfl (x := x12) rfl
    obtain ⟨l, hrow, wl⟩ := read_vars (x := x12) g12 (light_part Tryz.underlying39 hl (j := 12) rfl rfl)
    exact ⟨⟨rcls, rkind, rfrm, rtime, rkey, rkey2, rkey3, rn, rm, ra, rb, rc, l⟩, c12, rfl, ⟨wcls, wkind, wfrm, wtime, wkey, wkey2, wkey3, wn, wm, wa, wb, wc, wl⟩, hrow⟩
end
end Go.Proofs.YtgpkmellpllmgaaGreat
/-
  Lists among a law's arguments, opened, whatever their elements: variables, records. By hand.
-/
set_option linter.unusedVariables false
set_option linter.unusedSimpArgs false
namespace Go.Proofs.YtgpkmellpllmgaaGreat
open Go Go.RowKit Go.Proofs.Base Go.WideShapes Go.ChangeShapes
section
variable {H : Type} {enc : TypeId × Value → H} {w : World} {base : Nat} {spare : Nat → Bool} {held : Bool}
theorem read_rows {α : Type} {t e : TypeId} {K B : Nat} {ec : α → List Value} (Good : α → Prop) (hne : Nonempty α) (hu : Tryz.prog.underlying t = some (.slice e)) (hK : Tryz.prog.cellsOf e = K) (hB : Tryz.prog.bytesOf e = B) (hlen : ∀ x, (ec x).length = K) (hK0 : 0 < K)
    (rd : ∀ {n : Nat} {cs : List Value} {x : DataW H × List MemPlace}, DataW.trod enc Tryz.prog w base spare held n e cs = some x → Light e x.1 → ∃ v : α, cs = ec v ∧ Good v)
    {n : Nat} {c : Value} {x : DataW H × List MemPlace} (h : DataW.trod enc Tryz.prog w base spare held n t [c] = some x) (hl : Light t x.1) :
    ∃ l : List α, Row w (fun _ => True) K l.length c (l.flatMap ec) ∧ (∀ y ∈ l, Good y) ∧ l.length * B ≤ 140737488351232 := by
  rcases Go.Deep.open_slice hu h with ⟨hcs, _⟩ | ⟨a, len, cap, m, n', D, Pl, hcs, _, hlc, hcm, hm, rfl, hi⟩
  · obtain rfl : c = .slice none 0 0 := by simpa using hcs
    exact ⟨[], Row.nil _ _ _, (fun y hy => by cases hy), by simp⟩
  · obtain rfl : c = .slice (some a) len cap := by simpa using hcs
    have hlm : len ≤ m := by rw [hm]; split <;> omega
    have hsz : len * B ≤ 140737488351232 := by
      have := hl ((((List.range len).map D).length + ((List.range (m - len)).map fun j => D (len + j)).length) * Tryz.prog.bytesOf e) (by
        simp only [DataW.weights, hu]
        exact List.mem_cons_self)
      rw [hB] at this
      simp only [List.length_map, List.length_range] at this
      exact Nat.le_trans (Nat.mul_le_mul_right _ (Nat.le_add_right _ _)) this
    have hex : ∀ i, ∃ v : α, i < len → Good v ∧ ∀ j u, (ec v)[j]? = some u → w.cell? (a.add (i * K + j)) = some u := by
      intro i
      by_cases hil : i < len
      · obtain ⟨cs', hc, ht⟩ := hi i (by omega)
        rw [hK] at hc
        obtain ⟨v, rfl, wv⟩ := rd ht (light_elem hu hl (List.mem_map.2 ⟨i, List.mem_range.2 hil, rfl⟩))
        obtain ⟨_, hcl, hat⟩ := World.cells?_some hc
        refine ⟨v, fun _ => ⟨wv, fun j u hj => ?_⟩⟩
        have hjK : j < K := by have := (List.getElem?_eq_some_iff.1 hj).1; rwa [hlen] at this
        have := hat j hjK
        rw [← Go.Deep.add_add, this, hj]
      · exact ⟨Classical.choice hne, fun h => absurd h hil⟩
    obtain ⟨f, hf⟩ := Classical.axiomOfChoice hex
    refine ⟨(List.range len).map f, ⟨some a, cap, by simp, by simpa using hlc, hcm, ?_, fun h => (nomatch h), fun hn => ?_⟩, fun y hy => ?_, by simpa using hsz⟩
    · rw [flat_len hlen]
    · have hn' : 0 < len := by simpa using hn
      have h0 := (hf 0 hn').2 0 ((ec (f 0))[0]'(by rw [hlen]; exact hK0)) (List.getElem?_eq_getElem _)
      obtain ⟨b, o, s⟩ := a
      have hs : s = none := by simpa [Addr.add] using World.cell?_spot h0
      subst hs
      refine ⟨b, o, rfl, trivial, World.block_lt_of_cell? w _ (by simpa [Base.add_plain] using h0), fun j u hu => ?_⟩
      have hj : j < ((List.range len).map f).length * K := by rw [← flat_len hlen]; exact (List.getElem?_eq_some_iff.1 hu).1
      have hj2 : j < len * K := by simpa using hj
      have hi3 : j / K < len := Nat.div_lt_of_lt_mul (by rw [Nat.mul_comm]; exact hj2)
      have hidx : j / K < ((List.range len).map f).length := by simpa using hi3
      have hmod : j % K < K := Nat.mod_lt _ hK0
      have hjj : j = j / K * K + j % K := by rw [Nat.mul_comm]; exact (Nat.div_add_mod j K).symm
      have hfe : ((List.range len).map f)[j / K] = f (j / K) := by simp
      have hv : (ec (f (j / K)))[j % K]? = some u := by
        rw [← hfe, ← flat_at (enc := ec) hlen hidx (j % K) hmod, ← hjj]
        exact hu
      have h3 := (hf (j / K) hi3).2 (j % K) u hv
      rw [Base.add_plain, ← hjj] at h3
      exact h3
    · obtain ⟨i, hi', rfl⟩ := List.mem_map.1 hy
      exact (hf i (List.mem_range.1 hi')).1
structure ERec where
  r : GRec
  vA : Option Addr
  vN : Nat
  vC : Nat
def encRec (x : ERec) : List Value := [.int .i64 x.r.cls, .int .i64 x.r.kind, .int .u64 x.r.frm, .int .i64 x.r.time, .int .u64 x.r.key, .int .u64 x.r.key2, .int .u64 x.r.key3, .int .i64 x.r.n, .int .i64 x.r.m, .string x.r.a, .string x.r.b, .string x.r.c, .slice x.vA x.vN x.vC]
theorem lenRec (x : ERec) : (encRec x).length = 13 := rfl
def GoodRec (w : World) (x : ERec) : Prop := x.r.wf ∧ VarsR w (fun _ => True) x.vA x.vN x.vC x.r.vars
def Recs (w : World) (v : Value) (l : List ERec) : Prop := Row w (fun _ => True) 13 l.length v (l.flatMap encRec) ∧ (∀ x ∈ l, GoodRec w x) ∧ l.length * 144 ≤ 140737488351232
theorem Recs.below {w w' : World} {v : Value} {l : List ERec} (h : Recs w v l) (hb : Below w.heap.size w w') : Recs w' v l :=
  ⟨h.1.below hb, fun x hx => ⟨(h.2.1 x hx).1, (h.2.1 x hx).2.1, (h.2.1 x hx).2.2.1, (h.2.1 x hx).2.2.2.below hb⟩, h.2.2⟩
theorem Recs.open_ {w : World} {v : Value} {l : List ERec} (h : Recs w v l) : ∃ A c, v = .slice A l.length c ∧ l.length ≤ c ∧ c ≤ 9223372036854775807 := h.1.open_
section
variable {H : Type} {enc : TypeId × Value → H} {w : World} {base : Nat} {spare : Nat → Bool} {held : Bool}
theorem read_varsR {n : Nat} {c : Value} {x : DataW H × List MemPlace} (h : DataW.trod enc Tryz.prog w base spare held n 37 [c] = some x) (hl : Light 37 x.1) :
    ∃ l : List GVar, Row w (fun _ => True) 4 l.length c (l.flatMap GVar.cells) ∧ (∀ y ∈ l, y.wf) ∧ l.length * 48 ≤ 140737488351232 :=
  read_rows (ec := GVar.cells) GVar.wf ⟨⟨ByteArray.empty, zeroV⟩⟩ Tryz.underlying37 cells_var (by kernel_rfl) (fun _ => rfl) (by decide) (fun h hl => read_var h hl) h hl
set_option maxRecDepth 100000 in
theorem read_erec {n : Nat} {cs : List Value} {x : DataW H × List MemPlace} (h : DataW.trod enc Tryz.prog w base spare held n 39 cs = some x) (hl : Light 39 x.1) : ∃ v : ERec, cs = encRec v ∧ GoodRec w v := by
  obtain ⟨r, vv, rfl, wr, row⟩ := read_record (t := 39) h hl
  obtain ⟨xs, m, _, rfl, hcl, hlen, hf⟩ := DataW.trod_struct Tryz.underlying39 h
  match xs, hlen with
  | [x0, x1, x2, x3, x4, x5, x6, x7, x8, x9, x10, x11, x12], _ =>
    have g12 := fld hf (i := 12) rfl rfl cells_vars (c := [vv]) rfl (x := x12) rfl
    obtain ⟨l2, row2, _, hb⟩ := read_varsR (x := x12) g12 (light_part Tryz.underlying39 hl (j := 12) rfl rfl)
    obtain ⟨A, c, e, _, _⟩ := row.open_
    obtain ⟨A2, c2, e2, _, _⟩ := row2.open_
    rw [e] at e2
    injection e2 with _ e3 _
    subst e
    exact ⟨⟨r, A, r.vars.length, c⟩, rfl, wr, rfl, by show r.vars.length * 48 ≤ _; rw [e3]; omega, row⟩
theorem read_recs {n : Nat} {c : Value} {x : DataW H × List MemPlace} (h : DataW.trod enc Tryz.prog w base spare held n 22 [c] = some x) (hl : Light 22 x.1) : ∃ l : List ERec, Recs w c l :=
  read_rows (ec := encRec) (GoodRec w) ⟨⟨⟨0, 0, 0, 0, 0, 0, 0, 0, 0, ByteArray.empty, ByteArray.empty, ByteArray.empty, []⟩, none, 0, 0⟩⟩ Tryz.underlying22 cells_record (by kernel_rfl) lenRec (by decide) (fun h hl => read_erec h hl) h hl
end
end
end Go.Proofs.YtgpkmellpllmgaaGreat
/-
  A fold from nothing, as a plain function, and the law on how many keys were given. By hand.
-/
set_option linter.unusedVariables false
set_option linter.unusedSimpArgs false
namespace Go.Proofs.YtgpkmellpllmgaaGreat
open Go Go.RowKit Go.Proofs.Base
open Go.Sort (grow)
def recE : ERec := ⟨recZ, none, 0, 0⟩
def foldA (pos : Nat → Int) (l : List ERec) : Nat → GSt
  | 0 => emptyP
  | k + 1 => applyP (pos k) (l.getD k recE).r (foldA pos l k)
theorem getD_at {l : List ERec} {k : Nat} (h : k < l.length) : l.getD k recE = l[k] := by simp [List.getD_eq_getElem?_getD, h]
theorem foldA_succ {pos : Nat → Int} {l : List ERec} {k : Nat} (h : k < l.length) : foldA pos l (k + 1) = applyP (pos k) l[k].r (foldA pos l k) := by
  show applyP (pos k) (l.getD k recE).r (foldA pos l k) = _
  rw [getD_at h]
theorem foldA_small (pos : Nat → Int) (l : List ERec) : ∀ k, Small k (foldA pos l k)
  | 0 => small_empty
  | k + 1 => small_applyP _ (foldA_small pos l k)
theorem foldA_wf (pos : Nat → Int) {l : List ERec} (hl : ∀ x ∈ l, x.r.wf) : ∀ k, k ≤ l.length → (foldA pos l k).wf
  | 0, _ => wf_empty
  | k + 1, h => by
    rw [foldA_succ (by omega)]
    have := hl l[k] (List.getElem_mem _)
    exact wf_applyP _ ⟨this.2.2.2.2.1, this.2.2.2.2.2.1⟩ (foldA_wf pos hl k (by omega))
theorem recs_at {w : World} {A : Option Addr} {c : Nat} {l : List ERec} (h : Recs w (.slice A l.length c) l) (h0 : 0 < l.length) :
    ∃ B O, A = some ⟨B, O, none⟩ ∧ ∀ (k : Nat) (hk : k < l.length), ∀ j u, (encRec l[k])[j]? = some u → w.cell? ⟨B, O + k * 13 + j, none⟩ = some u := by
  obtain ⟨B, O, hA, _, _, hc⟩ := h.1.at_ h0
  refine ⟨B, O, hA, fun k hk j u hu => hc k j u ?_⟩
  have hj : j < 13 := (List.getElem?_eq_some_iff.1 hu).1
  rw [flat_at (enc := encRec) lenRec hk j hj]
  exact hu
end Go.Proofs.YtgpkmellpllmgaaGreat
/-
  rises: the lists rise: it says so. Printed by gfold15.py.
-/
set_option linter.unusedVariables false
set_option linter.unusedSimpArgs false
namespace Go.Proofs.YtgpkmellpllmgaaGreat
open Go Go.RowKit Go.Proofs.Base
open Go.Sort (grow)
set_option maxRecDepth 100000 in
set_option maxHeartbeats 8000000 in
theorem c_rises {w : World} {S : Nat → Prop} {v : StV} {g : GSt} (hs : StR w S v g) (hR : Rises g) (hf : g.fits) : Calls Tryz.prog 11 #[.agg v.vals] w fun e w' => e = .returned (.bool true) ∧ Below w.heap.size w w' := by
  obtain ⟨P, D, M, A3, n3, c3, A4, n4, c4, A5, n5, c5, A6, n6, c6, A7, n7, c7, A8, n8, c8, A9, n9, c9, A10, n10, c10, A11, n11, c11⟩ := v
  simp only [StV.vals]
  obtain ⟨N, hN⟩ : ∃ N, N = w.alloc (.cells (StV.vals ⟨P, D, M, A3, n3, c3, A4, n4, c4, A5, n5, c5, A6, n6, c6, A7, n7, c7, A8, n8, c8, A9, n9, c9, A10, n10, c10, A11, n11, c11⟩) 35) := ⟨_, rfl⟩
  have HBX : Hid (N.heap[w.heap.size]? = some (.cells (StV.vals ⟨P, D, M, A3, n3, c3, A4, n4, c4, A5, n5, c5, A6, n6, c6, A7, n7, c7, A8, n8, c8, A9, n9, c9, A10, n10, c10, A11, n11, c11⟩) 35 (0, 0))) := Lib.hid (by rw [hN]; exact blk_new _)
  have HNB : Hid (Below w.heap.size w N) := Lib.hid (by rw [hN]; exact below_alloc (Below.refl _ _) _)
  have HS := Lib.hid hs
  have HR := Lib.hid hR
  have HF := Lib.hid hf
  have HN := Lib.hid hN
  clear hs hR hf hN
  go_enter Tryz.func11, Tryz.ntmps11
  go_wp2_with fail
  rw [show w.alloc (.cells #[.int .u64 P, .int .u64 D, .int .u64 M, .slice A3 n3 c3, .slice A4 n4 c4, .slice A5 n5 c5, .slice A6 n6 c6, .slice A7 n7 c7, .slice A8 n8 c8, .slice A9 n9 c9, .slice A10 n10 c10, .slice A11 n11 c11] 35) = N from HN.out.symm]
  clear HN
  go_loopw [3] (fun i wr => ∃ k : Nat, (k + 1 ≤ n4 ∨ k = 0) ∧ i = .int .i64 ((k : Int) + 1) ∧ Hid (Below N.heap.size N wr)) (fun i _ => n4 - (intOf i).toNat)
  case atStart => exact ⟨0, .inr rfl, rfl, Lib.hid (Below.refl _ _)⟩
  case round =>
    obtain ⟨k, hk, rfl, HB0⟩ := hrel
    have hn : n4 ≤ 140737488355328 := by have h1 := HS.out.insts.1; have h2 := HF.out; simp only at h1; unfold GSt.fits at h2; omega
    have x4 := cell_of_blk (block_below HB0.out HBX.out) 4
    simp only [StV.vals] at x4
    by_cases hlt : k + 1 < n4
    · obtain ⟨B, O, hA, _, hc⟩ := HS.out.insts.elem lenInst (by simp only; omega)
      simp only at hA
      subst hA
      have hl1 : k + 1 < g.insts.length := by rw [HS.out.insts.1]; exact hlt
      have HPR := Lib.hid (List.pairwise_iff_getElem.1 HR.out.insts k (k + 1) (by omega) hl1 (by omega))
      have HBW := Lib.hid (below2 HNB.out HB0.out)
      have ca0 : wr.cell? ⟨B, O + k * 3, none⟩ = some (.int .u64 g.insts[k].key) := cell_below HBW.out (hc (k) (by omega) 0 _ rfl)
      have cb0 : wr.cell? ⟨B, O + (k + 1) * 3, none⟩ = some (.int .u64 g.insts[k + 1].key) := cell_below HBW.out (hc (k + 1) (by omega) 0 _ rfl)
      clear hc
      generalize g.insts[k] = xa at *
      generalize g.insts[k + 1] = xb at *
      have hlt2 : xa.key < xb.key := HPR.out
      go_wp2
      go_quiet (fail)
      go_wp2
      go_roundw
      case rel => exact ⟨k + 1, .inl (by omega), by go_num, Lib.hid (below_drewN HB0.out _)⟩
      case measure => simp [intOf]; omega
    · go_wp2
      clear x4
      go_loopw [4] (fun i wr => ∃ k : Nat, (k + 1 ≤ n5 ∨ k = 0) ∧ i = .int .i64 ((k : Int) + 1) ∧ Hid (Below N.heap.size N wr)) (fun i _ => n5 - (intOf i).toNat)
      case atStart => exact ⟨0, .inr rfl, rfl, HB0⟩
      case round =>
        obtain ⟨k, hk, rfl, HB1⟩ := hrel
        have hn : n5 ≤ 140737488355328 := by have h1 := HS.out.tokens.1; have h2 := HF.out; simp only at h1; unfold GSt.fits at h2; omega
        have x5 := cell_of_blk (block_below HB1.out HBX.out) 5
        simp only [StV.vals] at x5
        by_cases hlt : k + 1 < n5
        · obtain ⟨B, O, hA, _, hc⟩ := HS.out.tokens.elem lenTok (by simp only; omega)
          simp only at hA
          subst hA
          have hl1 : k + 1 < g.tokens.length := by rw [HS.out.tokens.1]; exact hlt
          have HPR := Lib.hid (List.pairwise_iff_getElem.1 HR.out.tokens k (k + 1) (by omega) hl1 (by omega))
          have HBW := Lib.hid (below2 HNB.out HB1.out)
          have ca0 : wr.cell? ⟨B, O + k * 6, none⟩ = some (.int .u64 g.tokens[k].key) := cell_below HBW.out (hc (k) (by omega) 0 _ rfl)
          have cb0 : wr.cell? ⟨B, O + (k + 1) * 6, none⟩ = some (.int .u64 g.tokens[k + 1].key) := cell_below HBW.out (hc (k + 1) (by omega) 0 _ rfl)
          clear hc
          generalize g.tokens[k] = xa at *
          generalize g.tokens[k + 1] = xb at *
          have hlt2 : xa.key < xb.key := HPR.out
          go_wp2
          go_quiet (fail)
          go_wp2
          go_roundw
          case rel => exact ⟨k + 1, .inl (by omega), by go_num, Lib.hid (below_drewN HB1.out _)⟩
          case measure => simp [intOf]; omega
        · go_wp2
          clear x5
          go_loopw [5] (fun i wr => ∃ k : Nat, (k + 1 ≤ n6 ∨ k = 0) ∧ i = .int .i64 ((k : Int) + 1) ∧ Hid (Below N.heap.size N wr)) (fun i _ => n6 - (intOf i).toNat)
          case atStart => exact ⟨0, .inr rfl, rfl, HB1⟩
          case round =>
            obtain ⟨k, hk, rfl, HB2⟩ := hrel
            have hn : n6 ≤ 140737488355328 := by have h1 := HS.out.jobs.1; have h2 := HF.out; simp only at h1; unfold GSt.fits at h2; omega
            have x6 := cell_of_blk (block_below HB2.out HBX.out) 6
            simp only [StV.vals] at x6
            by_cases hlt : k + 1 < n6
            · obtain ⟨B, O, hA, _, hc⟩ := HS.out.jobs.elem lenJob (by simp only; omega)
              simp only at hA
              subst hA
              have hl1 : k + 1 < g.jobs.length := by rw [HS.out.jobs.1]; exact hlt
              have HPR := Lib.hid (List.pairwise_iff_getElem.1 HR.out.jobs k (k + 1) (by omega) hl1 (by omega))
              have HBW := Lib.hid (below2 HNB.out HB2.out)
              have ca0 : wr.cell? ⟨B, O + k * 6, none⟩ = some (.int .u64 g.jobs[k].key) := cell_below HBW.out (hc (k) (by omega) 0 _ rfl)
              have cb0 : wr.cell? ⟨B, O + (k + 1) * 6, none⟩ = some (.int .u64 g.jobs[k + 1].key) := cell_below HBW.out (hc (k + 1) (by omega) 0 _ rfl)
              clear hc
              generalize g.jobs[k] = xa at *
              generalize g.jobs[k + 1] = xb at *
              have hlt2 : xa.key < xb.key := HPR.out
              go_wp2
              go_quiet (fail)
              go_wp2
              go_roundw
              case rel => exact ⟨k + 1, .inl (by omega), by go_num, Lib.hid (below_drewN HB2.out _)⟩
              case measure => simp [intOf]; omega
            · go_wp2
              clear x6
              go_loopw [6] (fun i wr => ∃ k : Nat, (k + 1 ≤ n11 ∨ k = 0) ∧ i = .int .i64 ((k : Int) + 1) ∧ Hid (Below N.heap.size N wr)) (fun i _ => n11 - (intOf i).toNat)
              case atStart => exact ⟨0, .inr rfl, rfl, HB2⟩
              case round =>
                obtain ⟨k, hk, rfl, HB3⟩ := hrel
                have hn : n11 ≤ 140737488355328 := by have h1 := HS.out.msgs.1; have h2 := HF.out; simp only at h1; unfold GSt.fits at h2; omega
                have x11 := cell_of_blk (block_below HB3.out HBX.out) 11
                simp only [StV.vals] at x11
                by_cases hlt : k + 1 < n11
                · obtain ⟨B, O, hA, _, hc⟩ := HS.out.msgs.elem lenMsg (by simp only; omega)
                  simp only at hA
                  subst hA
                  have hl1 : k + 1 < g.msgs.length := by rw [HS.out.msgs.1]; exact hlt
                  have HPR := Lib.hid (List.pairwise_iff_getElem.1 HR.out.msgs k (k + 1) (by omega) hl1 (by omega))
                  have HBW := Lib.hid (below2 HNB.out HB3.out)
                  have ca0 : wr.cell? ⟨B, O + k * 7, none⟩ = some (.int .u64 g.msgs[k].key) := cell_below HBW.out (hc (k) (by omega) 0 _ rfl)
                  have cb0 : wr.cell? ⟨B, O + (k + 1) * 7, none⟩ = some (.int .u64 g.msgs[k + 1].key) := cell_below HBW.out (hc (k + 1) (by omega) 0 _ rfl)
                  clear hc
                  generalize g.msgs[k] = xa at *
                  generalize g.msgs[k + 1] = xb at *
                  have hlt2 : xa.key < xb.key := HPR.out
                  go_wp2
                  go_quiet (fail)
                  go_wp2
                  go_roundw
                  case rel => exact ⟨k + 1, .inl (by omega), by go_num, Lib.hid (below_drewN HB3.out _)⟩
                  case measure => simp [intOf]; omega
                · go_wp2
                  clear x11
                  go_loopw [7, 8, 9] (fun i _ _ wr => ∃ k : Nat, (k + 1 ≤ n7 ∨ k = 0) ∧ i = .int .i64 ((k : Int) + 1) ∧ Hid (Below N.heap.size N wr)) (fun i _ _ _ => n7 - (intOf i).toNat)
                  case atStart => exact ⟨0, .inr rfl, rfl, HB3⟩
                  case round =>
                    obtain ⟨k, hk, rfl, HB4⟩ := hrel
                    have hn : n7 ≤ 140737488355328 := by have h1 := HS.out.timers.1; have h2 := HF.out; simp only at h1; unfold GSt.fits at h2; omega
                    have x7 := cell_of_blk (block_below HB4.out HBX.out) 7
                    simp only [StV.vals] at x7
                    by_cases hlt : k + 1 < n7
                    · obtain ⟨B, O, hA, _, hc⟩ := HS.out.timers.elem lenTim (by simp only; omega)
                      simp only at hA
                      subst hA
                      have hl1 : k + 1 < g.timers.length := by rw [HS.out.timers.1]; exact hlt
                      have HPR := Lib.hid (List.pairwise_iff_getElem.1 HR.out.timers k (k + 1) (by omega) hl1 (by omega))
                      have HBW := Lib.hid (below2 HNB.out HB4.out)
                      have ca0 : wr.cell? ⟨B, O + k * 3, none⟩ = some (.int .u64 g.timers[k].token) := cell_below HBW.out (hc (k) (by omega) 0 _ rfl)
                      have ca1 : wr.cell? ⟨B, O + k * 3 + 1, none⟩ = some (.int .i64 g.timers[k].node) := cell_below HBW.out (hc (k) (by omega) 1 _ rfl)
                      have ca2 : wr.cell? ⟨B, O + k * 3 + 2, none⟩ = some (.int .i64 g.timers[k].due) := cell_below HBW.out (hc (k) (by omega) 2 _ rfl)
                      have cb0 : wr.cell? ⟨B, O + (k + 1) * 3, none⟩ = some (.int .u64 g.timers[k + 1].token) := cell_below HBW.out (hc (k + 1) (by omega) 0 _ rfl)
                      have cb1 : wr.cell? ⟨B, O + (k + 1) * 3 + 1, none⟩ = some (.int .i64 g.timers[k + 1].node) := cell_below HBW.out (hc (k + 1) (by omega) 1 _ rfl)
                      have cb2 : wr.cell? ⟨B, O + (k + 1) * 3 + 2, none⟩ = some (.int .i64 g.timers[k + 1].due) := cell_below HBW.out (hc (k + 1) (by omega) 2 _ rfl)
                      clear hc
                      generalize g.timers[k] = xa at *
                      generalize g.timers[k + 1] = xb at *
                      have hp : ltP xa.token xa.node xb.token xb.node := HPR.out
                      have HW := Lib.hid (HB4.out.size)
                      have hlw : w.heap.size < wr.heap.size := lt_of_blk (block_below HB4.out HBX.out)
                      have hlB : B < wr.heap.size := World.block_lt_of_cell? _ _ ca0
                      have e1 : w.heap.size ≠ wr.heap.size := by omega
                      have e2 : wr.heap.size ≠ w.heap.size := by omega
                      have e3 : B ≠ wr.heap.size := by omega
                      have e4 : wr.heap.size ≠ B := by omega
                      rcases hp with hp | ⟨hp1, hp2⟩
                      · have hq : ¬ xb.token < xa.token := by omega
                        have hq2 := beq_f (a := xa.token) (b := xb.token) (by omega)
                        go_wp2
                        go_roundw
                        case rel => exact ⟨k + 1, .inl (by omega), by go_num, Lib.hid ((HB4.out.alloc HW.out _).alloc (by have := HW.out; simp; omega) _)⟩
                        case measure => simp [intOf]; omega
                      · rw [hp1] at ca0
                        have hq := beq_t (a := xb.token) (b := xb.token) rfl
                        go_wp2
                        go_roundw
                        case rel => exact ⟨k + 1, .inl (by omega), by go_num, Lib.hid ((HB4.out.alloc HW.out _).alloc (by have := HW.out; simp; omega) _)⟩
                        case measure => simp [intOf]; omega
                    · go_wp2
                      clear x7
                      go_loopw [10, 11, 12] (fun i _ _ wr => ∃ k : Nat, (k + 1 ≤ n10 ∨ k = 0) ∧ i = .int .i64 ((k : Int) + 1) ∧ Hid (Below N.heap.size N wr)) (fun i _ _ _ => n10 - (intOf i).toNat)
                      case atStart => exact ⟨0, .inr rfl, rfl, HB4⟩
                      case round =>
                        obtain ⟨k, hk, rfl, HB5⟩ := hrel
                        have hn : n10 ≤ 140737488355328 := by have h1 := HS.out.listed.1; have h2 := HF.out; simp only at h1; unfold GSt.fits at h2; omega
                        have x10 := cell_of_blk (block_below HB5.out HBX.out) 10
                        simp only [StV.vals] at x10
                        by_cases hlt : k + 1 < n10
                        · obtain ⟨B, O, hA, _, hc⟩ := HS.out.listed.elem lenLst (by simp only; omega)
                          simp only at hA
                          subst hA
                          have hl1 : k + 1 < g.listed.length := by rw [HS.out.listed.1]; exact hlt
                          have HPR := Lib.hid (List.pairwise_iff_getElem.1 HR.out.listed k (k + 1) (by omega) hl1 (by omega))
                          have HBW := Lib.hid (below2 HNB.out HB5.out)
                          have ca0 : wr.cell? ⟨B, O + k * 7, none⟩ = some (.int .u64 g.listed[k].token) := cell_below HBW.out (hc (k) (by omega) 0 _ rfl)
                          have ca1 : wr.cell? ⟨B, O + k * 7 + 1, none⟩ = some (.int .u64 g.listed[k].inst) := cell_below HBW.out (hc (k) (by omega) 1 _ rfl)
                          have ca2 : wr.cell? ⟨B, O + k * 7 + 2, none⟩ = some (.int .i64 g.listed[k].node) := cell_below HBW.out (hc (k) (by omega) 2 _ rfl)
                          have ca3 : wr.cell? ⟨B, O + k * 7 + 3, none⟩ = some (.string g.listed[k].name) := cell_below HBW.out (hc (k) (by omega) 3 _ rfl)
                          have ca4 : wr.cell? ⟨B, O + k * 7 + 4, none⟩ = some (.string g.listed[k].key) := cell_below HBW.out (hc (k) (by omega) 4 _ rfl)
                          have ca5 : wr.cell? ⟨B, O + k * 7 + 5, none⟩ = some (.int .u64 g.listed[k].message) := cell_below HBW.out (hc (k) (by omega) 5 _ rfl)
                          have ca6 : wr.cell? ⟨B, O + k * 7 + 6, none⟩ = some (.slice g.listed[k].vA g.listed[k].vN g.listed[k].vC) := cell_below HBW.out (hc (k) (by omega) 6 _ rfl)
                          have cb0 : wr.cell? ⟨B, O + (k + 1) * 7, none⟩ = some (.int .u64 g.listed[k + 1].token) := cell_below HBW.out (hc (k + 1) (by omega) 0 _ rfl)
                          have cb1 : wr.cell? ⟨B, O + (k + 1) * 7 + 1, none⟩ = some (.int .u64 g.listed[k + 1].inst) := cell_below HBW.out (hc (k + 1) (by omega) 1 _ rfl)
                          have cb2 : wr.cell? ⟨B, O + (k + 1) * 7 + 2, none⟩ = some (.int .i64 g.listed[k + 1].node) := cell_below HBW.out (hc (k + 1) (by omega) 2 _ rfl)
                          have cb3 : wr.cell? ⟨B, O + (k + 1) * 7 + 3, none⟩ = some (.string g.listed[k + 1].name) := cell_below HBW.out (hc (k + 1) (by omega) 3 _ rfl)
                          have cb4 : wr.cell? ⟨B, O + (k + 1) * 7 + 4, none⟩ = some (.string g.listed[k + 1].key) := cell_below HBW.out (hc (k + 1) (by omega) 4 _ rfl)
                          have cb5 : wr.cell? ⟨B, O + (k + 1) * 7 + 5, none⟩ = some (.int .u64 g.listed[k + 1].message) := cell_below HBW.out (hc (k + 1) (by omega) 5 _ rfl)
                          have cb6 : wr.cell? ⟨B, O + (k + 1) * 7 + 6, none⟩ = some (.slice g.listed[k + 1].vA g.listed[k + 1].vN g.listed[k + 1].vC) := cell_below HBW.out (hc (k + 1) (by omega) 6 _ rfl)
                          clear hc
                          generalize g.listed[k] = xa at *
                          generalize g.listed[k + 1] = xb at *
                          have hp : ltP xa.token xa.node xb.token xb.node := HPR.out
                          have HW := Lib.hid (HB5.out.size)
                          have hlw : w.heap.size < wr.heap.size := lt_of_blk (block_below HB5.out HBX.out)
                          have hlB : B < wr.heap.size := World.block_lt_of_cell? _ _ ca0
                          have e1 : w.heap.size ≠ wr.heap.size := by omega
                          have e2 : wr.heap.size ≠ w.heap.size := by omega
                          have e3 : B ≠ wr.heap.size := by omega
                          have e4 : wr.heap.size ≠ B := by omega
                          rcases hp with hp | ⟨hp1, hp2⟩
                          · have hq : ¬ xb.token < xa.token := by omega
                            have hq2 := beq_f (a := xa.token) (b := xb.token) (by omega)
                            go_wp2
                            go_roundw
                            case rel => exact ⟨k + 1, .inl (by omega), by go_num, Lib.hid ((HB5.out.alloc HW.out _).alloc (by have := HW.out; simp; omega) _)⟩
                            case measure => simp [intOf]; omega
                          · rw [hp1] at ca0
                            have hq := beq_t (a := xb.token) (b := xb.token) rfl
                            go_wp2
                            go_roundw
                            case rel => exact ⟨k + 1, .inl (by omega), by go_num, Lib.hid ((HB5.out.alloc HW.out _).alloc (by have := HW.out; simp; omega) _)⟩
                            case measure => simp [intOf]; omega
                        · go_wp2
                          go_ret
                          exact ⟨rfl, below2 HNB.out HB5.out⟩
end Go.Proofs.YtgpkmellpllmgaaGreat
/-
  The law that all lists rise, whatever is folded from nothing. By hand.
-/
set_option linter.unusedVariables false
set_option linter.unusedSimpArgs false
namespace Go.Proofs.YtgpkmellpllmgaaGreat
open Go Go.RowKit Go.Proofs.Base
open Go.Sort (grow)
theorem rises_pure {g : GSt} (h : Rises g.pure) : Rises g :=
  ⟨(List.pairwise_map.1 h.insts).imp fun h => h, h.tokens, h.jobs, (List.pairwise_map.1 h.msgs).imp fun h => h, h.timers, (List.pairwise_map.1 h.listed).imp fun h => h⟩
theorem foldA_rises (pos : Nat → Int) (l : List ERec) : ∀ k, Rises (foldA pos l k)
  | 0 => rises_empty
  | k + 1 => rises_applyP _ (foldA_rises pos l k)
set_option maxRecDepth 100000 in
set_option maxHeartbeats 8000000 in
theorem law_Rises (A : Option Addr) (c : Nat) (l : List ERec) (w : World) (hl : Recs w (.slice A l.length c) l) : Calls Tryz.prog 3 #[.slice A l.length c] w fun e w' => e = .returned (.bool true) ∧ Below w.heap.size w w' := by
  have hn : l.length * 144 ≤ 140737488351232 := by have := hl.2.2; omega
  have HL := Lib.hid hl
  clear hl
  go_enter Tryz.func3, Tryz.ntmps3
  go_wp2_with (first
    | (go_at_call 9; refine (c_shown _).mono ?_; rintro e w1 ⟨rfl, hb⟩; have HB0 := Lib.hid hb; clear hb)
    | (refine wpList_store_box (cells := vZ.vals) _ _ _ rfl rfl rfl rfl bSt (heap_alloc_new _ _) rfl rfl (vals_one _) ?_; intro V1 hV1 hM1; have HX1 : Hid (BoxSt w1.heap.size V1 vZ emptyP) := Lib.hid (BoxSt.start (S := fun _ => False) (st_zero w1 _) (Below.refl _ _) hV1 hM1); have HB1 := Lib.hid (below_of_mut (below_alloc HB0.out _) (by simp; have := HB0.out.size; omega) hM1 (fun x hx => by have := HB0.out.size; omega)); have HBB := Lib.hid HB0.out.size; clear hV1 hM1 HB0; generalize w1.heap.size = b at *))
  go_loopw [5, 6, 7, 8] (fun i _ _ _ wr => ∃ (k : Nat) (v : StV) (g : GSt), k ≤ l.length ∧ i = .int .i64 k ∧ Hid (g.pure = foldA (fun i => (i : Int) + 1) l k) ∧ Hid (BoxSt b wr v g) ∧ Hid (Below w.heap.size w wr)) (fun i _ _ _ _ => l.length - (intOf i).toNat)
  case atStart => exact ⟨0, vZ, emptyP, Nat.zero_le _, rfl, Lib.hid rfl, HX1, HB1⟩
  case round =>
    clear HX1 HB1 V1
    obtain ⟨k, v, g, hk, rfl, HG, HX, HB⟩ := hrel
    by_cases hlt : k < l.length
    · obtain ⟨B, O, hA, hcell⟩ := recs_at HL.out (by omega)
      subst hA
      have HC := Lib.hid (hcell k hlt)
      have hc := fun j u hu => cell_below HB.out (hcell k hlt j u hu)
      clear hcell
      obtain ⟨hrw, hrv⟩ := HL.out.2.1 l[k] (List.getElem_mem _)
      have hv : VarsR wr (fun x => x ≠ b) l[k].vA l[k].vN l[k].vC l[k].r.vars := hrv.mut (T := fun _ => False) (Mut.of_below HB.out _) (fun _ _ _ h => h) (fun x hx _ => by have := HBB.out; omega)
      have hL0 := load_box_re bSt HX.out.box rfl
      have hL6 := load_at_re bRec (encRec l[k]) rfl hc
      have HGS : Hid (foldA (fun i => (i : Int) + 1) l (k + 1) = applyP ((k : Int) + 1) l[k].r (foldA (fun i => (i : Int) + 1) l k)) := Lib.hid (foldA_succ hlt)
      have HAP := Lib.hid (fun (w' : World) (hs : StR w' (fun x => x ≠ b) v g) (hv : VarsR w' (fun x => x ≠ b) l[k].vA l[k].vN l[k].vC l[k].r.vars) => u_apply_small k ((k : Int) + 1) hs hv hrw.2.1 (by rw [HG.out]; exact foldA_wf _ (fun x hx => (HL.out.2.1 x hx).1) k hk) (by rw [HG.out]; exact foldA_small _ l k) (by omega))
      have HV := Lib.hid hv
      have HL6 := Lib.hid hL6
      have HL0 := Lib.hid hL0
      clear hrw hrv hc hv hL6 hL0
      generalize l[k] = x at *
      have hW : IntKind.u64.wrap (k : Int) = k := IntWalk.u64_in _ (by omega)
      have hW2 : IntKind.u64.wrap ((k : Int) + 1) = k + 1 := IntWalk.u64_in _ (by omega)
      go_wp2
      refine wp_region_ord [9] (n := 10) (listed := #[false, false, false, false, false, false, false, false, false, false]) (by kernel_rfl) rfl rfl ?_
      ((refine wpK_pure (fuel := 9) (listed' := #[false, true, false, false, false, false, false, false, false, false]) 1 rfl (by kernel_rfl) rfl ?_; (first | go_big_quiet_step (fail) | quiet_step (fail)); refine wpQuiet_nil ?_); (refine wpK_pure (fuel := 8) (listed' := #[false, true, true, false, false, false, false, false, false, false]) 2 rfl (by kernel_rfl) rfl ?_; (first | go_big_quiet_step (fail) | quiet_step (fail)); refine wpQuiet_nil ?_); (refine wpK_pure (fuel := 7) (listed' := #[false, true, true, true, false, false, false, false, false, false]) 3 rfl (by kernel_rfl) rfl ?_; (first | go_big_quiet_step (fail) | quiet_step (fail)); refine wpQuiet_nil ?_); (refine wpK_pure (fuel := 6) (listed' := #[false, true, true, true, true, false, false, false, false, false]) 4 rfl (by kernel_rfl) rfl ?_; (first | go_big_quiet_step (fail) | quiet_step (fail)); refine wpQuiet_nil ?_); (refine wpK_pure (fuel := 5) (listed' := #[false, true, true, true, true, true, false, false, false, false]) 5 rfl (by kernel_rfl) rfl ?_; (first | go_big_quiet_step (fail) | quiet_step (fail)); refine wpQuiet_nil ?_); (refine wpK_pure (fuel := 4) (listed' := #[false, true, true, true, true, true, true, false, false, false]) 6 rfl (by kernel_rfl) rfl ?_; (first | go_big_quiet_step (fail) | quiet_step (fail)); refine wpQuiet_nil ?_))
      (refine wpK_read (fuel := 3) (listed' := #[true, true, true, true, true, true, true, false, false, false]) 0 (by first | exact regrown_first _ _ | exact regrown_self _) rfl (by kernel_rfl) rfl ?_; refine wpQuiet_load _ _ rfl rfl rfl HL0.out ?_; refine wpQuiet_nil ?_)
      (refine wpK_read (fuel := 2) (listed' := #[true, true, true, true, true, true, true, true, false, false]) 7 (by first | exact regrown_first _ _ | exact regrown_self _) rfl (by kernel_rfl) rfl ?_; refine wpQuiet_load _ _ rfl rfl rfl HL6.out ?_; refine wpQuiet_nil ?_)
      clear hW
      refine wpK_one (fuel := 1) (listed' := #[true, true, true, true, true, true, true, true, true, false]) 8 rfl (by kernel_rfl) rfl ?_
      go_wp2_with fail
      (refine (HAP.out _ (HX.out.st.below (below_redrawn wr _) (fun _ _ h => h)) (HV.out.below (below_redrawn wr _) (fun _ _ h => h))).mono ?_; rintro e w1 ⟨v1, g1, rfl, hs, hp, hb⟩; have HB1 := Lib.hid (below2 (below_redrawn wr _) hb); have HG1 : Hid (g1.pure = foldA (fun i => (i : Int) + 1) l (k + 1)) := Lib.hid (by rw [hp, HGS.out, HG.out]); have HS := Lib.hid hs; clear hs hp hb)
      go_wp2_with fail
      refine ⟨rfl, fun _ _ => regrown_of_below HB1.out, ?_⟩
      refine wpK_one (fuel := 0) (listed' := #[true, true, true, true, true, true, true, true, true, true]) 9 rfl (by kernel_rfl) rfl ?_
      refine wpList_store_box _ _ _ rfl rfl rfl rfl bSt (block_below HB1.out HX.out.box) rfl rfl (vals_one _) ?_
      intro V1 hV1 hM1
      have HX2 := Lib.hid ((HX.out.below (below_redrawn wr _)).put HS.out hV1 hM1)
      have HB2 := Lib.hid (below_of_mut (below2 HB.out HB1.out) (Nat.le_trans HB.out.size HB1.out.size) hM1 (fun x hx => hx ▸ HBB.out))
      clear hV1 hM1 HS HX HAP HV HL0 HL6 HB HB1
      go_wp2_with fail
      refine ⟨rfl, fun h => absurd h (by decide), ?_⟩
      refine wpK_end rfl ?_
      have HRi := Lib.hid (rises_pure (g := g1) (by rw [HG1.out]; exact foldA_rises _ l (k + 1)))
      have HFi := Lib.hid ((small_pure.1 (by rw [HG1.out]; exact foldA_small _ l (k + 1)) : Small (k + 1) g1).fits (by omega))
      have HPo : Hid (v1.Pp = (k : Int) + 1) := Lib.hid (by rw [HX2.out.st.pos, show g1.pos = g1.pure.pos from rfl, HG1.out, HGS.out, pos_applyP])
      have HEn : Hid (x.r.cls = 2 → x.r.kind = 15 ∨ x.r.kind = 16 → ∀ t ∈ g1.tokens, t.inst ≠ x.r.key) := Lib.hid (fun h1 h2 t ht => ended_applyP _ _ _ h1 h2 t (by rw [← HGS.out, ← HG1.out]; exact ht))
      clear HG HGS
      have hq : ∀ V : World, Below w.heap.size w V → V.cell? ⟨B, O + k * 13, none⟩ = some (.int .i64 x.r.cls) ∧ V.cell? ⟨B, O + k * 13 + 1, none⟩ = some (.int .i64 x.r.kind) := fun V hV => ⟨cell_below hV (HC.out 0 _ rfl), cell_below hV (HC.out 1 _ rfl)⟩
      have hW : IntKind.u64.wrap (k : Int) = k := IntWalk.u64_in _ (by omega)
      by_cases hend : x.r.cls = 2 ∧ (x.r.kind = 15 ∨ x.r.kind = 16)
      · obtain ⟨h1, h2⟩ := hend
        have HT := Lib.hid (HEn.out h1 h2)
        have HQ : Hid (∀ V : World, Below w.heap.size w V → V.cell? ⟨B, O + k * 13, none⟩ = some (.int .i64 2) ∧ ∃ q, (q = 15 ∨ q = 16) ∧ V.cell? ⟨B, O + k * 13 + 1, none⟩ = some (.int .i64 q)) := Lib.hid (fun V hV => ⟨by rw [← h1]; exact (hq V hV).1, _, h2, (hq V hV).2⟩)
        clear h1 h2 HEn hq
        go_wp2_with (first
          | (refine wpList_load_box _ _ rfl rfl rfl bSt HX2.out.box rfl ?_)
          | (go_at_call 11; refine (c_rises HX2.out.st HRi.out HFi.out).mono ?_; rintro e V2 ⟨rfl, hb⟩; have HX3 := Lib.hid (HX2.out.below hb); have HB3 := Lib.hid (below2 HB2.out hb); clear hb HX2 HB2; obtain ⟨P, D, M, A3, n3, c3, A4, n4, c4, A5, n5, c5, A6, n6, c6, A7, n7, c7, A8, n8, c8, A9, n9, c9, A10, n10, c10, A11, n11, c11⟩ := v1; have m0 := cell_of_blk HX3.out.box 0; have m5 := cell_of_blk HX3.out.box 5; have hpo := HPo.out; simp only [StV.vals] at m0 m5 hpo; rw [hpo] at m0; obtain ⟨q0, q, hq, q1⟩ := HQ.out _ HB3.out; clear hpo HPo; rcases hq with rfl | rfl))
        all_goals
          have hn5 : n5 ≤ 140737488355328 := by have h1 := HX3.out.st.tokens.1; have h2 := HFi.out; simp only at h1; unfold GSt.fits at h2; omega
          have HW1 := Lib.hid hn5
          go_loopw [8] (fun i wr => ∃ m : Nat, m ≤ n5 ∧ i = .int .i64 m ∧ Hid (Below V2.heap.size V2 wr)) (fun i _ => n5 - (intOf i).toNat)
          case atStart => exact ⟨0, Nat.zero_le _, rfl, Lib.hid (Below.refl _ _)⟩
          case round =>
            obtain ⟨m, hm, rfl, HBm⟩ := hrel
            have HX4 := Lib.hid (HX3.out.below HBm.out)
            have HB4 := Lib.hid (below2 HB3.out HBm.out)
            have hn5 := HW1.out
            have y5 := cell_of_blk HX4.out.box 5
            simp only [StV.vals] at y5
            by_cases hm5 : m < n5
            · obtain ⟨B5, O5, hA5, _, hc5⟩ := HX4.out.st.tokens.elem lenTok (by simp only; omega)
              simp only at hA5
              subst hA5
              have hml : m < g1.tokens.length := by rw [HX4.out.st.tokens.1]; exact hm5
              have z1 : wr.cell? ⟨B5, O5 + m * 6 + 1, none⟩ = some (.int .u64 g1.tokens[m].inst) := hc5 m hml 1 _ rfl
              have r4 : wr.cell? ⟨B, O + k * 13 + 4, none⟩ = some (.int .u64 x.r.key) := cell_below HB4.out (HC.out 4 _ rfl)
              have hq := beq_f (HT.out g1.tokens[m] (List.getElem_mem _))
              generalize g1.tokens[m] = t at *
              clear hc5
              go_wp2
              go_quiet (fail)
              go_wp2
              go_roundw
              case rel => exact ⟨m + 1, by omega, by go_num, Lib.hid (below_drewN HBm.out _)⟩
              case measure => simp [intOf]; omega
            · go_wp2
              go_roundw
              case rel => exact ⟨k + 1, _, g1, by omega, by go_num, HG1, HX4, HB4⟩
              case measure => simp [intOf]; omega
      · have hx : (x.r.cls == 2) = false ∨ (x.r.cls = 2 ∧ (x.r.kind == 15) = false ∧ (x.r.kind == 16) = false) := by
          by_cases h1 : x.r.cls = 2
          · exact .inr ⟨h1, beq_f (fun e => hend ⟨h1, .inl e⟩), beq_f (fun e => hend ⟨h1, .inr e⟩)⟩
          · exact .inl (beq_f h1)
        clear hend HEn
        rcases hx with hx | ⟨h1, h2, h3⟩
        all_goals
          (try rw [h1] at hq)
          have HQ := Lib.hid hq
          clear hq
          go_wp2_with (first
          | (refine wpList_load_box _ _ rfl rfl rfl bSt HX2.out.box rfl ?_)
          | (go_at_call 11; refine (c_rises HX2.out.st HRi.out HFi.out).mono ?_; rintro e V2 ⟨rfl, hb⟩; have HX3 := Lib.hid (HX2.out.below hb); have HB3 := Lib.hid (below2 HB2.out hb); clear hb HX2 HB2; obtain ⟨P, D, M, A3, n3, c3, A4, n4, c4, A5, n5, c5, A6, n6, c6, A7, n7, c7, A8, n8, c8, A9, n9, c9, A10, n10, c10, A11, n11, c11⟩ := v1; have m0 := cell_of_blk HX3.out.box 0; have m5 := cell_of_blk HX3.out.box 5; have hpo := HPo.out; simp only [StV.vals] at m0 m5 hpo; rw [hpo] at m0; obtain ⟨q0, q1⟩ := HQ.out _ HB3.out; clear hpo HPo))
          go_loopw [8] (fun i wr => i = .int .i64 0 ∧ wr = V2) (fun i _ => 0)
          case atStart => exact ⟨rfl, rfl⟩
          case round =>
            obtain ⟨rfl, rfl⟩ := hrel
            go_wp2
            all_goals
              go_roundw
              case rel => exact ⟨k + 1, _, g1, by omega, by go_num, HG1, HX3, HB3⟩
              case measure => simp [intOf]; omega
    · go_wp2
      go_ret
      exact ⟨rfl, HB.out⟩
end Go.Proofs.YtgpkmellpllmgaaGreat
