/-
  Merged from Open, FoO, FoMd.
-/
import Derived.Test.YtgpkmellpllmgaaGreatFm
import Derived.Test.YtgpkmellpllmgaaGreatRows
import Derived.Deep.Slices
import Derived.Deep.Fields
import Derived.SizedLaws
import Derived.OpenShut
import Derived.Test.YtgpkmellpllmgaaGreatFoSh
/-
  The arguments of the laws, opened: values, variables, records as data. Printed by genopen.py.
-/
set_option linter.unusedVariables false
set_option linter.unusedSimpArgs false
namespace Go.Proofs.YtgpkmellpllmgaaGreat
open Go Go.RowKit Go.Proofs.Base Go.WideShapes Go.ChangeShapes
theorem cells_int : Tryz.prog.cellsOf 3 = 1 := by kernel_rfl
theorem cells_int64 : Tryz.prog.cellsOf 2 = 1 := by kernel_rfl
theorem cells_uint64 : Tryz.prog.cellsOf 24 = 1 := by kernel_rfl
theorem cells_string : Tryz.prog.cellsOf 9 = 1 := by kernel_rfl
theorem cells_vars : Tryz.prog.cellsOf 37 = 1 := by kernel_rfl
theorem cells_value : Tryz.prog.cellsOf 89 = 3 := by kernel_rfl
theorem cells_var : Tryz.prog.cellsOf 91 = 4 := by kernel_rfl
theorem cells_record : Tryz.prog.cellsOf 39 = 13 := by kernel_rfl
section
variable {H : Type} {enc : TypeId × Value → H} {w : World} {base : Nat} {spare : Nat → Bool} {held : Bool}
def Light (t : TypeId) (d : DataW H) : Prop := ∀ n ∈ d.weights Tryz.prog t, n ≤ 140737488351232
theorem light_part {t : TypeId} {fs : Array Field} {ds : List (DataW H)} (hu : Tryz.prog.underlying t = some (.struct fs)) (h : Light t (.agg ds)) {j : Nat} {f : Field} {d : DataW H} (hf : fs[j]? = some f) (hd : ds[j]? = some d) : Light f.type d := by
  intro n hn
  refine h n ?_
  simp only [DataW.weights, hu]
  exact DataW.weights_mem_each (j := j) (by simp [hf]) hd n hn
theorem mem_weightsAll {e : TypeId} : ∀ {l : List (DataW H)} {d : DataW H}, d ∈ l → ∀ n ∈ d.weights Tryz.prog e, n ∈ DataW.weightsAll Tryz.prog e l
  | x :: r, d, h, n, hn => by
    simp only [DataW.weightsAll, List.mem_append]
    rcases List.mem_cons.1 h with rfl | h
    · exact .inl hn
    · exact .inr (mem_weightsAll h n hn)
theorem light_elem {t e : TypeId} {es sp : List (DataW H)} (hu : Tryz.prog.underlying t = some (.slice e)) (h : Light t (.slice es sp)) {d : DataW H} (hd : d ∈ es) : Light e d := by
  intro n hn
  refine h n ?_
  simp only [DataW.weights, hu, List.mem_cons, List.mem_append]
  exact .inr (.inl (mem_weightsAll hd n hn))
theorem fld {fs : Array Field} {cs : List Value} {xs : List (DataW H × List MemPlace)} {m : Nat} (hf : ∀ (i : Nat) (f : Field), fs[i]? = some f → DataW.trod enc Tryz.prog w base spare held m f.type ((cs.drop f.offset).take (Tryz.prog.cellsOf f.type)) = xs[i]?)
    {i : Nat} {f : Field} (hi : fs[i]? = some f) {t : TypeId} (ht : f.type = t) {k : Nat} (hk : Tryz.prog.cellsOf t = k) {c : List Value} (hc : (cs.drop f.offset).take k = c) {x : DataW H × List MemPlace} (hx : xs[i]? = some x) : DataW.trod enc Tryz.prog w base spare held m t c = some x := by
  have h := hf i f hi
  rw [ht, hk, hc, hx] at h
  exact h
theorem read_i64 {t : TypeId} {n : Nat} {c : Value} {x : DataW H × List MemPlace} (hu : Tryz.prog.underlying t = some (.int .i64)) (h : DataW.trod enc Tryz.prog w base spare held n t [c] = some x) : ∃ k, c = .int .i64 k ∧ i64 k := by
  obtain ⟨k, e, _, wk⟩ := DataW.trod_int hu h
  exact ⟨k, by simpa using e, by have := bounds_i64 wk; exact this⟩
theorem read_u64 {t : TypeId} {n : Nat} {c : Value} {x : DataW H × List MemPlace} (hu : Tryz.prog.underlying t = some (.int .u64)) (h : DataW.trod enc Tryz.prog w base spare held n t [c] = some x) : ∃ k, c = .int .u64 k ∧ u64 k := by
  obtain ⟨k, e, _, wk⟩ := DataW.trod_int hu h
  exact ⟨k, by simpa using e, by have := bounds_u64 wk; exact this⟩
theorem read_str {t : TypeId} {n : Nat} {c : Value} {x : DataW H × List MemPlace} (hu : Tryz.prog.underlying t = some .string) (h : DataW.trod enc Tryz.prog w base spare held n t [c] = some x) (hl : Light t x.1) : ∃ s, c = .string s ∧ okS s := by
  obtain ⟨s, e, rfl, _⟩ := DataW.trod_string hu h
  refine ⟨s, by simpa using e, ?_⟩
  have := hl s.data.toList.length (by simp [DataW.weights])
  exact Nat.le_trans (by show s.data.size ≤ _; simp) this
theorem varCells_get {l : List GVar} {i j : Nat} {u : Value} (h : i < l.length) (hj : j < 4) (hu : (varCells l)[i * 4 + j]? = some u) : l[i].cells[j]? = some u := by
  obtain ⟨a0, a1, a2, a3⟩ := varCells_at h
  match j, hj with
  | 0, _ => rw [a0] at hu; exact hu
  | 1, _ => rw [a1] at hu; exact hu
  | 2, _ => rw [a2] at hu; exact hu
  | 3, _ => rw [a3] at hu; exact hu
set_option maxRecDepth 100000 in
theorem read_value {n : Nat} {cs : List Value} {x : DataW H × List MemPlace} (h : DataW.trod enc Tryz.prog w base spare held n 89 cs = some x) (hl : Light 89 x.1) : ∃ v : GVal, cs = v.cells ∧ v.wf := by
  obtain ⟨xs, m, _, rfl, hcl, hlen, hf⟩ := DataW.trod_struct Tryz.underlying89 h
  match cs, hcl.trans cells_value, xs, hlen with
  | [c0, c1, c2], _, [x0, x1, x2], _ =>
    have g0 := fld hf (i := 0) rfl rfl cells_int (c := [c0]) rfl (x := x0) rfl
    have g1 := fld hf (i := 1) rfl rfl cells_int64 (c := [c1]) rfl (x := x1) rfl
    have g2 := fld hf (i := 2) rfl rfl cells_string (c := [c2]) rfl (x := x2) rfl
    obtain ⟨k, rfl, wk⟩ := read_i64 Tryz.underlying3 (x := x0) g0
    obtain ⟨l, rfl, wl⟩ := read_i64 Tryz.underlying2 (x := x1) g1
    obtain ⟨s, rfl, ws⟩ := read_str Tryz.underlying9 (x := x2) g2 (light_part Tryz.underlying89 hl (j := 2) rfl rfl)
    exact ⟨⟨k, l, s⟩, rfl, wk, wl, ws⟩
set_option maxRecDepth 100000 in
theorem read_var {n : Nat} {cs : List Value} {x : DataW H × List MemPlace} (h : DataW.trod enc Tryz.prog w base spare held n 91 cs = some x) (hl : Light 91 x.1) : ∃ v : GVar, cs = v.cells ∧ v.wf := by
  obtain ⟨xs, m, _, rfl, hcl, hlen, hf⟩ := DataW.trod_struct Tryz.underlying91 h
  match cs, hcl.trans cells_var, xs, hlen with
  | [c0, c1, c2, c3], _, [x0, x1], _ =>
    have g0 := fld hf (i := 0) rfl rfl cells_string (c := [c0]) rfl (x := x0) rfl
    have g1 := fld hf (i := 1) rfl rfl cells_value (c := [c1, c2, c3]) rfl (x := x1) rfl
    obtain ⟨s, rfl, ws⟩ := read_str Tryz.underlying9 (x := x0) g0 (light_part Tryz.underlying91 hl (j := 0) rfl rfl)
    obtain ⟨v, hv, wv⟩ := read_value (x := x1) (cs := [c1, c2, c3]) g1 (light_part Tryz.underlying91 hl (j := 1) rfl rfl)
    obtain ⟨rfl, rfl, rfl⟩ : c1 = .int .i64 v.k ∧ c2 = .int .i64 v.n ∧ c3 = .string v.s := by simpa [GVal.cells] using hv
    exact ⟨⟨s, v⟩, rfl, ws, wv⟩
set_option maxRecDepth 100000 in
theorem read_vars {n : Nat} {c : Value} {x : DataW H × List MemPlace} (h : DataW.trod enc Tryz.prog w base spare held n 37 [c] = some x) (hl : Light 37 x.1) :
    ∃ l : List GVar, Row w (fun _ => True) 4 l.length c (varCells l) ∧ ∀ y ∈ l, y.wf := by
  rcases Go.Deep.open_slice Tryz.underlying37 h with ⟨hcs, _⟩ | ⟨a, len, cap, m, n', D, Pl, hcs, _, hlc, hcm, hm, rfl, hi⟩
  · obtain rfl : c = .slice none 0 0 := by simpa using hcs
    exact ⟨[], Row.nil _ _ _, fun y hy => by cases hy⟩
  · obtain rfl : c = .slice (some a) len cap := by simpa using hcs
    have hlm : len ≤ m := by rw [hm]; split <;> omega
    have hex : ∀ i, ∃ v : GVar, i < len → v.wf ∧ ∀ j u, v.cells[j]? = some u → w.cell? (a.add (i * 4 + j)) = some u := by
      intro i
      by_cases hil : i < len
      · obtain ⟨cs', hc, ht⟩ := hi i (by omega)
        rw [cells_var] at hc
        obtain ⟨v, rfl, wv⟩ := read_var ht (light_elem Tryz.underlying37 hl (List.mem_map.2 ⟨i, List.mem_range.2 hil, rfl⟩))
        obtain ⟨_, hcl, hat⟩ := World.cells?_some hc
        refine ⟨v, fun _ => ⟨wv, fun j u hj => ?_⟩⟩
        have hj4 : j < 4 := (List.getElem?_eq_some_iff.1 hj).1
        have := hat j hj4
        rw [← Go.Deep.add_add, this, hj]
      · exact ⟨⟨ByteArray.empty, zeroV⟩, fun h => absurd h hil⟩
    obtain ⟨f, hf⟩ := Classical.axiomOfChoice hex
    refine ⟨(List.range len).map f, ⟨some a, cap, by simp, by simpa using hlc, hcm, ?_, fun h => (nomatch h), fun hn => ?_⟩, fun y hy => ?_⟩
    · rw [varCells_len]
    · have hn' : 0 < len := by simpa using hn
      have h0 := (hf 0 hn').2 0 _ rfl
      obtain ⟨b, o, s⟩ := a
      have hs : s = none := by simpa [Addr.add] using World.cell?_spot h0
      subst hs
      refine ⟨b, o, rfl, trivial, by simpa [Addr.add] using World.block_lt_of_cell? _ _ h0, fun j u hj => ?_⟩
      have hj2 : j < len * 4 := by
        have := (List.getElem?_eq_some_iff.1 hj).1
        rw [varCells_len] at this
        simpa using this
      have e : j = (j / 4) * 4 + j % 4 := by omega
      rw [e] at hj
      have hq : j / 4 < ((List.range len).map f).length := by simp; omega
      have hv := varCells_get hq (Nat.mod_lt j (by decide)) hj
      have := (hf (j / 4) (by omega)).2 (j % 4) u (by simpa using hv)
      rw [Base.add_plain] at this
      rw [e, ← Nat.add_assoc]
      simpa [Nat.add_assoc] using this
    · obtain ⟨i, hi', rfl⟩ := List.mem_map.1 hy
      exact (hf i (List.mem_range.1 hi')).1
set_option maxRecDepth 100000 in
theorem read_record {t : TypeId} {n : Nat} {cs : List Value} {x : DataW H × List MemPlace} (h : DataW.trod enc Tryz.prog w base spare held n 39 cs = some x) (hl : Light 39 x.1) :
    ∃ (r : GRec) (vv : Value), cs = [.int .i64 r.cls, .int .i64 r.kind, .int .u64 r.frm, .int .i64 r.time, .int .u64 r.key, .int .u64 r.key2, .int .u64 r.key3, .int .i64 r.n, .int .i64 r.m, .string r.a, .string r.b, .string r.c, vv] ∧ r.wf ∧ Row w (fun _ => True) 4 r.vars.length vv (varCells r.vars) := by
  obtain ⟨xs, m, _, rfl, hcl, hlen, hf⟩ := DataW.trod_struct Tryz.underlying39 h
  match cs, hcl.trans cells_record, xs, hlen with
  | [c0, c1, c2, c3, c4, c5, c6, c7, c8, c9, c10, c11, c12], _, [x0, x1, x2, x3, x4, x5, x6, x7, x8, x9, x10, x11, x12], _ =>
    have g0 := fld hf (i := 0) rfl rfl cells_int (c := [c0]) rfl (x := x0) rfl
    obtain ⟨rcls, rfl, wcls⟩ := read_i64 Tryz.underlying3 (x := x0) g0
    have g1 := fld hf (i := 1) rfl rfl cells_int (c := [c1]) rfl (x := x1) rfl
    obtain ⟨rkind, rfl, wkind⟩ := read_i64 Tryz.underlying3 (x := x1) g1
    have g2 := fld hf (i := 2) rfl rfl cells_uint64 (c := [c2]) rfl (x := x2) rfl
    obtain ⟨rfrm, rfl, wfrm⟩ := read_u64 Tryz.underlying24 (x := x2) g2
    have g3 := fld hf (i := 3) rfl rfl cells_int64 (c := [c3]) rfl (x := x3) rfl
    obtain ⟨rtime, rfl, wtime⟩ := read_i64 Tryz.underlying2 (x := x3) g3
    have g4 := fld hf (i := 4) rfl rfl cells_uint64 (c := [c4]) rfl (x := x4) rfl
    obtain ⟨rkey, rfl, wkey⟩ := read_u64 Tryz.underlying24 (x := x4) g4
    have g5 := fld hf (i := 5) rfl rfl cells_uint64 (c := [c5]) rfl (x := x5) rfl
    obtain ⟨rkey2, rfl, wkey2⟩ := read_u64 Tryz.underlying24 (x := x5) g5
    have g6 := fld hf (i := 6) rfl rfl cells_uint64 (c := [c6]) rfl (x := x6) rfl
    obtain ⟨rkey3, rfl, wkey3⟩ := read_u64 Tryz.underlying24 (x := x6) g6
    have g7 := fld hf (i := 7) rfl rfl cells_int64 (c := [c7]) rfl (x := x7) rfl
    obtain ⟨rn, rfl, wn⟩ := read_i64 Tryz.underlying2 (x := x7) g7
    have g8 := fld hf (i := 8) rfl rfl cells_int64 (c := [c8]) rfl (x := x8) rfl
    obtain ⟨rm, rfl, wm⟩ := read_i64 Tryz.underlying2 (x := x8) g8
    have g9 := fld hf (i := 9) rfl rfl cells_string (c := [c9]) rfl (x := x9) rfl
    obtain ⟨ra, rfl, wa⟩ := read_str Tryz.underlying9 (x := x9) g9 (light_part Tryz.underlying39 hl (j := 9) rfl rfl)
    have g10 := fld hf (i := 10) rfl rfl cells_string (c := [c10]) rfl (x := x10) rfl
    obtain ⟨rb, rfl, wb⟩ := read_str Tryz.underlying9 (x := x10) g10 (light_part Tryz.underlying39 hl (j := 10) rfl rfl)
    have g11 := fld hf (i := 11) rfl rfl cells_string (c := [c11]) rfl (x := x11) rfl
    obtain ⟨rc, rfl, wc⟩ := read_str Tryz.underlying9 (x := x11) g11 (light_part Tryz.underlying39 hl (j := 11) rfl rfl)
    have g12 := fld hf (i := 12) rfl rfl cells_vars (c := [c12]) rfl (x := x12) rfl
    obtain ⟨l, hrow, wl⟩ := read_vars (x := x12) g12 (light_part Tryz.underlying39 hl (j := 12) rfl rfl)
    exact ⟨⟨rcls, rkind, rfrm, rtime, rkey, rkey2, rkey3, rn, rm, ra, rb, rc, l⟩, c12, rfl, ⟨wcls, wkind, wfrm, wtime, wkey, wkey2, wkey3, wn, wm, wa, wb, wc, wl⟩, hrow⟩
end
end Go.Proofs.YtgpkmellpllmgaaGreat
/-
  Lists among a law's arguments, opened, whatever their elements: variables, records. By hand.
-/
set_option linter.unusedVariables false
set_option linter.unusedSimpArgs false
namespace Go.Proofs.YtgpkmellpllmgaaGreat
open Go Go.RowKit Go.Proofs.Base Go.WideShapes Go.ChangeShapes
section
variable {H : Type} {enc : TypeId × Value → H} {w : World} {base : Nat} {spare : Nat → Bool} {held : Bool}
theorem read_rows {α : Type} {t e : TypeId} {K B : Nat} {ec : α → List Value} (Good : α → Prop) (hne : Nonempty α) (hu : Tryz.prog.underlying t = some (.slice e)) (hK : Tryz.prog.cellsOf e = K) (hB : Tryz.prog.bytesOf e = B) (hlen : ∀ x, (ec x).length = K) (hK0 : 0 < K)
    (rd : ∀ {n : Nat} {cs : List Value} {x : DataW H × List MemPlace}, DataW.trod enc Tryz.prog w base spare held n e cs = some x → Light e x.1 → ∃ v : α, cs = ec v ∧ Good v)
    {n : Nat} {c : Value} {x : DataW H × List MemPlace} (h : DataW.trod enc Tryz.prog w base spare held n t [c] = some x) (hl : Light t x.1) :
    ∃ l : List α, Row w (fun _ => True) K l.length c (l.flatMap ec) ∧ (∀ y ∈ l, Good y) ∧ l.length * B ≤ 140737488351232 := by
  rcases Go.Deep.open_slice hu h with ⟨hcs, _⟩ | ⟨a, len, cap, m, n', D, Pl, hcs, _, hlc, hcm, hm, rfl, hi⟩
  · obtain rfl : c = .slice none 0 0 := by simpa using hcs
    exact ⟨[], Row.nil _ _ _, (fun y hy => by cases hy), by simp⟩
  · obtain rfl : c = .slice (some a) len cap := by simpa using hcs
    have hlm : len ≤ m := by rw [hm]; split <;> omega
    have hsz : len * B ≤ 140737488351232 := by
      have := hl ((((List.range len).map D).length + ((List.range (m - len)).map fun j => D (len + j)).length) * Tryz.prog.bytesOf e) (by
        simp only [DataW.weights, hu]
        exact List.mem_cons_self)
      rw [hB] at this
      simp only [List.length_map, List.length_range] at this
      exact Nat.le_trans (Nat.mul_le_mul_right _ (Nat.le_add_right _ _)) this
    have hex : ∀ i, ∃ v : α, i < len → Good v ∧ ∀ j u, (ec v)[j]? = some u → w.cell? (a.add (i * K + j)) = some u := by
      intro i
      by_cases hil : i < len
      · obtain ⟨cs', hc, ht⟩ := hi i (by omega)
        rw [hK] at hc
        obtain ⟨v, rfl, wv⟩ := rd ht (light_elem hu hl (List.mem_map.2 ⟨i, List.mem_range.2 hil, rfl⟩))
        obtain ⟨_, hcl, hat⟩ := World.cells?_some hc
        refine ⟨v, fun _ => ⟨wv, fun j u hj => ?_⟩⟩
        have hjK : j < K := by have := (List.getElem?_eq_some_iff.1 hj).1; rwa [hlen] at this
        have := hat j hjK
        rw [← Go.Deep.add_add, this, hj]
      · exact ⟨Classical.choice hne, fun h => absurd h hil⟩
    obtain ⟨f, hf⟩ := Classical.axiomOfChoice hex
    refine ⟨(List.range len).map f, ⟨some a, cap, by simp, by simpa using hlc, hcm, ?_, fun h => (nomatch h), fun hn => ?_⟩, fun y hy => ?_, by simpa using hsz⟩
    · rw [flat_len hlen]
    · have hn' : 0 < len := by simpa using hn
      have h0 := (hf 0 hn').2 0 ((ec (f 0))[0]'(by rw [hlen]; exact hK0)) (List.getElem?_eq_getElem _)
      obtain ⟨b, o, s⟩ := a
      have hs : s = none := by simpa [Addr.add] using World.cell?_spot h0
      subst hs
      refine ⟨b, o, rfl, trivial, World.block_lt_of_cell? w _ (by simpa [Base.add_plain] using h0), fun j u hu => ?_⟩
      have hj : j < ((List.range len).map f).length * K := by rw [← flat_len hlen]; exact (List.getElem?_eq_some_iff.1 hu).1
      have hj2 : j < len * K := by simpa using hj
      have hi3 : j / K < len := Nat.div_lt_of_lt_mul (by rw [Nat.mul_comm]; exact hj2)
      have hidx : j / K < ((List.range len).map f).length := by simpa using hi3
      have hmod : j % K < K := Nat.mod_lt _ hK0
      have hjj : j = j / K * K + j % K := by rw [Nat.mul_comm]; exact (Nat.div_add_mod j K).symm
      have hfe : ((List.range len).map f)[j / K] = f (j / K) := by simp
      have hv : (ec (f (j / K)))[j % K]? = some u := by
        rw [← hfe, ← flat_at (enc := ec) hlen hidx (j % K) hmod, ← hjj]
        exact hu
      have h3 := (hf (j / K) hi3).2 (j % K) u hv
      rw [Base.add_plain, ← hjj] at h3
      exact h3
    · obtain ⟨i, hi', rfl⟩ := List.mem_map.1 hy
      exact (hf i (List.mem_range.1 hi')).1
structure ERec where
  r : GRec
  vA : Option Addr
  vN : Nat
  vC : Nat
def encRec (x : ERec) : List Value := [.int .i64 x.r.cls, .int .i64 x.r.kind, .int .u64 x.r.frm, .int .i64 x.r.time, .int .u64 x.r.key, .int .u64 x.r.key2, .int .u64 x.r.key3, .int .i64 x.r.n, .int .i64 x.r.m, .string x.r.a, .string x.r.b, .string x.r.c, .slice x.vA x.vN x.vC]
theorem lenRec (x : ERec) : (encRec x).length = 13 := rfl
def GoodRec (w : World) (x : ERec) : Prop := x.r.wf ∧ VarsR w (fun _ => True) x.vA x.vN x.vC x.r.vars
def Recs (w : World) (v : Value) (l : List ERec) : Prop := Row w (fun _ => True) 13 l.length v (l.flatMap encRec) ∧ (∀ x ∈ l, GoodRec w x) ∧ l.length * 144 ≤ 140737488351232
theorem Recs.below {w w' : World} {v : Value} {l : List ERec} (h : Recs w v l) (hb : Below w.heap.size w w') : Recs w' v l :=
  ⟨h.1.below hb, fun x hx => ⟨(h.2.1 x hx).1, (h.2.1 x hx).2.1, (h.2.1 x hx).2.2.1, (h.2.1 x hx).2.2.2.below hb⟩, h.2.2⟩
theorem Recs.open_ {w : World} {v : Value} {l : List ERec} (h : Recs w v l) : ∃ A c, v = .slice A l.length c ∧ l.length ≤ c ∧ c ≤ 9223372036854775807 := h.1.open_
section
variable {H : Type} {enc : TypeId × Value → H} {w : World} {base : Nat} {spare : Nat → Bool} {held : Bool}
theorem read_varsR {n : Nat} {c : Value} {x : DataW H × List MemPlace} (h : DataW.trod enc Tryz.prog w base spare held n 37 [c] = some x) (hl : Light 37 x.1) :
    ∃ l : List GVar, Row w (fun _ => True) 4 l.length c (l.flatMap GVar.cells) ∧ (∀ y ∈ l, y.wf) ∧ l.length * 48 ≤ 140737488351232 :=
  read_rows (ec := GVar.cells) GVar.wf ⟨⟨ByteArray.empty, zeroV⟩⟩ Tryz.underlying37 cells_var (by kernel_rfl) (fun _ => rfl) (by decide) (fun h hl => read_var h hl) h hl
set_option maxRecDepth 100000 in
theorem read_erec {n : Nat} {cs : List Value} {x : DataW H × List MemPlace} (h : DataW.trod enc Tryz.prog w base spare held n 39 cs = some x) (hl : Light 39 x.1) : ∃ v : ERec, cs = encRec v ∧ GoodRec w v := by
  obtain ⟨r, vv, rfl, wr, row⟩ := read_record (t := 39) h hl
  obtain ⟨xs, m, _, rfl, hcl, hlen, hf⟩ := DataW.trod_struct Tryz.underlying39 h
  match xs, hlen with
  | [x0, x1, x2, x3, x4, x5, x6, x7, x8, x9, x10, x11, x12], _ =>
    have g12 := fld hf (i := 12) rfl rfl cells_vars (c := [vv]) rfl (x := x12) rfl
    obtain ⟨l2, row2, _, hb⟩ := read_varsR (x := x12) g12 (light_part Tryz.underlying39 hl (j := 12) rfl rfl)
    obtain ⟨A, c, e, _, _⟩ := row.open_
    obtain ⟨A2, c2, e2, _, _⟩ := row2.open_
    rw [e] at e2
    injection e2 with _ e3 _
    subst e
    exact ⟨⟨r, A, r.vars.length, c⟩, rfl, wr, rfl, by show r.vars.length * 48 ≤ _; rw [e3]; omega, row⟩
theorem read_recs {n : Nat} {c : Value} {x : DataW H × List MemPlace} (h : DataW.trod enc Tryz.prog w base spare held n 22 [c] = some x) (hl : Light 22 x.1) : ∃ l : List ERec, Recs w c l :=
  read_rows (ec := encRec) (GoodRec w) ⟨⟨⟨0, 0, 0, 0, 0, 0, 0, 0, 0, ByteArray.empty, ByteArray.empty, ByteArray.empty, []⟩, none, 0, 0⟩⟩ Tryz.underlying22 cells_record (by kernel_rfl) lenRec (by decide) (fun h hl => read_erec h hl) h hl
end
end
end Go.Proofs.YtgpkmellpllmgaaGreat
/-
  A fold from nothing, as a plain function, and the law on how many keys were given. By hand.
-/
set_option linter.unusedVariables false
set_option linter.unusedSimpArgs false
namespace Go.Proofs.YtgpkmellpllmgaaGreat
open Go Go.RowKit Go.Proofs.Base
open Go.Sort (grow)
def recE : ERec := ⟨recZ, none, 0, 0⟩
def foldA (pos : Nat → Int) (l : List ERec) : Nat → GSt
  | 0 => emptyP
  | k + 1 => applyP (pos k) (l.getD k recE).r (foldA pos l k)
theorem getD_at {l : List ERec} {k : Nat} (h : k < l.length) : l.getD k recE = l[k] := by simp [List.getD_eq_getElem?_getD, h]
theorem foldA_succ {pos : Nat → Int} {l : List ERec} {k : Nat} (h : k < l.length) : foldA pos l (k + 1) = applyP (pos k) l[k].r (foldA pos l k) := by
  show applyP (pos k) (l.getD k recE).r (foldA pos l k) = _
  rw [getD_at h]
theorem foldA_small (pos : Nat → Int) (l : List ERec) : ∀ k, Small k (foldA pos l k)
  | 0 => small_empty
  | k + 1 => small_applyP _ (foldA_small pos l k)
theorem foldA_wf (pos : Nat → Int) {l : List ERec} (hl : ∀ x ∈ l, x.r.wf) : ∀ k, k ≤ l.length → (foldA pos l k).wf
  | 0, _ => wf_empty
  | k + 1, h => by
    rw [foldA_succ (by omega)]
    have := hl l[k] (List.getElem_mem _)
    exact wf_applyP _ ⟨this.2.2.2.2.1, this.2.2.2.2.2.1⟩ (foldA_wf pos hl k (by omega))
def madeN (l : List ERec) : Nat → Nat
  | 0 => 0
  | k + 1 => if makes (l.getD k recE).r then madeN l k + 1 else madeN l k
theorem madeN_le (l : List ERec) : ∀ k, madeN l k ≤ k
  | 0 => Nat.le_refl _
  | k + 1 => by have := madeN_le l k; unfold madeN; split <;> omega
theorem foldA_made (pos : Nat → Int) (l : List ERec) : ∀ k, k ≤ 9223372036854775807 → (foldA pos l k).made = (madeN l k : Int)
  | 0, _ => rfl
  | k + 1, h => by
    show (applyP (pos k) (l.getD k recE).r (foldA pos l k)).made = ((if makes (l.getD k recE).r then madeN l k + 1 else madeN l k : Nat) : Int)
    have h1 := foldA_made pos l k (by omega)
    have h2 := madeN_le l k
    rw [made_applyP, h1]
    split
    · unfold IntKind.wrap; simp [IntKind.signed, IntKind.bits]; omega
    · rfl
theorem recs_at {w : World} {A : Option Addr} {c : Nat} {l : List ERec} (h : Recs w (.slice A l.length c) l) (h0 : 0 < l.length) :
    ∃ B O, A = some ⟨B, O, none⟩ ∧ ∀ (k : Nat) (hk : k < l.length), ∀ j u, (encRec l[k])[j]? = some u → w.cell? ⟨B, O + k * 13 + j, none⟩ = some u := by
  obtain ⟨B, O, hA, _, _, hc⟩ := h.1.at_ h0
  refine ⟨B, O, hA, fun k hk j u hu => hc k j u ?_⟩
  have hj : j < 13 := (List.getElem?_eq_some_iff.1 hu).1
  rw [flat_at (enc := encRec) lenRec hk j hj]
  exact hu
set_option maxRecDepth 100000 in
set_option maxHeartbeats 4000000 in
theorem law_Made (A : Option Addr) (c : Nat) (l : List ERec) (w : World) (hl : Recs w (.slice A l.length c) l) : Calls Tryz.prog 5 #[.slice A l.length c] w fun e w' => e = .returned (.bool true) ∧ Below w.heap.size w w' := by
  have hn : l.length ≤ 9223372036854775807 := by have := hl.2.2; omega
  have HL := Lib.hid hl
  clear hl
  go_enter Tryz.func5, Tryz.ntmps5
  go_wp2_with (first
    | (go_at_call 9; refine (c_shown _).mono ?_; rintro e w1 ⟨rfl, hb⟩; have HB0 := Lib.hid hb; clear hb)
    | (refine wpList_store_box (cells := vZ.vals) _ _ _ rfl rfl rfl rfl bSt (heap_alloc_new _ _) rfl rfl (vals_one _) ?_; intro V1 hV1 hM1; have HX1 : Hid (BoxSt w1.heap.size V1 vZ emptyP) := Lib.hid (BoxSt.start (S := fun _ => False) (st_zero w1 _) (Below.refl _ _) hV1 hM1); have HB1 := Lib.hid (below_of_mut (below_alloc HB0.out _) (by simp; have := HB0.out.size; omega) hM1 (fun x hx => by have := HB0.out.size; omega)); have HBB := Lib.hid HB0.out.size; clear hV1 hM1 HB0; generalize w1.heap.size = b at *))
  go_loopw [5, 6, 7] (fun md i _ wr => ∃ (k : Nat) (v : StV) (g : GSt), k ≤ l.length ∧ i = .int .i64 k ∧ md = .int .u64 (madeN l k) ∧ Hid (g.pure = foldA (fun i => i) l k) ∧ Hid (BoxSt b wr v g) ∧ Hid (Below w.heap.size w wr)) (fun _ i _ _ => l.length - (intOf i).toNat)
  case atStart => exact ⟨0, vZ, emptyP, Nat.zero_le _, rfl, rfl, Lib.hid rfl, HX1, HB1⟩
  case round =>
    clear HX1 HB1 V1
    obtain ⟨k, v, g, hk, rfl, rfl, HG, HX, HB⟩ := hrel
    by_cases hlt : k < l.length
    · obtain ⟨B, O, hA, hcell⟩ := recs_at HL.out (by omega)
      subst hA
      have HC := Lib.hid (hcell k hlt)
      have hc := fun j u hu => cell_below HB.out (hcell k hlt j u hu)
      clear hcell
      obtain ⟨hrw, hrv⟩ := HL.out.2.1 l[k] (List.getElem_mem _)
      have hv : VarsR wr (fun x => x ≠ b) l[k].vA l[k].vN l[k].vC l[k].r.vars := hrv.mut (T := fun _ => False) (Mut.of_below HB.out _) (fun _ _ _ h => h) (fun x hx _ => by have := HBB.out; omega)
      have hL0 := load_box_re bSt HX.out.box rfl
      have hL6 := load_at_re bRec (encRec l[k]) rfl hc
      have HGS : Hid (foldA (fun i => i) l (k + 1) = applyP k l[k].r (foldA (fun i => i) l k)) := Lib.hid (foldA_succ hlt)
      have HMD : Hid (madeN l (k + 1) = if makes l[k].r then madeN l k + 1 else madeN l k) := Lib.hid (by show (if makes (l.getD k recE).r then madeN l k + 1 else madeN l k) = _; rw [getD_at hlt])
      have HGM := Lib.hid (foldA_made (fun i => i) l (k + 1) (by omega))
      have HAP := Lib.hid (fun (w' : World) (hs : StR w' (fun x => x ≠ b) v g) (hv : VarsR w' (fun x => x ≠ b) l[k].vA l[k].vN l[k].vC l[k].r.vars) => u_apply_small k (k : Int) hs hv hrw.2.1 (by rw [HG.out]; exact foldA_wf _ (fun x hx => (HL.out.2.1 x hx).1) k hk) (by rw [HG.out]; exact foldA_small _ l k) (by have := HL.out.2.2; omega))
      have HV := Lib.hid hv
      have HL6 := Lib.hid hL6
      have HL0 := Lib.hid hL0
      clear hrw hrv hc hv hL6 hL0
      generalize l[k] = x at *
      have hW : IntKind.u64.wrap (k : Int) = k := IntWalk.u64_in _ (by omega)
      go_wp2
      refine wp_region_ord [8] (n := 9) (listed := #[false, false, false, false, false, false, false, false, false]) (by kernel_rfl) rfl rfl ?_
      ((refine wpK_pure (fuel := 8) (listed' := #[false, true, false, false, false, false, false, false, false]) 1 rfl (by kernel_rfl) rfl ?_; (first | go_big_quiet_step (fail) | quiet_step (fail)); refine wpQuiet_nil ?_); (refine wpK_pure (fuel := 7) (listed' := #[false, true, true, false, false, false, false, false, false]) 2 rfl (by kernel_rfl) rfl ?_; (first | go_big_quiet_step (fail) | quiet_step (fail)); refine wpQuiet_nil ?_); (refine wpK_pure (fuel := 6) (listed' := #[false, true, true, true, false, false, false, false, false]) 3 rfl (by kernel_rfl) rfl ?_; (first | go_big_quiet_step (fail) | quiet_step (fail)); refine wpQuiet_nil ?_); (refine wpK_pure (fuel := 5) (listed' := #[false, true, true, true, true, false, false, false, false]) 4 rfl (by kernel_rfl) rfl ?_; (first | go_big_quiet_step (fail) | quiet_step (fail)); refine wpQuiet_nil ?_); (refine wpK_pure (fuel := 4) (listed' := #[false, true, true, true, true, true, false, false, false]) 5 rfl (by kernel_rfl) rfl ?_; (first | go_big_quiet_step (fail) | quiet_step (fail)); refine wpQuiet_nil ?_))
      (refine wpK_read (fuel := 3) (listed' := #[true, true, true, true, true, true, false, false, false]) 0 (by first | exact regrown_first _ _ | exact regrown_self _) rfl (by kernel_rfl) rfl ?_; refine wpQuiet_load _ _ rfl rfl rfl HL0.out ?_; refine wpQuiet_nil ?_)
      (refine wpK_read (fuel := 2) (listed' := #[true, true, true, true, true, true, true, false, false]) 6 (by first | exact regrown_first _ _ | exact regrown_self _) rfl (by kernel_rfl) rfl ?_; refine wpQuiet_load _ _ rfl rfl rfl HL6.out ?_; refine wpQuiet_nil ?_)
      clear hW
      refine wpK_one (fuel := 1) (listed' := #[true, true, true, true, true, true, true, true, false]) 7 rfl (by kernel_rfl) rfl ?_
      go_wp2_with fail
      (refine (HAP.out _ (HX.out.st.below (below_redrawn wr _) (fun _ _ h => h)) (VarsR.below HV.out (below_redrawn wr _) (fun _ _ h => h))).mono ?_; rintro e w1 ⟨v1, g1, rfl, hs, hp, hb⟩; have HB1 := Lib.hid (below2 (below_redrawn wr _) hb); have HG1 : Hid (g1.pure = foldA (fun i => i) l (k + 1)) := Lib.hid (by rw [hp, HGS.out, HG.out]); have HS := Lib.hid hs; clear hs hp hb)
      go_wp2_with fail
      refine ⟨rfl, fun _ _ => regrown_of_below HB1.out, ?_⟩
      refine wpK_one (fuel := 0) (listed' := #[true, true, true, true, true, true, true, true, true]) 8 rfl (by kernel_rfl) rfl ?_
      refine wpList_store_box _ _ _ rfl rfl rfl rfl bSt (block_below HB1.out HX.out.box) rfl rfl (vals_one _) ?_
      intro V1 hV1 hM1
      have HX2 := Lib.hid ((HX.out.below (below_redrawn wr _)).put HS.out hV1 hM1)
      have HB2 := Lib.hid (below_of_mut (below2 HB.out HB1.out) (Nat.le_trans HB.out.size HB1.out.size) hM1 (fun x hx => hx ▸ HBB.out))
      clear hV1 hM1 HS HX HAP HV
      go_wp2_with fail
      refine ⟨rfl, fun h => absurd h (by decide), ?_⟩
      refine wpK_end rfl ?_
      have hml := madeN_le l k
      have m2 : V1.cell? ⟨b, 2, none⟩ = some (.int .u64 (madeN l (k + 1))) := by rw [← HGM.out, ← HG1.out, show g1.pure.made = v1.Mm from HX2.out.st.made.symm]; exact cell_of_blk HX2.out.box 2
      have q0 : V1.cell? ⟨B, O + k * 13, none⟩ = some (.int .i64 x.r.cls) := cell_below HB2.out (HC.out 0 _ rfl)
      have q1 : V1.cell? ⟨B, O + k * 13 + 1, none⟩ = some (.int .i64 x.r.kind) := cell_below HB2.out (HC.out 1 _ rfl)
      clear HG HGM HGS HL0 HL6 HB HB1 HC
      by_cases hmk : makes x.r
      · have hmd : madeN l (k + 1) = madeN l k + 1 := by rw [HMD.out, if_pos hmk]
        rw [hmd] at m2
        have HMK := Lib.hid hmd
        obtain ⟨h1, h2⟩ := hmk
        rw [h1] at q0
        have hW2 : IntKind.u64.wrap ((madeN l k : Int) + 1) = madeN l k + 1 := IntWalk.u64_in _ (by omega)
        have HD := Lib.hid hmd
        clear HMD hmd h1
        rcases h2 with h2 | h2 | h2 | h2
        all_goals
          rw [h2] at q1
          clear h2
          go_wp2
          go_roundw
          case rel => exact ⟨k + 1, v1, g1, by omega, by go_num, by rw [HD.out]; go_num, HG1, HX2, HB2⟩
          case measure => simp [intOf]; omega
      · have hmd : madeN l (k + 1) = madeN l k := by rw [HMD.out, if_neg hmk]
        rw [hmd] at m2
        have HD := Lib.hid hmd
        clear HMD hmd
        by_cases h1 : x.r.cls = 2
        · have h2 : x.r.kind ≠ 2 ∧ x.r.kind ≠ 3 ∧ x.r.kind ≠ 6 ∧ x.r.kind ≠ 19 := ⟨fun e => hmk ⟨h1, .inl e⟩, fun e => hmk ⟨h1, .inr (.inl e)⟩, fun e => hmk ⟨h1, .inr (.inr (.inl e))⟩, fun e => hmk ⟨h1, .inr (.inr (.inr e))⟩⟩
          rw [h1] at q0
          have b1 := beq_f h2.1
          have b2 := beq_f h2.2.1
          have b3 := beq_f h2.2.2.1
          have b4 := beq_f h2.2.2.2
          clear h2 hmk h1
          go_wp2
          go_roundw
          case rel => exact ⟨k + 1, v1, g1, by omega, by go_num, by rw [HD.out], HG1, HX2, HB2⟩
          case measure => simp [intOf]; omega
        · have b1 := beq_f h1
          clear hmk h1
          go_wp2
          go_roundw
          case rel => exact ⟨k + 1, v1, g1, by omega, by go_num, by rw [HD.out], HG1, HX2, HB2⟩
          case measure => simp [intOf]; omega
    · go_wp2
      go_ret
      exact ⟨rfl, HB.out⟩
end Go.Proofs.YtgpkmellpllmgaaGreat
