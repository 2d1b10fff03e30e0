/-
  Merged from OpenK, OpenS, LawMay.
-/
import Derived.Test.YthhgfdejadbigaaDoorWWords
import Derived.Deep.Slices
import Derived.Deep.Fields
import Derived.SizedLaws
import Derived.OpenShut
import Derived.ChangeArms
import Derived.Test.YthhgfdejadbigaaDoorGAx7
import Derived.Test.YthhgfdejadbigaaDoorGAx9
import Derived.Test.YthhgfdejadbigaaDoorGAx14
/-
  A handed value, opened as the print's kinds read it: whatever type it has. Nothing of a program but its types.
-/
set_option linter.unusedVariables false
set_option linter.unusedSimpArgs false
namespace Go.Proofs.YthhgfdejadbigaaDoor.OpenK
open Go Go.RowKit Go.WideShapes Go.ChangeShapes Go.Proofs.YthhgfdejadbigaaDoorW.PrintWords
def LightP {H : Type} (P : Program) (t : TypeId) (d : DataW H) : Prop := ∀ n ∈ d.weights P t, n ≤ 140737488351232
def Opens (P : Program) (t : TypeId) {α : Type} (d : Kd α) (WF : α → Prop) : Prop :=
  ∀ (H : Type) (enc : TypeId × Value → H) (w : World) (base : Nat) (spare : Nat → Bool) (held : Bool) (n : Nat) (cs : List Value) (x : DataW H × List MemPlace),
    DataW.trod enc P w base spare held n t cs = some x → LightP P t x.1 → ∃ a, d.K w a cs ∧ WF a
section
variable {P : Program} {H : Type} {enc : TypeId × Value → H} {w : World} {base : Nat} {spare : Nat → Bool} {held : Bool}
theorem light_part {t : TypeId} {fs : Array Field} {ds : List (DataW H)} (hu : P.underlying t = some (.struct fs)) (h : LightP P t (.agg ds)) {j : Nat} {f : Field} {d : DataW H} (hf : fs[j]? = some f) (hd : ds[j]? = some d) : LightP P f.type d := by
  intro n hn
  refine h n ?_
  simp only [DataW.weights, hu]
  exact DataW.weights_mem_each (j := j) (by simp [hf]) hd n hn
theorem mem_weightsAll {e : TypeId} : ∀ {l : List (DataW H)} {d : DataW H}, d ∈ l → ∀ n ∈ d.weights P e, n ∈ DataW.weightsAll P e l
  | x :: r, d, h, n, hn => by
    simp only [DataW.weightsAll, List.mem_append]
    rcases List.mem_cons.1 h with rfl | h
    · exact .inl hn
    · exact .inr (mem_weightsAll h n hn)
theorem light_elem {t e : TypeId} {es sp : List (DataW H)} (hu : P.underlying t = some (.slice e)) (h : LightP P t (.slice es sp)) {d : DataW H} (hd : d ∈ es) : LightP P e d := by
  intro n hn
  refine h n ?_
  simp only [DataW.weights, hu, List.mem_cons, List.mem_append]
  exact .inr (.inl (mem_weightsAll hd n hn))
theorem fld {fs : Array Field} {cs : List Value} {xs : List (DataW H × List MemPlace)} {m : Nat} (hf : ∀ (i : Nat) (f : Field), fs[i]? = some f → DataW.trod enc P w base spare held m f.type ((cs.drop f.offset).take (P.cellsOf f.type)) = xs[i]?)
    {i : Nat} {f : Field} (hi : fs[i]? = some f) {t : TypeId} (ht : f.type = t) {k : Nat} (hk : P.cellsOf t = k) {c : List Value} (hc : (cs.drop f.offset).take k = c) {x : DataW H × List MemPlace} (hx : xs[i]? = some x) : DataW.trod enc P w base spare held m t c = some x := by
  have h := hf i f hi
  rw [ht, hk, hc, hx] at h
  exact h
end
section
variable {P : Program} {t e : TypeId}
theorem opens_int {k : IntKind} (hu : P.underlying t = some (.int k)) : Opens P t (Kd.int k) (fun n => (Lit.int k n).wf = true) := by
  intro H enc w base spare held n cs x h _
  obtain ⟨z, rfl, _, wk⟩ := DataW.trod_int hu h
  exact ⟨z, rfl, wk⟩
theorem opens_bool (hu : P.underlying t = some .bool) : Opens P t Kd.bool (fun _ => True) := by
  intro H enc w base spare held n cs x h _
  obtain ⟨z, rfl, _⟩ := DataW.trod_bool hu h
  exact ⟨z, rfl, trivial⟩
theorem opens_string (hu : P.underlying t = some .string) : Opens P t Kd.string (fun s => s.size ≤ 140737488351232) := by
  intro H enc w base spare held n cs x h hl
  obtain ⟨s, rfl, rfl, _⟩ := DataW.trod_string hu h
  refine ⟨s, rfl, ?_⟩
  have := hl s.data.toList.length (by simp [DataW.weights])
  exact Nat.le_trans (by show s.data.size ≤ _; simp) this
theorem opens_slice {α : Type} {d : Kd α} {WF : α → Prop} {b : Nat} (hu : P.underlying t = some (.slice e)) (hc : P.cellsOf e = d.sz) (hb : P.bytesOf e = b) (hp : 0 < d.sz) (hd : Opens P e d WF) :
    Opens P t (Kd.slice e d) (fun l => (∀ x ∈ l, WF x) ∧ l.length * b ≤ 140737488351232) := by
  intro H enc w base spare held n cs x h hl
  rcases Go.Deep.open_slice hu h with ⟨rfl, _⟩ | ⟨a, len, cap, m, n', D, Pl, rfl, _, hlc, hcm, hm, rfl, hi⟩
  · exact ⟨[], ⟨none, 0, rfl, Nat.le_refl _, ⟨rfl, by simp, fun h => absurd h (by simp)⟩⟩, ⟨fun x hx => (by cases hx), by simp⟩⟩
  · have hlm : len ≤ m := by rw [hm]; split <;> omega
    have hex : ∀ i : Fin len, ∃ (v : α) (c : List Value), d.K w v c ∧ WF v ∧ c.length = d.sz ∧ ∀ j u, c[j]? = some u → w.cell? (a.add (i.val * d.sz + j)) = some u := by
      intro i
      obtain ⟨cs', hc', ht⟩ := hi i.val (by omega)
      obtain ⟨v, hk, hw⟩ := hd H enc w base spare held n' cs' _ ht (light_elem hu hl (List.mem_map.2 ⟨i.val, List.mem_range.2 i.isLt, rfl⟩))
      rw [hc] at hc'
      obtain ⟨_, hcl, hat⟩ := World.cells?_some hc'
      refine ⟨v, cs', hk, hw, d.K_len hk, fun j u hj => ?_⟩
      have hj4 : j < d.sz := by have := (List.getElem?_eq_some_iff.1 hj).1; rwa [d.K_len hk] at this
      have := hat j hj4
      rw [← Go.Deep.add_add, this, hj]
    obtain ⟨f, hf⟩ := Classical.axiomOfChoice hex
    refine ⟨(List.finRange len).map f, ⟨some a, cap, by simp, by simpa using hlc, ⟨rfl, ?_, fun hn => ⟨a, rfl, fun j p hj => ?_⟩⟩⟩, fun y hy => ?_, ?_⟩
    · unfold maxLen at hcm; simp; omega
    · rw [List.getElem?_map, Option.map_eq_some_iff] at hj
      obtain ⟨i, hi', rfl⟩ := hj
      obtain ⟨c, hk, _, hlen, hcc⟩ := hf i
      have hij : i.val = j := by
        obtain ⟨hlt, rfl⟩ := List.getElem?_eq_some_iff.1 hi'
        simp
      subst hij
      exact ⟨c, hlen, hk, hcc⟩
    · obtain ⟨i, _, rfl⟩ := List.mem_map.1 hy
      obtain ⟨c, _, hw, _⟩ := hf i
      exact hw
    · have := hl ((((List.range len).map D).length + ((List.range (m - len)).map fun j => D (len + j)).length) * P.bytesOf e) (by
        simp only [DataW.weights, hu]
        exact List.mem_cons_self)
      rw [hb] at this
      simp only [List.length_map, List.length_range] at this
      simp only [List.length_map, List.length_finRange]
      refine Nat.le_trans (Nat.mul_le_mul_right _ ?_) this
      omega
end
end Go.Proofs.YthhgfdejadbigaaDoor.OpenK
/-
  The laws' arguments, opened. Printed by genopen3.py.
-/
set_option linter.unusedVariables false
set_option linter.unusedSimpArgs false
namespace Go.Proofs.YthhgfdejadbigaaDoor.GA
open Go Go.RowKit Go.WideShapes Go.ChangeShapes Go.Proofs.YthhgfdejadbigaaDoor.OpenK Go.Proofs.YthhgfdejadbigaaDoorW.PrintWords
def wf23 (x : S23) : Prop := (Lit.int .i64 x.f0).wf = true ∧ (Lit.int .i64 x.f1).wf = true ∧ (x.f2).size ≤ 140737488351232
set_option maxRecDepth 100000 in
theorem opens_T23 : Opens Tryd.prog 23 k23 wf23 := by
  intro H enc w base spare held n cs x h hl
  obtain ⟨xs, m, _, rfl, hcl, hlen, hf⟩ := DataW.trod_struct Tryd.underlying23 h
  match cs, hcl.trans (show Tryd.prog.cellsOf 23 = 3 by kernel_rfl), xs, hlen with
  | [c0, c1, c2], _, [x0, x1, x2], _ =>
    obtain ⟨a0, q0, w0⟩ := (opens_int Tryd.underlying3) H enc w base spare held m [c0] x0 (fld hf (i := 0) rfl rfl (show Tryd.prog.cellsOf 3 = 1 by kernel_rfl) (c := [c0]) rfl (x := x0) rfl) (light_part Tryd.underlying23 hl (j := 0) rfl rfl)
    obtain ⟨a1, q1, w1⟩ := (opens_int Tryd.underlying2) H enc w base spare held m [c1] x1 (fld hf (i := 1) rfl rfl (show Tryd.prog.cellsOf 2 = 1 by kernel_rfl) (c := [c1]) rfl (x := x1) rfl) (light_part Tryd.underlying23 hl (j := 1) rfl rfl)
    obtain ⟨a2, q2, w2⟩ := (opens_string Tryd.underlying9) H enc w base spare held m [c2] x2 (fld hf (i := 2) rfl rfl (show Tryd.prog.cellsOf 9 = 1 by kernel_rfl) (c := [c2]) rfl (x := x2) rfl) (light_part Tryd.underlying23 hl (j := 2) rfl rfl)
    exact ⟨⟨a0, a1, a2⟩, ⟨[c0], [c1, c2], rfl, q0, ⟨[c1], [c2], rfl, q1, q2⟩⟩, ⟨w0, w1, w2⟩⟩
def wf60 (x : S60) : Prop := (x.f0).size ≤ 140737488351232 ∧ wf23 x.f1
set_option maxRecDepth 100000 in
theorem opens_T60 : Opens Tryd.prog 60 k60 wf60 := by
  intro H enc w base spare held n cs x h hl
  obtain ⟨xs, m, _, rfl, hcl, hlen, hf⟩ := DataW.trod_struct Tryd.underlying60 h
  match cs, hcl.trans (show Tryd.prog.cellsOf 60 = 4 by kernel_rfl), xs, hlen with
  | [c0, c1, c2, c3], _, [x0, x1], _ =>
    obtain ⟨a0, q0, w0⟩ := (opens_string Tryd.underlying9) H enc w base spare held m [c0] x0 (fld hf (i := 0) rfl rfl (show Tryd.prog.cellsOf 9 = 1 by kernel_rfl) (c := [c0]) rfl (x := x0) rfl) (light_part Tryd.underlying60 hl (j := 0) rfl rfl)
    obtain ⟨a1, q1, w1⟩ := opens_T23 H enc w base spare held m [c1, c2, c3] x1 (fld hf (i := 1) rfl rfl (show Tryd.prog.cellsOf 23 = 3 by kernel_rfl) (c := [c1, c2, c3]) rfl (x := x1) rfl) (light_part Tryd.underlying60 hl (j := 1) rfl rfl)
    exact ⟨⟨a0, a1⟩, ⟨[c0], [c1, c2, c3], rfl, q0, q1⟩, ⟨w0, w1⟩⟩
set_option maxRecDepth 100000 in
theorem flat_23 {H : Type} {enc : TypeId × Value → H} {w : World} {base : Nat} {spare : Nat → Bool} {held : Bool} {n : Nat} {cs : List Value} {x : DataW H × List MemPlace} (h : DataW.trod enc Tryd.prog w base spare held n 23 cs = some x) (hl : LightP Tryd.prog 23 x.1) :
    ∃ (a0 : Int) (a1 : Int) (a2 : ByteArray), cs = [.int .i64 a0, .int .i64 a1, .string a2] ∧ (Lit.int .i64 a0).wf = true ∧ (Lit.int .i64 a1).wf = true ∧ (a2).size ≤ 140737488351232 := by
  obtain ⟨xs, m, _, rfl, hcl, hlen, hf⟩ := DataW.trod_struct Tryd.underlying23 h
  match cs, hcl.trans (show Tryd.prog.cellsOf 23 = 3 by kernel_rfl), xs, hlen with
  | [e0, e1, e2], _, [x0, x1, x2], _ =>
    obtain ⟨a0, eq0, p0⟩ := (opens_int Tryd.underlying3) H enc w base spare held m [e0] x0 (fld hf (i := 0) rfl rfl (show Tryd.prog.cellsOf 3 = 1 by kernel_rfl) (c := [e0]) rfl (x := x0) rfl) (light_part Tryd.underlying23 hl (j := 0) rfl rfl)
    obtain rfl := List.head_eq_of_cons_eq eq0
    obtain ⟨a1, eq1, p1⟩ := (opens_int Tryd.underlying2) H enc w base spare held m [e1] x1 (fld hf (i := 1) rfl rfl (show Tryd.prog.cellsOf 2 = 1 by kernel_rfl) (c := [e1]) rfl (x := x1) rfl) (light_part Tryd.underlying23 hl (j := 1) rfl rfl)
    obtain rfl := List.head_eq_of_cons_eq eq1
    obtain ⟨a2, eq2, p2⟩ := (opens_string Tryd.underlying9) H enc w base spare held m [e2] x2 (fld hf (i := 2) rfl rfl (show Tryd.prog.cellsOf 9 = 1 by kernel_rfl) (c := [e2]) rfl (x := x2) rfl) (light_part Tryd.underlying23 hl (j := 2) rfl rfl)
    obtain rfl := List.head_eq_of_cons_eq eq2
    exact ⟨a0, a1, a2, rfl, p0, p1, p2⟩
set_option maxRecDepth 100000 in
theorem flat_44 {H : Type} {enc : TypeId × Value → H} {w : World} {base : Nat} {spare : Nat → Bool} {held : Bool} {n : Nat} {cs : List Value} {x : DataW H × List MemPlace} (h : DataW.trod enc Tryd.prog w base spare held n 44 cs = some x) (hl : LightP Tryd.prog 44 x.1) :
    ∃ (a0 : Int) (a1 : Int) (a2 : ByteArray) (a3 : Int) (a4 : Int) (a5 : ByteArray) (a6 : ByteArray) (A7 : Option Addr) (c7 : Nat) (a7 : List (S60)), cs = [.int .i64 a0, .int .i64 a1, .string a2, .int .i64 a3, .int .i64 a4, .string a5, .string a6, .slice A7 a7.length c7] ∧ (Lit.int .i64 a0).wf = true ∧ (Lit.int .i64 a1).wf = true ∧ (a2).size ≤ 140737488351232 ∧ (Lit.int .i64 a3).wf = true ∧ (Lit.int .i64 a4).wf = true ∧ (a5).size ≤ 140737488351232 ∧ (a6).size ≤ 140737488351232 ∧ (a7.length ≤ c7 ∧ Kd.C k60 w A7 a7.length a7 ∧ ((∀ y ∈ a7, wf60 y) ∧ (a7).length * 48 ≤ 140737488351232)) := by
  obtain ⟨xs, m, _, rfl, hcl, hlen, hf⟩ := DataW.trod_struct Tryd.underlying44 h
  match cs, hcl.trans (show Tryd.prog.cellsOf 44 = 8 by kernel_rfl), xs, hlen with
  | [e0, e1, e2, e3, e4, e5, e6, e7], _, [x0, x1, x2, x3], _ =>
    obtain ⟨a0, a1, a2, eq0, p0, p1, p2⟩ := flat_23 (fld hf (i := 0) rfl rfl (show Tryd.prog.cellsOf 23 = 3 by kernel_rfl) (c := [e0, e1, e2]) rfl (x := x0) rfl) (light_part Tryd.underlying44 hl (j := 0) rfl rfl)
    simp only [List.cons.injEq, and_true] at eq0
    obtain ⟨rfl, rfl, rfl⟩ := eq0
    obtain ⟨a3, a4, a5, eq1, p3, p4, p5⟩ := flat_23 (fld hf (i := 1) rfl rfl (show Tryd.prog.cellsOf 23 = 3 by kernel_rfl) (c := [e3, e4, e5]) rfl (x := x1) rfl) (light_part Tryd.underlying44 hl (j := 1) rfl rfl)
    simp only [List.cons.injEq, and_true] at eq1
    obtain ⟨rfl, rfl, rfl⟩ := eq1
    obtain ⟨a6, eq2, p6⟩ := (opens_string Tryd.underlying9) H enc w base spare held m [e6] x2 (fld hf (i := 2) rfl rfl (show Tryd.prog.cellsOf 9 = 1 by kernel_rfl) (c := [e6]) rfl (x := x2) rfl) (light_part Tryd.underlying44 hl (j := 2) rfl rfl)
    obtain rfl := List.head_eq_of_cons_eq eq2
    obtain ⟨a7, ⟨A7, c7, eq3, hc7, hC7⟩, wf7_⟩ := (opens_slice (b := 48) Tryd.underlying29 (by kernel_rfl) (by kernel_rfl) (by decide) opens_T60) H enc w base spare held m [e7] x3 (fld hf (i := 3) rfl rfl (show Tryd.prog.cellsOf 29 = 1 by kernel_rfl) (c := [e7]) rfl (x := x3) rfl) (light_part Tryd.underlying44 hl (j := 3) rfl rfl)
    obtain rfl := List.head_eq_of_cons_eq eq3
    exact ⟨a0, a1, a2, a3, a4, a5, a6, A7, c7, a7, rfl, p0, p1, p2, p3, p4, p5, p6, ⟨hc7, hC7, wf7_⟩⟩
set_option maxRecDepth 100000 in
theorem flat_58 {H : Type} {enc : TypeId × Value → H} {w : World} {base : Nat} {spare : Nat → Bool} {held : Bool} {n : Nat} {cs : List Value} {x : DataW H × List MemPlace} (h : DataW.trod enc Tryd.prog w base spare held n 58 cs = some x) (hl : LightP Tryd.prog 58 x.1) :
    ∃ (A0 : Option Addr) (c0 : Nat) (a0 : List (S60)) (a1 : ByteArray) (a2 : Int) (a3 : Int) (a4 : ByteArray) (a5 : ByteArray), cs = [.slice A0 a0.length c0, .string a1, .int .i64 a2, .int .i64 a3, .string a4, .string a5] ∧ (a0.length ≤ c0 ∧ Kd.C k60 w A0 a0.length a0 ∧ ((∀ y ∈ a0, wf60 y) ∧ (a0).length * 48 ≤ 140737488351232)) ∧ (a1).size ≤ 140737488351232 ∧ (Lit.int .i64 a2).wf = true ∧ (Lit.int .i64 a3).wf = true ∧ (a4).size ≤ 140737488351232 ∧ (a5).size ≤ 140737488351232 := by
  obtain ⟨xs, m, _, rfl, hcl, hlen, hf⟩ := DataW.trod_struct Tryd.underlying58 h
  match cs, hcl.trans (show Tryd.prog.cellsOf 58 = 6 by kernel_rfl), xs, hlen with
  | [e0, e1, e2, e3, e4, e5], _, [x0, x1, x2, x3], _ =>
    obtain ⟨a0, ⟨A0, c0, eq0, hc0, hC0⟩, wf0_⟩ := (opens_slice (b := 48) Tryd.underlying29 (by kernel_rfl) (by kernel_rfl) (by decide) opens_T60) H enc w base spare held m [e0] x0 (fld hf (i := 0) rfl rfl (show Tryd.prog.cellsOf 29 = 1 by kernel_rfl) (c := [e0]) rfl (x := x0) rfl) (light_part Tryd.underlying58 hl (j := 0) rfl rfl)
    obtain rfl := List.head_eq_of_cons_eq eq0
    obtain ⟨a1, eq1, p1⟩ := (opens_string Tryd.underlying9) H enc w base spare held m [e1] x1 (fld hf (i := 1) rfl rfl (show Tryd.prog.cellsOf 9 = 1 by kernel_rfl) (c := [e1]) rfl (x := x1) rfl) (light_part Tryd.underlying58 hl (j := 1) rfl rfl)
    obtain rfl := List.head_eq_of_cons_eq eq1
    obtain ⟨a2, a3, a4, eq2, p2, p3, p4⟩ := flat_23 (fld hf (i := 2) rfl rfl (show Tryd.prog.cellsOf 23 = 3 by kernel_rfl) (c := [e2, e3, e4]) rfl (x := x2) rfl) (light_part Tryd.underlying58 hl (j := 2) rfl rfl)
    simp only [List.cons.injEq, and_true] at eq2
    obtain ⟨rfl, rfl, rfl⟩ := eq2
    obtain ⟨a5, eq3, p5⟩ := (opens_string Tryd.underlying9) H enc w base spare held m [e5] x3 (fld hf (i := 3) rfl rfl (show Tryd.prog.cellsOf 9 = 1 by kernel_rfl) (c := [e5]) rfl (x := x3) rfl) (light_part Tryd.underlying58 hl (j := 3) rfl rfl)
    obtain rfl := List.head_eq_of_cons_eq eq3
    exact ⟨A0, c0, a0, a1, a2, a3, a4, a5, rfl, ⟨hc0, hC0, wf0_⟩, p1, p2, p3, p4, p5⟩
end Go.Proofs.YthhgfdejadbigaaDoor.GA
/-
  Chapter 9: ValueMay, ValueApart: plain laws over what was printed.
-/
set_option linter.unusedVariables false
set_option linter.unusedSimpArgs false
namespace Go.Proofs.YthhgfdejadbigaaDoor.GA
open Go Go.RowKit Go.Proofs.YthhgfdejadbigaaDoorW.PrintWords Go.Proofs.YthhgfdejadbigaaDoorW.PrintLast Go.Proofs.YthhgfdejadbigaaDoorW.PrintMore
theorem wfL_of {l : List S60} (h : ∀ x ∈ l, wf60 x) : wfL l := by
  intro x hx
  obtain ⟨h1, h2, h3, h4⟩ := h x hx
  exact ⟨h1, bounds_i64 h2, bounds_i64 h3, h4⟩
theorem may_pure {a b : Int} {c : ByteArray} {a' b' : Int} {c' s : ByteArray} {l : List S60} (ha : Base.i64 a) (hb : Base.i64 b) (hc : Base.okS c) (hs : Base.okS s) (hl : wfL l) :
    ∃ k, wherrylaw09_ValueMay.f k a b c a' b' c' s l = some true := by
  have hs' : s.size ≤ 9223372036854775807 := by unfold Base.okS at hs; omega
  have hc' : c.size ≤ 9223372036854775807 := by unfold Base.okS at hc; omega
  refine ⟨5001 + 2 * c.size, ?_⟩
  obtain ⟨k, hk⟩ : ∃ k, 5001 + 2 * c.size = k + 1 := ⟨5000 + 2 * c.size, by omega⟩
  have hBy : value_Bytes.f a b c = some (Base.valB a b c) := by unfold value_Bytes.f; rw [if_pos (show wfV a b c from ⟨ha, hb, hc⟩)]
  have hSh : value_Show.f a b c = some (Base.showM a b c) := by unfold value_Show.f; rw [if_pos hb]
  have hVa : value_VarsBytes.f l = some (Base.varsB (l.map toVar)) := by unfold value_VarsBytes.f; rw [if_pos hl]
  have hNa : value_Named.f s = some (Base.named s) := by unfold value_Named.f; rw [if_pos hs']
  have hRi : value_Right.f l = some (Base.rightV (l.map toVar)) := by unfold value_Right.f; rw [if_pos hl]
  unfold wherrylaw09_ValueMay.f
  rw [shown_true, show value_May.f a b c = some (Base.mayV a b c) from rfl, may_f, hNa, named_k hs' (by omega), hRi, right_k (fun x hx => by have := (hl x hx).1; unfold Base.okS at this; show x.f0.size ≤ _; exact Nat.le_trans this (by omega)) (by omega)]
  simp only [Option.bind_some, bne_self_eq_false, if_true, Bool.false_eq_true, if_false]
  rw [hk]
  simp only [wherrylaw09_ValueMay.j0, Bool.false_eq_true, if_false]
  rw [hBy, bytes_f hb hc]
  simp only [Option.bind_some, if_true]
  rw [hSh, show_f hb (by omega)]
  simp only [Option.bind_some, if_true]
  rw [hVa, vars_k hl (by omega)]
  simp only [Option.bind_some, if_true]
  rw [less_f, refless_f hc' (by omega)]
  simp
theorem may_row {W : World} {a b : Int} {c : ByteArray} {a' b' : Int} {c' s : ByteArray} {A : Option Addr} {cp : Nat} {l : List S60} (HTAB : Hid (Base.HasTab Tryd.prog W)) (ha : Base.i64 a) (hb : Base.i64 b) (hc : Base.okS c) (hs : Base.okS s)
    (hcp : l.length ≤ cp) (hC : Kd.C k60 W A l.length l) (hl : wfL l) :
    Calls Tryd.prog 7 #[.agg #[.int .i64 a, .int .i64 b, .string c, .int .i64 a', .int .i64 b', .string c', .string s, .slice A l.length cp]] W fun e W' => e = .returned (.bool true) ∧ Below W.heap.size W W' := by
  obtain ⟨k, hk⟩ := may_pure (a := a) (b := b) (c := c) (a' := a') (b' := b') (c' := c') (s := s) (l := l) ha hb hc hs hl
  exact wherrylaw09_ValueMay.calls k a b c a' b' c' s A cp l true W hC hcp HTAB hk
end Go.Proofs.YthhgfdejadbigaaDoor.GA
