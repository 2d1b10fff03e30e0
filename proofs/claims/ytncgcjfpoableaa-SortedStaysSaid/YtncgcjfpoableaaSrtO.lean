/-
  The arguments of the laws of sorted maps, opened: acts, texts.
-/
import Derived.Test.YtncgcjfpoableaaSrtP
import Derived.Test.YtncgcjfpoableaaSrtQ
import Derived.Test.YtncgcjfpoableaaRows
import Derived.Deep.Slices
import Derived.Deep.Fields
import Derived.SizedLaws
import Derived.OpenShut
set_option linter.unusedVariables false
set_option linter.unusedSimpArgs false
namespace Go.Proofs.Base
open Go Go.RowKit
structure GAct where
  kind : Int
  k : ByteArray
  v : Int
def GAct.cells (a : GAct) : List Value := [.int .i64 a.kind, .string a.k, .int .i64 a.v]
def actCells (l : List GAct) : List Value := l.flatMap GAct.cells
theorem actCells_cons (a : GAct) (l : List GAct) : actCells (a :: l) = .int .i64 a.kind :: .string a.k :: .int .i64 a.v :: actCells l := rfl
theorem actCells_len (l : List GAct) : (actCells l).length = l.length * 3 := by
  induction l with
  | nil => rfl
  | cons a l ih => rw [actCells_cons, List.length_cons, List.length_cons, List.length_cons, ih, List.length_cons]; omega
theorem actCells_at : ∀ {l : List GAct} {i : Nat} (h : i < l.length), (actCells l)[i * 3 + 0]? = some (.int .i64 l[i].kind) ∧ (actCells l)[i * 3 + 1]? = some (.string l[i].k) ∧ (actCells l)[i * 3 + 2]? = some (.int .i64 l[i].v)
  | a :: l, 0, _ => ⟨rfl, rfl, rfl⟩
  | a :: l, i + 1, h => by
    have ih := actCells_at (l := l) (i := i) (by simpa using h)
    rw [actCells_cons, show (i + 1) * 3 + 0 = i * 3 + 0 + 1 + 1 + 1 by omega, show (i + 1) * 3 + 1 = i * 3 + 1 + 1 + 1 + 1 by omega, show (i + 1) * 3 + 2 = i * 3 + 2 + 1 + 1 + 1 by omega]
    exact ih
def okA (s : ByteArray) : Prop := s.size ≤ 140737488351232
/-- what comes in as a list of acts -/
def Acts (w : World) (v : Value) (l : List GAct) : Prop := Row w (fun _ => True) 3 l.length v (actCells l) ∧ (∀ a ∈ l, okA a.k) ∧ l.length ≤ 4398046510976
/-- what comes in as a list of texts -/
def Texts (w : World) (v : Value) (l : List ByteArray) : Prop := Row w (fun _ => True) 1 l.length v (l.map Value.string) ∧ (∀ a ∈ l, okA a) ∧ l.length ≤ 8796093021952
theorem Acts.at_ {w : World} {A : Option Addr} {n c : Nat} {l : List GAct} (h : Acts w (.slice A n c) l) {i : Nat} (hi : i < l.length) :
    ∃ b o, A = some ⟨b, o, none⟩ ∧ b < w.heap.size ∧ w.cell? ⟨b, o + i * 3, none⟩ = some (.int .i64 l[i].kind) ∧ w.cell? ⟨b, o + i * 3 + 1, none⟩ = some (.string l[i].k) ∧ w.cell? ⟨b, o + i * 3 + 2, none⟩ = some (.int .i64 l[i].v) := by
  have hn := h.1.slice_len
  subst hn
  obtain ⟨b, o, hA, _, hlt, hc⟩ := h.1.at_ (by omega)
  obtain ⟨h0, h1, h2⟩ := actCells_at hi
  exact ⟨b, o, hA, hlt, by simpa using hc i 0 _ h0, hc i 1 _ h1, hc i 2 _ h2⟩
theorem Acts.open_ {w : World} {v : Value} {l : List GAct} (h : Acts w v l) : ∃ A c, v = .slice A l.length c ∧ l.length ≤ c ∧ c ≤ 9223372036854775807 := h.1.open_
theorem Acts.mut {T : Nat → Prop} {w w' : World} {v : Value} {l : List GAct} (h : Acts w v l) (hm : Mut T w w') (hT : ∀ b, b < w.heap.size → ¬ T b) : Acts w' v l := ⟨h.1.mut hm (fun b hb _ => hT b hb), h.2⟩
theorem Acts.below {w w' : World} {v : Value} {l : List GAct} (h : Acts w v l) (hb : Below w.heap.size w w') : Acts w' v l := ⟨h.1.below hb, h.2⟩
theorem Texts.at_ {w : World} {A : Option Addr} {n c : Nat} {l : List ByteArray} (h : Texts w (.slice A n c) l) {i : Nat} (hi : i < l.length) :
    ∃ b o, A = some ⟨b, o, none⟩ ∧ b < w.heap.size ∧ w.cell? ⟨b, o + i, none⟩ = some (.string l[i]) := by
  have hn := h.1.slice_len
  subst hn
  obtain ⟨b, o, hA, _, hlt, hc⟩ := h.1.at_ (by omega)
  exact ⟨b, o, hA, hlt, by simpa using hc i 0 _ (show (l.map Value.string)[i * 1 + 0]? = some (.string l[i]) by simp [hi])⟩
theorem Texts.open_ {w : World} {v : Value} {l : List ByteArray} (h : Texts w v l) : ∃ A c, v = .slice A l.length c ∧ l.length ≤ c ∧ c ≤ 9223372036854775807 := h.1.open_
theorem Texts.below {w w' : World} {v : Value} {l : List ByteArray} (h : Texts w v l) (hb : Below w.heap.size w w') : Texts w' v l := ⟨h.1.below hb, h.2⟩
end Go.Proofs.Base
namespace Go.Proofs.Ytncgcjfpoableaa
open Go Go.RowKit Go.Proofs.Base Go.WideShapes Go.ChangeShapes
theorem cells_int : Try.prog.cellsOf 3 = 1 := by kernel_rfl
theorem cells_string : Try.prog.cellsOf 9 = 1 := by kernel_rfl
theorem cells_act : Try.prog.cellsOf 43 = 3 := by kernel_rfl
section
variable {H : Type} {enc : TypeId × Value → H} {w : World} {base : Nat} {spare : Nat → Bool} {held : Bool}
/-- no string, slice or map of it is beyond the reach -/
def Light (t : TypeId) (d : DataW H) : Prop := ∀ n ∈ d.weights Try.prog t, n ≤ 140737488351232
theorem light_part {t : TypeId} {fs : Array Field} {ds : List (DataW H)} (hu : Try.prog.underlying t = some (.struct fs)) (h : Light t (.agg ds)) {j : Nat} {f : Field} {d : DataW H} (hf : fs[j]? = some f) (hd : ds[j]? = some d) : Light f.type d := by
  intro n hn
  refine h n ?_
  simp only [DataW.weights, hu]
  exact DataW.weights_mem_each (j := j) (by simp [hf]) hd n hn
theorem mem_weightsAll {e : TypeId} : ∀ {l : List (DataW H)} {d : DataW H}, d ∈ l → ∀ n ∈ d.weights Try.prog e, n ∈ DataW.weightsAll Try.prog e l
  | x :: r, d, h, n, hn => by
    simp only [DataW.weightsAll, List.mem_append]
    rcases List.mem_cons.1 h with rfl | h
    · exact .inl hn
    · exact .inr (mem_weightsAll h n hn)
theorem light_elem {t e : TypeId} {es sp : List (DataW H)} (hu : Try.prog.underlying t = some (.slice e)) (h : Light t (.slice es sp)) {d : DataW H} (hd : d ∈ es) : Light e d := by
  intro n hn
  refine h n ?_
  simp only [DataW.weights, hu, List.mem_cons, List.mem_append]
  exact .inr (.inl (mem_weightsAll hd n hn))
theorem fld {fs : Array Field} {cs : List Value} {xs : List (DataW H × List MemPlace)} {m : Nat} (hf : ∀ (i : Nat) (f : Field), fs[i]? = some f → DataW.trod enc Try.prog w base spare held m f.type ((cs.drop f.offset).take (Try.prog.cellsOf f.type)) = xs[i]?)
    {i : Nat} {f : Field} (hi : fs[i]? = some f) {t : TypeId} (ht : f.type = t) {k : Nat} (hk : Try.prog.cellsOf t = k) {c : List Value} (hc : (cs.drop f.offset).take k = c) {x : DataW H × List MemPlace} (hx : xs[i]? = some x) : DataW.trod enc Try.prog w base spare held m t c = some x := by
  have h := hf i f hi
  rw [ht, hk, hc, hx] at h
  exact h
theorem read_i64 {t : TypeId} {n : Nat} {c : Value} {x : DataW H × List MemPlace} (hu : Try.prog.underlying t = some (.int .i64)) (h : DataW.trod enc Try.prog w base spare held n t [c] = some x) : ∃ k, c = .int .i64 k := by
  obtain ⟨k, e, _, wk⟩ := DataW.trod_int hu h
  exact ⟨k, by simpa using e⟩
theorem read_str {t : TypeId} {n : Nat} {c : Value} {x : DataW H × List MemPlace} (hu : Try.prog.underlying t = some .string) (h : DataW.trod enc Try.prog w base spare held n t [c] = some x) (hl : Light t x.1) : ∃ s, c = .string s ∧ okA s := by
  obtain ⟨s, e, rfl, _⟩ := DataW.trod_string hu h
  refine ⟨s, by simpa using e, ?_⟩
  have := hl s.data.toList.length (by simp [DataW.weights])
  exact Nat.le_trans (by show s.data.size ≤ _; simp) this
set_option maxRecDepth 100000 in
theorem read_act {n : Nat} {cs : List Value} {x : DataW H × List MemPlace} (h : DataW.trod enc Try.prog w base spare held n 43 cs = some x) (hl : Light 43 x.1) : ∃ a : GAct, cs = a.cells ∧ okA a.k := by
  obtain ⟨xs, m, _, rfl, hcl, hlen, hf⟩ := DataW.trod_struct Try.underlying43 h
  match cs, hcl.trans cells_act, xs, hlen with
  | [c0, c1, c2], _, [x0, x1, x2], _ =>
    have g0 := fld hf (i := 0) rfl rfl cells_int (c := [c0]) rfl (x := x0) rfl
    have g1 := fld hf (i := 1) rfl rfl cells_string (c := [c1]) rfl (x := x1) rfl
    have g2 := fld hf (i := 2) rfl rfl cells_int (c := [c2]) rfl (x := x2) rfl
    obtain ⟨k, rfl⟩ := read_i64 Try.underlying3 (x := x0) g0
    obtain ⟨s, rfl, ws⟩ := read_str Try.underlying9 (x := x1) g1 (light_part Try.underlying43 hl (j := 1) rfl rfl)
    obtain ⟨v, rfl⟩ := read_i64 Try.underlying3 (x := x2) g2
    exact ⟨⟨k, s, v⟩, rfl, ws⟩
set_option maxRecDepth 100000 in
theorem read_acts {n : Nat} {c : Value} {x : DataW H × List MemPlace} (h : DataW.trod enc Try.prog w base spare held n 34 [c] = some x) (hl : Light 34 x.1) : ∃ l : List GAct, Acts w c l := by
  rcases Go.Deep.open_slice Try.underlying34 h with ⟨hcs, _⟩ | ⟨a, len, cap, m, n', D, Pl, hcs, _, hlc, hcm, hm, rfl, hi⟩
  · obtain rfl : c = .slice none 0 0 := by simpa using hcs
    exact ⟨[], Row.nil _ _ _, (fun y hy => by cases hy), by simp⟩
  · obtain rfl : c = .slice (some a) len cap := by simpa using hcs
    have hlm : len ≤ m := by rw [hm]; split <;> omega
    have hsz : len ≤ 4398046510976 := by
      have hb : Try.prog.bytesOf 43 = 32 := by kernel_rfl
      have := hl ((((List.range len).map D).length + ((List.range (m - len)).map fun j => D (len + j)).length) * Try.prog.bytesOf 43) (by
        simp only [DataW.weights, Try.underlying34]
        exact List.mem_cons_self)
      rw [hb] at this
      simp only [List.length_map, List.length_range] at this
      omega
    have hex : ∀ i, ∃ v : GAct, i < len → okA v.k ∧ ∀ j u, v.cells[j]? = some u → w.cell? (a.add (i * 3 + j)) = some u := by
      intro i
      by_cases hil : i < len
      · obtain ⟨cs', hc, ht⟩ := hi i (by omega)
        rw [cells_act] at hc
        obtain ⟨v, rfl, wv⟩ := read_act ht (light_elem Try.underlying34 hl (List.mem_map.2 ⟨i, List.mem_range.2 hil, rfl⟩))
        obtain ⟨_, hcl, hat⟩ := World.cells?_some hc
        refine ⟨v, fun _ => ⟨wv, fun j u hj => ?_⟩⟩
        have hj3 : j < 3 := (List.getElem?_eq_some_iff.1 hj).1
        have := hat j hj3
        rw [← Go.Deep.add_add, this, hj]
      · exact ⟨⟨0, ByteArray.empty, 0⟩, fun h => absurd h hil⟩
    obtain ⟨f, hf⟩ := Classical.axiomOfChoice hex
    refine ⟨(List.range len).map f, ⟨some a, cap, by simp, by simpa using hlc, hcm, ?_, fun h => (nomatch h), fun hn => ?_⟩, fun y hy => ?_, by simpa using hsz⟩
    · rw [actCells_len]
    · have hn' : 0 < len := by simpa using hn
      have h0 := (hf 0 hn').2 0 _ rfl
      obtain ⟨b, o, s⟩ := a
      have hs : s = none := by simpa [Addr.add] using World.cell?_spot h0
      subst hs
      refine ⟨b, o, rfl, trivial, World.block_lt_of_cell? w _ (by simpa [Base.add_plain] using h0), fun j u hu => ?_⟩
      have hj : j < ((List.range len).map f).length * 3 := by rw [← actCells_len]; exact (List.getElem?_eq_some_iff.1 hu).1
      have hi3 : j / 3 < len := by simp at hj; omega
      have hidx : j / 3 < ((List.range len).map f).length := by simpa using hi3
      obtain ⟨a0, a1, a2⟩ := actCells_at hidx
      have hjj : j = j / 3 * 3 + j % 3 := by omega
      have hfe : ((List.range len).map f)[j / 3] = f (j / 3) := by simp
      rw [hfe] at a0 a1 a2
      have hq : ∀ t, t < 3 → (actCells ((List.range len).map f))[j / 3 * 3 + t]? = (f (j / 3)).cells[t]? := by
        intro t ht
        match t, ht with
        | 0, _ => rw [a0]; rfl
        | 1, _ => rw [a1]; rfl
        | 2, _ => rw [a2]; rfl
      have h3 := (hf (j / 3) hi3).2 (j % 3) u (by rw [← hq (j % 3) (by omega), ← hjj]; exact hu)
      rw [Base.add_plain, ← hjj] at h3
      exact h3
    · obtain ⟨i, hi', rfl⟩ := List.mem_map.1 hy
      exact (hf i (List.mem_range.1 hi')).1
theorem read_texts {n : Nat} {c : Value} {x : DataW H × List MemPlace} (h : DataW.trod enc Try.prog w base spare held n 22 [c] = some x) (hl : Light 22 x.1) : ∃ l : List ByteArray, Texts w c l := by
  rcases Go.Deep.open_slice1 Try.underlying22 (by kernel_rfl) h with ⟨hcs, _⟩ | ⟨a, len, cap, m, n', V, D, Pl, hcs, _, hlc, hcm, hm, rfl, hi⟩
  · obtain rfl : c = .slice none 0 0 := by simpa using hcs
    exact ⟨[], by simpa using Row.nil _ _ _, (by intro y hy; cases hy), by simp⟩
  · obtain rfl : c = .slice (some a) len cap := by simpa using hcs
    have hlm : len ≤ m := by rw [hm]; split <;> omega
    have hsz : len ≤ 8796093021952 := by
      have hb : Try.prog.bytesOf 9 = 16 := by kernel_rfl
      have := hl ((((List.range len).map D).length + ((List.range (m - len)).map fun j => D (len + j)).length) * Try.prog.bytesOf 9) (by
        simp only [DataW.weights, Try.underlying22]
        exact List.mem_cons_self)
      rw [hb] at this
      simp only [List.length_map, List.length_range] at this
      omega
    have hex : ∀ i, ∃ s : ByteArray, i < len → okA s ∧ w.cell? (a.add i) = some (.string s) := by
      intro i
      by_cases hil : i < len
      · obtain ⟨hc, ht⟩ := hi i (by omega)
        obtain ⟨s, hv, ws⟩ := read_str Try.underlying9 ht (light_elem Try.underlying22 hl (List.mem_map.2 ⟨i, List.mem_range.2 hil, rfl⟩))
        exact ⟨s, fun _ => ⟨ws, by rw [hc, hv]⟩⟩
      · exact ⟨ByteArray.empty, fun h => absurd h hil⟩
    obtain ⟨f, hf⟩ := Classical.axiomOfChoice hex
    refine ⟨(List.range len).map f, ⟨some a, cap, by simp, by simpa using hlc, hcm, by simp, fun h => (nomatch h), fun hn => ?_⟩, fun y hy => ?_, by simpa using hsz⟩
    · have hn' : 0 < len := by simpa using hn
      have h0 := (hf 0 hn').2
      obtain ⟨b, o, s⟩ := a
      have hs : s = none := by simpa [Addr.add] using World.cell?_spot h0
      subst hs
      refine ⟨b, o, rfl, trivial, World.block_lt_of_cell? w _ (by simpa [Base.add_plain] using h0), fun j u hu => ?_⟩
      simp only [List.map_map, List.getElem?_map, Option.map_eq_some_iff] at hu
      obtain ⟨i, hi', rfl⟩ := hu
      obtain ⟨hlt, rfl⟩ := List.getElem?_eq_some_iff.1 hi'
      rw [List.getElem_range]
      have := (hf j (by simpa using hlt)).2
      rwa [Base.add_plain] at this
    · obtain ⟨i, hi', rfl⟩ := List.mem_map.1 hy
      exact (hf i (List.mem_range.1 hi')).1
end
end Go.Proofs.Ytncgcjfpoableaa
