/-
  Words for sorted maps: parts of a slice that reads as cells, appends onto a row of the call's own that has room. Nothing of a program.
-/
import Derived.Test.YtncgcjfpoableaaBase
import Derived.Deep.DeepAppendRoom
import Derived.Laws.MakeOwn
import Derived.Laws.AppendOwnNone
import Derived.Lib.SliceRun
set_option linter.unusedVariables false
set_option linter.unusedSimpArgs false
namespace Go.Proofs.Base
open Go Go.RowKit

theorem Row.slice_len {w : World} {S : Nat → Prop} {sz n m c : Nat} {A : Option Addr} {cs : List Value} (h : Row w S sz n (.slice A m c) cs) : m = n := by
  obtain ⟨A', c', hv, _⟩ := h
  injection hv
theorem Row.take {w : World} {S : Nat → Prop} {sz n c : Nat} {A : Option Addr} {cs : List Value} (h : Row w S sz n (.slice A n c) cs) (i : Nat) (hi : i ≤ n) : Row w S sz i (.slice A i c) (cs.take (i * sz)) := by
  obtain ⟨A', c', hv, h1, h2, h3, h4, h5⟩ := h
  injection hv with e1 e2 e3
  subst e1 e3
  have hm : i * sz ≤ n * sz := Nat.mul_le_mul_right _ hi
  refine ⟨A, c, rfl, by omega, h2, by rw [List.length_take, h3]; omega, fun ha => ⟨by have := (h4 ha).1; omega, (h4 ha).2⟩, fun hp => ?_⟩
  obtain ⟨b, o, hA, hS, hlt, hc⟩ := h5 (by omega)
  refine ⟨b, o, hA, hS, hlt, fun j u hu => hc j u ?_⟩
  rw [List.getElem?_take] at hu
  split at hu
  · exact hu
  · cases hu
theorem Row.drop {w : World} {S : Nat → Prop} {sz n c : Nat} {A : Option Addr} {cs : List Value} (h : Row w S sz n (.slice A n c) cs) (i : Nat) (hi : i ≤ n) :
    Row w S sz (n - i) (.slice (if c = i then A else A.map (·.add (i * sz))) (n - i) (c - i)) (cs.drop (i * sz)) := by
  obtain ⟨A', c', hv, h1, h2, h3, h4, h5⟩ := h
  injection hv with e1 e2 e3
  subst e1 e3
  refine ⟨_, _, rfl, by omega, by omega, by rw [List.length_drop, h3, Nat.sub_mul], fun ha => ?_, fun hp => ?_⟩
  · have : A = none := by
      split at ha
      · exact ha
      · simpa using ha
    have := h4 this
    omega
  · obtain ⟨b, o, hA, hS, hlt, hc⟩ := h5 (by omega)
    subst hA
    rw [if_neg (by omega)]
    refine ⟨b, o + i * sz, by rw [Option.map_some, add_plain], hS, hlt, fun j u hu => ?_⟩
    rw [Nat.add_assoc]
    exact hc _ u (by rw [← hu, List.getElem?_drop])
/-- the same, whatever stands for the address -/
theorem Row.drop' {w : World} {S : Nat → Prop} {sz n c : Nat} {A : Option Addr} {cs : List Value} (h : Row w S sz n (.slice A n c) cs) (i : Nat) (hi : i ≤ n) :
    ∃ A', (if c = i then A else A.map (·.add (i * sz))) = A' ∧ Row w S sz (n - i) (.slice A' (n - i) (c - i)) (cs.drop (i * sz)) := ⟨_, rfl, h.drop i hi⟩
theorem Row.plain {w : World} {S : Nat → Prop} {sz n : Nat} {v : Value} {cs : List Value} (h : Row w S sz n v cs) : ∃ A c, v = .slice A n c ∧ n ≤ c ∧ c ≤ 9223372036854775807 := h.open_
/-- a block that was just laid, as a slice -/
theorem Row.new (w : World) (sz n : Nat) (cs : List Value) (e : TypeId) (hl : cs.length = n * sz) (hn : n ≤ maxLen) : Row (w.alloc (.cells cs.toArray e)) (fun b => b = w.heap.size) sz n (.slice (some ⟨w.heap.size, 0, none⟩) n n) cs :=
  ⟨_, n, rfl, Nat.le_refl _, hn, hl, (fun h => by cases h), fun _ => ⟨_, 0, rfl, rfl, by simp, fun j u hu => by rw [Nat.zero_add, cell_of_blk (heap_alloc_new w _)]; simpa using hu⟩⟩

section
variable {P : Program}
theorem run_app_nil (w : World) (base : Nat) (t ty e : TypeId) (i : TypeInfo) (size : Nat) (ht : P.underlying t = some (.slice e)) (hi : P.info? e = some i)
    (v : Value) (n : Nat) (xs : List Value) (hown : w.ownsRow base e size v n xs) (c : Nat) : (Builtin.append_ #[t, t] ty #[v, .slice none 0 c]).run P w = .ok v w := by
  rcases hown.2 with ⟨rfl, rfl⟩ | ⟨g, cap, cur, rfl, _, _, hnc, _⟩
  · simp [Builtin.append_, run_underlying ht, sizeOf, typeInfo, hi, Builtin.lenOf, Builtin.firstCells]
  · simp [Builtin.append_, run_underlying ht, sizeOf, typeInfo, hi, Builtin.lenOf, Builtin.firstCells, hnc, storeCells]
/-- append of a slice that reads as cells onto a row of the call's own that has room -/
theorem run_app_spare (w : World) (base : Nat) (t ty e : TypeId) (sz bytes : Nat) (E : ElemT P t e sz bytes)
    (g n cap : Nat) (xs : List Value) (hown : w.ownsRow base e sz (.slice (some ⟨g, 0, none⟩) n cap) n xs)
    (S : Nat → Prop) (A : Option Addr) (m c : Nat) (news : List Value) (hr : Row w S sz m (.slice A m c) news) (h1 : ∀ u ∈ news, u.oneCell' = true) (hroom : n + m ≤ cap) :
    ∃ w', (Builtin.append_ #[t, t] ty #[.slice (some ⟨g, 0, none⟩) n cap, .slice A m c]).run P w = .ok (.slice (some ⟨g, 0, none⟩) (n + m) cap) w' ∧
      w'.ownsRow base e sz (.slice (some ⟨g, 0, none⟩) (n + m) cap) (n + m) (xs ++ news) ∧ w.grownBy w' (some g) := by
  obtain ⟨i, z, hi, hz0, hz1, hz2, hzc⟩ := E.hi
  obtain ⟨A', c', hv, k1, k2, k3, k4, k5⟩ := hr
  injection hv with e1 e2 e3
  subst e1 e3
  rcases A with _ | ad
  · obtain ⟨rfl, rfl⟩ := k4 rfl
    have hn : news = [] := List.eq_nil_of_length_eq_zero (by simpa using k3)
    subst hn
    exact ⟨w, by rw [Nat.add_zero]; exact run_app_nil w base t ty e i sz E.ht hi _ n xs hown _, by simpa using hown, World.grownBy.refl w _⟩
  · refine run_append_own_spare (P := P) w base t ty e i sz E.ht hi hz1 g n cap xs hown ad m c news k3 ?_ h1 hroom
    intro j u hu
    rcases Nat.eq_zero_or_pos m with h0 | h0
    · subst h0
      have hn : news = [] := List.eq_nil_of_length_eq_zero (by simpa using k3)
      subst hn
      simp at hu
    · obtain ⟨b, o, hA, _, _, hc⟩ := k5 h0
      injection hA with hA
      subst hA
      rw [add_plain]
      exact hc j u hu
theorem wp_app_spare {w : World} {ops : Array Oper} {rest : List Oper} {o : Oper} {a : Act} {Q : Exit → Act → World → Prop} {t e : TypeId} {sz bytes : Nat} (E : ElemT P t e sz bytes)
    (hgd : o.guard = none) (s x : Operand) (ho : o.op = .call { callee := .builtin .append, args := #[s, x], argTypes := #[t, t] })
    (base g n cap : Nat) (xs : List Value) (hs : a.eval s = .slice (some ⟨g, 0, none⟩) n cap) (hown : w.ownsRow base e sz (.slice (some ⟨g, 0, none⟩) n cap) n xs)
    (S : Nat → Prop) (A : Option Addr) (m c : Nat) (news : List Value) (hx : a.eval x = .slice A m c) (hr : Row w S sz m (.slice A m c) news) (h1 : ∀ u ∈ news, u.oneCell' = true) (hroom : n + m ≤ cap)
    (h : ∀ w', w'.ownsRow base e sz (.slice (some ⟨g, 0, none⟩) (n + m) cap) (n + m) (xs ++ news) → w.grownBy w' (some g) → wpList P ops Q rest (a.put o.dst (.slice (some ⟨g, 0, none⟩) (n + m) cap)) w') :
    wpList P ops Q (o :: rest) a w := by
  refine wpList_plain hgd fun K hK => ?_
  obtain ⟨w', hrun, h2, h3⟩ := run_app_spare w base t o.type e sz bytes E g n cap xs hown S A m c news hr h1 hroom
  unfold Oper.wp execOp
  simp only [ho, resolve, invoke, builtin, Sem.run_bind, Sem.run_pure, Result.andThen_ok, List.map_toArray, List.map_cons, List.map_nil, hs, hx, hrun]
  exact hK _ _ (h w' h2 h3)
/-- the same as a step of a region that draws -/
theorem step_app_spare {w : World} {ops : Array Oper} {o : Oper} {a : Act} {K : Act → World → Prop} {Q : Exit → Act → World → Prop} {X : Prop} {t e : TypeId} {sz bytes : Nat} (E : ElemT P t e sz bytes)
    (hgd : o.guard = none) (s x : Operand) (ho : o.op = .call { callee := .builtin .append, args := #[s, x], argTypes := #[t, t] })
    (base g n cap : Nat) (xs : List Value) (hs : a.eval s = .slice (some ⟨g, 0, none⟩) n cap) (hown : w.ownsRow base e sz (.slice (some ⟨g, 0, none⟩) n cap) n xs)
    (S : Nat → Prop) (A : Option Addr) (m c : Nat) (news : List Value) (hx : a.eval x = .slice A m c) (hr : Row w S sz m (.slice A m c) news) (h1 : ∀ u ∈ news, u.oneCell' = true) (hroom : n + m ≤ cap)
    (h : ∀ w', w'.ownsRow base e sz (.slice (some ⟨g, 0, none⟩) (n + m) cap) (n + m) (xs ++ news) → w.grownBy w' (some g) → K (a.put o.dst (.slice (some ⟨g, 0, none⟩) (n + m) cap)) w') :
    if Region.wanted o (yielded ops a.tmps) = true then Oper.wp P o a w K Q else X := by
  have hw : Region.wanted o (yielded ops a.tmps) = true := by simp [Region.wanted, hgd]
  rw [if_pos hw]
  obtain ⟨w', hrun, h2, h3⟩ := run_app_spare w base t o.type e sz bytes E g n cap xs hown S A m c news hr h1 hroom
  unfold Oper.wp execOp
  simp only [ho, resolve, invoke, builtin, Sem.run_bind, Sem.run_pure, Result.andThen_ok, List.map_toArray, List.map_cons, List.map_nil, hs, hx, hrun]
  exact h w' h2 h3
/-- make([]T, 0, c) -/
theorem wp_make_spare {w : World} {ops : Array Oper} {rest : List Oper} {o : Oper} {a : Act} {Q : Exit → Act → World → Prop} {t e : TypeId} {sz bytes : Nat} (E : ElemT P t e sz bytes)
    (hgd : o.guard = none) (l c : Operand) (ho : o.op = .makeSlice t l c) (base : Nat) (kl kc : IntKind) (x : Int) (k : Nat) (hl : a.eval l = .int kl 0) (hc : a.eval c = .int kc x) (hx : x = (k : Nat))
    (hbytes : bytes * k ≤ 281474976710656) (h63 : k ≤ maxLen) (hbase : base ≤ w.heap.size)
    (h : ∀ w', w'.ownsRow base e sz (.slice (some ⟨w.heap.size, 0, none⟩) 0 k) 0 [] → w.grownBy w' none → wpList P ops Q rest (a.put o.dst (.slice (some ⟨w.heap.size, 0, none⟩) 0 k)) w') :
    wpList P ops Q (o :: rest) a w := by
  obtain ⟨i, z, hi, hz0, hz1, hz2, hzc⟩ := E.hi
  refine wpList_plain hgd fun K hK => ?_
  obtain ⟨w', hrun, r1, r2⟩ := run_make_own (P := P) w base t e i z sz E.ht hi hz0 hz1 kl kc k (by rw [hz2]; exact hbytes) h63 hbase
  subst hx
  unfold Oper.wp
  simp [execOp, ho, hl, hc, hrun, Result.andThen]
  exact hK _ _ (h w' r1 r2)
end
end Go.Proofs.Base
namespace Go.Proofs.Base
open Go Go.RowKit
theorem addr_add0 (a : Addr) : a.add 0 = a := by unfold Addr.add; simp
/-- s[:i] -/
theorem run_upto {P : Program} {t e : TypeId} {sz bytes : Nat} (E : ElemT P t e sz bytes) (A : Option Addr) (n c i : Nat) (hi : i ≤ c) (w : World) :
    (Instr.slice t (.slice A n c) none (some (.int .i64 (i : Int))) none).run P w = .ok (.slice A i c) w := by
  obtain ⟨j, z, hj, hz0, hz1, hz2, hzc⟩ := E.hi
  have he : P.underlying t = some (.slice (P.elem t)) := by simp [Program.elem, E.ht]
  have h1 := run_slice_h (P := P) (w := w) t A n c he .i64 (i : Int) (by omega) (by omega)
  rw [h1]
  have e2 : P.elem t = e := by simp [Program.elem, E.ht]
  rw [e2]
  have e3 : (if c = 0 then A else Option.map (fun x => x.add 0) A) = A := by
    split
    · rfl
    · cases A <;> simp [addr_add0]
  simp [sizeOf, typeInfo, hj, sliced, Result.andThen, e3]
/-- s[i:] -/
theorem run_from {P : Program} {t e : TypeId} {sz bytes : Nat} (E : ElemT P t e sz bytes) (A A2 : Option Addr) (n c i : Nat) (x : Int) (hx : x = (i : Nat)) (hi : i ≤ n) (h2 : (if c = i then A else A.map (·.add (i * sz))) = A2) (w : World) :
    (Instr.slice t (.slice A n c) (some (.int .i64 x)) none none).run P w = .ok (.slice A2 (n - i) (c - i)) w := by
  subst hx
  obtain ⟨j, z, hj, hz0, hz1, hz2, hzc⟩ := E.hi
  have he : P.underlying t = some (.slice (P.elem t)) := by simp [Program.elem, E.ht]
  have h1 := run_slice_l (P := P) (w := w) t A n c he .i64 (i : Int) (by omega) (by omega)
  rw [h1]
  have e2 : P.elem t = e := by simp [Program.elem, E.ht]
  rw [e2]
  simp [sizeOf, typeInfo, hj, sliced, Result.andThen, hz1, ← h2]
end Go.Proofs.Base
