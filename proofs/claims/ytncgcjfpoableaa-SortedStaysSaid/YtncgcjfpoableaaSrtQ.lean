/-
  Words for collecting what a range tells: two boxes, two rows of the call's own.
-/
import Derived.Test.YtncgcjfpoableaaSrtK
set_option linter.unusedVariables false
set_option linter.unusedSimpArgs false
namespace Go.Proofs.Base
open Go Go.RowKit
theorem own_type {w : World} {base e size n : Nat} {v : Value} {xs : List Value} (h : w.ownsRow base e size v n xs) {b : Nat} (hb : v.ownBlock = some b) : base ≤ b ∧ ∃ cs, w.heap[b]? = some (.cells cs e (0, 0)) := by
  rcases h.2 with ⟨rfl, _⟩ | ⟨g, cap, cur, rfl, hbg, hh, _⟩
  · simp [Value.ownBlock] at hb
  · obtain rfl : g = b := by simpa [Value.ownBlock] using hb
    exact ⟨hbg, _, hh⟩
theorem own_ne {w : World} {base base' e e' size size' n n' : Nat} {v v' : Value} {xs xs' : List Value} (h : w.ownsRow base e size v n xs) (h' : w.ownsRow base' e' size' v' n' xs') (hne : e ≠ e') {b : Nat} (hb : v.ownBlock = some b) : v'.ownBlock ≠ some b := by
  intro hb'
  obtain ⟨_, cs, k1⟩ := own_type h hb
  obtain ⟨_, cs', k2⟩ := own_type h' hb'
  rw [k1] at k2
  injection k2 with k2
  injection k2 with _ k2
  exact hne k2
theorem own_mut {T : Nat → Prop} {w w' : World} {base e size n : Nat} {v : Value} {xs : List Value} (h : w.ownsRow base e size v n xs) (hm : Mut T w w') (hT : ∀ b, v.ownBlock = some b → ¬ T b) : w'.ownsRow base e size v n xs := by
  obtain ⟨h1, h2⟩ := h
  refine ⟨h1, ?_⟩
  rcases h2 with h2 | ⟨g, cap, cur, rfl, hbg, hh, r⟩
  · exact .inl h2
  · exact .inr ⟨g, cap, cur, rfl, hbg, hm.blk hh (hT g (by simp [Value.ownBlock])), r⟩
theorem own_base {w : World} {b b' e size n : Nat} {v : Value} {xs : List Value} (h : w.ownsRow b e size v n xs) (hb : b' ≤ b) : w.ownsRow b' e size v n xs := by
  obtain ⟨h1, h2⟩ := h
  refine ⟨h1, ?_⟩
  rcases h2 with h2 | ⟨g, cap, cur, rfl, hbg, r⟩
  · exact .inl h2
  · exact .inr ⟨g, cap, cur, rfl, Nat.le_trans hb hbg, r⟩
theorem boxed_mut {T : Nat → Prop} {w w' : World} {B : Nat} {t : TypeId} {v : Value} (h : Boxed w B t v) (hm : Mut T w w') (hT : ¬ T B) : Boxed w' B t v := hm.blk h hT
/-- out = append(out, x), out in a box -/
theorem box_app {V w1 : World} {n₀ B : Nat} {t e : TypeId} {size : Nat} {v v' : Value} {k m : Nat} {xs ys : List Value} {cs : Array Value} (hv : Boxed V B t v) (hte : t ≠ e) (hrow : V.ownsRow n₀ e size v k xs)
    (hown' : w1.ownsRow n₀ e size v' m ys) (hgrow : (V.alloc (.cells cs e)).grownBy w1 v.ownBlock) :
    Boxed w1 B t v ∧ Boxed (w1.setCell ⟨B, 0, none⟩ v') B t v' ∧ (w1.setCell ⟨B, 0, none⟩ v').ownsRow n₀ e size v' m ys ∧ Mut (fun b => v.ownBlock = some b ∨ b = B) V (w1.setCell ⟨B, 0, none⟩ v') := by
  have hv1 : Boxed w1 B t v := (hv.alloc _).kept hgrow (hv.not_row hte hrow)
  refine ⟨hv1, hv1.set v', hown'.kept (grownBy_setCell' w1 B v') (.inr (hv1.not_row hte hown').symm), ?_⟩
  have h1 : Mut (fun b => v.ownBlock = some b ∨ b = B) V (V.alloc (.cells cs e)) := (Mut.refl _ V).alloc _
  have h2 : Mut (fun b => v.ownBlock = some b ∨ b = B) V w1 := h1.trans (Mut.grown (T := fun b => v.ownBlock = some b ∨ b = B) hgrow (fun b hb => .inl hb)) (fun b _ h => h)
  exact h2.setCell (p := ⟨B, 0, none⟩) (fun _ => .inr rfl) _
theorem wpIn_app {F : Fence} {nF : Nat} {P : Program} {W : World} {ops : Array Oper} {rest : List Oper} {o : Oper} {a : Act} {Q : Exit → Act → World → Prop} {t e : TypeId} {sz bytes : Nat} (E : ElemT P t e sz bytes) (hsz : 0 < sz)
    (hgd : o.guard = none) (s x : Operand) (ho : o.op = .call { callee := .builtin .append, args := #[s, x], argTypes := #[t, t] })
    (base : Nat) (v : Value) (n : Nat) (xs cs : List Value) (hs : a.eval s = v) (z0 : Nat) (hz0 : z0 = W.heap.size) (hx : a.eval x = .slice (some ⟨z0, 0, none⟩) 1 1) (hcs : cs.length = sz) (h1 : ∀ u ∈ cs, u.oneCell' = true)
    (HO : W.ownsRow base e sz v n xs) (hbase : base ≤ W.heap.size) (hl : n + 1 ≤ 140737488355328) (hl2 : (n + 1) * bytes ≤ 140737488355328)
    (h : ∀ v1 w1, w1.ownsRow base e sz v1 (n + 1) (xs ++ cs) → (W.alloc (.cells cs.toArray e)).grownBy w1 v.ownBlock → wpListIn F nF P ops Q rest (a.put o.dst v1) w1) :
    wpListIn F nF P ops Q (o :: rest) a (W.alloc (.cells cs.toArray e)) := by
  subst hz0
  obtain ⟨i0, z, hi, hz0, hz1, hz2, hzc⟩ := E.hi
  exact wpListIn_append_own (W.alloc (.cells cs.toArray e)) hgd s x t ho base e i0 z sz bytes E.ht hi hz0 hz1 hz2 hzc hsz v n xs hs (HO.alloc _) ⟨W.heap.size, 0, none⟩ 1 1 cs hx (by omega)
    (World.news_of_block (cs := cs.toArray) (t := e) (fr := (0, 0)) (heap_alloc_new W _)) h1 (by simp only [maxLen]; omega) hl2 (by simp; omega) (fun v1 w1 hown hg _ => h v1 w1 hown hg)
def keysV {V : Type} (l : List (KV V)) : List Value := l.map fun x => .string x.1
def intsV (l : List (KV Int)) : List Value := l.map fun x => .int .i64 x.2
theorem keysV_snoc {V : Type} (l : List (KV V)) (x : KV V) : keysV (l ++ [x]) = keysV l ++ [.string x.1] := by simp [keysV]
theorem intsV_snoc (l : List (KV Int)) (x : KV Int) : intsV (l ++ [x]) = intsV l ++ [.int .i64 x.2] := by simp [intsV]
end Go.Proofs.Base
namespace Go.Proofs.Ytncgcjfpoableaa
open Go Go.RowKit Go.Shelf Go.Proofs.Base
theorem eS : ElemT Try.prog 22 9 1 16 := ElemT.of (z := .string ⟨#[]⟩) Try.underlying22 (by kernel_rfl) rfl
theorem eI : ElemT Try.prog 38 3 1 8 := ElemT.of (z := .int .i64 0) Try.underlying38 (by kernel_rfl) rfl
end Go.Proofs.Ytncgcjfpoableaa
namespace Go.Proofs.Ytncgcjfpoableaa.srtI
open Go Go.RowKit Go.Shelf Go.Proofs.Base
/-- what has been collected: in box Bk the keys, in box Bv the values -/
def Col (n₀ Bk Bv : Nat) (pre : List (KV Int)) (V : World) : Prop :=
  (∃ kv, Boxed V Bk 22 kv ∧ V.ownsRow n₀ 9 1 kv pre.length (keysV pre) ∧ True) ∧ (∃ vv, Boxed V Bv 38 vv ∧ V.ownsRow n₀ 3 1 vv pre.length (intsV pre) ∧ True)
theorem Col.own (n₀ Bk Bv B : Nat) : OwnFrom B (fun pre V => Col n₀ Bk Bv pre V) :=
  OwnFrom.and (Own.from (holdsRow_own n₀ Bk 22 9 1 (fun pre : List (KV Int) => pre.length) keysV (fun _ _ => True)) _) (Own.from (holdsRow_own n₀ Bv 38 3 1 (fun pre : List (KV Int) => pre.length) intsV (fun _ _ => True)) _)
/-- behind the two appends -/
theorem col_end {n₀ n₁ Bk Bv : Nat} {V V1 V2 : World} {kv vv kv' vv' : Value} {pre : List (KV Int)} {x : KV Int} (hne : Bk ≠ Bv)
    (bk : Boxed V Bk 22 kv) (bv : Boxed V Bv 38 vv) (rk : V.ownsRow n₀ 9 1 kv pre.length (keysV pre)) (rv : V.ownsRow n₀ 3 1 vv pre.length (intsV pre))
    (bk' : Boxed V1 Bk 22 kv') (rk' : V1.ownsRow n₀ 9 1 kv' (pre.length + 1) (keysV pre ++ [.string x.1])) (M1 : Mut (fun b => kv.ownBlock = some b ∨ b = Bk) V V1)
    (bv' : Boxed V2 Bv 38 vv') (rv' : V2.ownsRow n₀ 3 1 vv' (pre.length + 1) (intsV pre ++ [.int .i64 x.2])) (M2 : Mut (fun b => vv.ownBlock = some b ∨ b = Bv) V1 V2) :
    Mut (fun b => kv.ownBlock = some b ∨ b = Bk ∨ vv.ownBlock = some b ∨ b = Bv) V V2 ∧ Boxed V2 Bk 22 kv' ∧ Col n₀ Bk Bv (pre ++ [x]) V2 := by
  have M : Mut (fun b => kv.ownBlock = some b ∨ b = Bk ∨ vv.ownBlock = some b ∨ b = Bv) V V2 :=
    (M1.mono (T' := fun b => kv.ownBlock = some b ∨ b = Bk ∨ vv.ownBlock = some b ∨ b = Bv) (fun b _ h => h.elim .inl (fun h => .inr (.inl h)))).trans M2 (fun b _ h => h.elim (fun h => .inr (.inr (.inl h))) (fun h => .inr (.inr (.inr h))))
  -- in V1 the int row is where it was
  have rv1 : V1.ownsRow n₀ 3 1 vv pre.length (intsV pre) := own_mut rv M1 (fun b hb h => h.elim (fun h => own_ne rv rk (by decide) hb h) (fun h => (bk.not_row (by decide) rv) (by rw [hb, h])))
  have bv1 : Boxed V1 Bv 38 vv := boxed_mut bv M1 (fun h => h.elim (fun h => (bv.not_row (by decide) rk) h.symm) (fun h => hne h.symm))
  have bk2 : Boxed V2 Bk 22 kv' := boxed_mut bk' M2 (fun h => h.elim (fun h => (bk'.not_row (by decide) rv1) h.symm) hne)
  have rk2 : V2.ownsRow n₀ 9 1 kv' (pre.length + 1) (keysV pre ++ [.string x.1]) := own_mut rk' M2 (fun b hb h => h.elim (fun h => own_ne rk' rv1 (by decide) hb h) (fun h => (bv1.not_row (by decide) rk') (by rw [hb, h])))
  refine ⟨M, bk2, ⟨kv', bk2, ?_, trivial⟩, ⟨vv', bv', ?_, trivial⟩⟩
  · rw [keysV_snoc, List.length_append]; exact rk2
  · rw [intsV_snoc, List.length_append]; exact rv'
theorem col_far {n₀ Bk Bv B : Nat} {V : World} {kv vv : Value} {n n' : Nat} {xs ys : List Value} (rk : V.ownsRow n₀ 9 1 kv n xs) (rv : V.ownsRow n₀ 3 1 vv n' ys) (h0 : B ≤ n₀) (h1 : B ≤ Bk) (h2 : B ≤ Bv) {b : Nat}
    (h : kv.ownBlock = some b ∨ b = Bk ∨ vv.ownBlock = some b ∨ b = Bv) : B ≤ b := by
  rcases h with h | rfl | h | rfl
  · exact Nat.le_trans h0 (own_type rk h).1
  · exact h1
  · exact Nat.le_trans h0 (own_type rv h).1
  · exact h2
theorem below_of_mut {w U V : World} {T : Nat → Prop} (h : Below w.heap.size w U) (hM : Mut T U V) (hT : ∀ b, T b → w.heap.size ≤ b) : Below w.heap.size w V := by
  have M := Mut.trans (T := fun b => w.heap.size ≤ b) (Mut.of_below h _) hM (fun b _ h => hT b h)
  exact ⟨M.os, M.tape, M.output, M.size, fun b hb => M.block b hb (by omega)⟩
/-- what the two appends keep -/
theorem col_keep {n₀ n₁ Bk Bv : Nat} {T : Nat → Prop} {V V2 : World} {kv vv : Value} {n n' : Nat} {xs ys : List Value} (hn : n₁ ≤ n₀) (hTk : T Bk) (hTv : T Bv) (bk : Boxed V Bk 22 kv) (bv : Boxed V Bv 38 vv)
    (rk : V.ownsRow n₀ 9 1 kv n xs) (rv : V.ownsRow n₀ 3 1 vv n' ys) (M : Mut (fun b => kv.ownBlock = some b ∨ b = Bk ∨ vv.ownBlock = some b ∨ b = Bv) V V2) : KeepC n₁ T V V2 ∧ KeepsOthers V V2 := by
  have tk : ∀ b c t f, V.heap[b]? = some (.cells c t f) → (kv.ownBlock = some b ∨ b = Bk ∨ vv.ownBlock = some b ∨ b = Bv) → (n₀ ≤ b ∨ T b) ∧ (t = 9 ∨ t = 22 ∨ t = 3 ∨ t = 38) := by
    intro b c t f hb h
    have tt : ∀ {c' t'}, V.heap[b]? = some (.cells c' t' (0, 0)) → t = t' := fun h => by rw [hb] at h; injection h with h; injection h with _ h
    rcases h with h | rfl | h | rfl
    · obtain ⟨h1, cs, h2⟩ := own_type rk h
      exact ⟨.inl h1, .inl (tt h2)⟩
    · exact ⟨.inr hTk, .inr (.inl (tt bk))⟩
    · obtain ⟨h1, cs, h2⟩ := own_type rv h
      exact ⟨.inl h1, .inr (.inr (.inl (tt h2)))⟩
    · exact ⟨.inr hTv, .inr (.inr (.inr (tt bv)))⟩
  have nc : ∀ b o, V.heap[b]? = some o → o.isCells = false → ¬ (kv.ownBlock = some b ∨ b = Bk ∨ vv.ownBlock = some b ∨ b = Bv) := by
    intro b o hb ho h
    have : ∃ cs t, V.heap[b]? = some (.cells cs t (0, 0)) := by
      rcases h with h | rfl | h | rfl
      · obtain ⟨_, cs, h2⟩ := own_type rk h; exact ⟨_, _, h2⟩
      · exact ⟨_, _, bk⟩
      · obtain ⟨_, cs, h2⟩ := own_type rv h; exact ⟨_, _, h2⟩
      · exact ⟨_, _, bv⟩
    obtain ⟨cs, t, h2⟩ := this
    rw [hb] at h2
    injection h2 with h2
    subst h2
    cases ho
  refine ⟨⟨M.size, fun b c t f hb ht => M.blk hb (fun h => ?_), fun b o _ ho hc => M.blk ho (nc b o ho hc)⟩, ⟨M.size, fun b o ho hc => M.blk ho (nc b o ho hc)⟩⟩
  obtain ⟨k1, k2⟩ := tk b c t f hb h
  rcases ht with ⟨h1, h2⟩ | rfl | rfl | rfl
  · exact k1.elim (fun h => by omega) h2
  · revert k2; decide
  · revert k2; decide
  · revert k2; decide
end Go.Proofs.Ytncgcjfpoableaa.srtI
