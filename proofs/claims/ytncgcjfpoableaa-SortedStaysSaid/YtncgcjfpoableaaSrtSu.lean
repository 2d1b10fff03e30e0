/-
  Words for SortedStays: the two maps while a range over one of them runs, with what has been collected.
-/
import Derived.Test.YtncgcjfpoableaaSrtS
import Derived.Test.YtncgcjfpoableaaTailIn
import Derived.Maps.AppendAt
set_option linter.unusedVariables false
set_option linter.unusedSimpArgs false
namespace Go.Proofs.Base
open Go Go.RowKit
/-- append to a row of the call's own: the row lies where it lay, or in a new block -/
theorem wpIn_app_at {F : Fence} {nF : Nat} {P : Program} {W : World} {ops : Array Oper} {rest : List Oper} {o : Oper} {a : Act} {Q : Exit → Act → World → Prop} {t e : TypeId} {sz bytes : Nat} (E : ElemT P t e sz bytes) (hsz : 0 < sz)
    (hgd : o.guard = none) (s x : Operand) (ho : o.op = .call { callee := .builtin .append, args := #[s, x], argTypes := #[t, t] })
    (base : Nat) (v : Value) (n : Nat) (xs cs : List Value) (hs : a.eval s = v) (z0 : Nat) (hz0 : z0 = W.heap.size) (hx : a.eval x = .slice (some ⟨z0, 0, none⟩) 1 1) (hcs : cs.length = sz) (h1 : ∀ u ∈ cs, u.oneCell' = true)
    (HO : W.ownsRow base e sz v n xs) (hbase : base ≤ W.heap.size) (hl : n + 1 ≤ 140737488355328) (hl2 : (n + 1) * bytes ≤ 140737488355328)
    (h : ∀ v1 w1, w1.ownsRow base e sz v1 (n + 1) (xs ++ cs) → (W.alloc (.cells cs.toArray e)).grownBy w1 v.ownBlock → (∀ g, v1.ownBlock = some g → v.ownBlock = some g ∨ W.heap.size ≤ g) → wpListIn F nF P ops Q rest (a.put o.dst v1) w1) :
    wpListIn F nF P ops Q (o :: rest) a (W.alloc (.cells cs.toArray e)) := by
  subst hz0
  obtain ⟨i0, z, hi, hz0, hz1, hz2, hzc⟩ := E.hi
  refine wpListIn_plain hgd fun K hK' => ?_
  obtain ⟨v', w', hrun, r1, r2, -, r4⟩ := run_append_own_at (P := P) (w := W.alloc (.cells cs.toArray e)) base t o.type e i0 z sz bytes E.ht hi hz0 hz1 hz2 hzc hsz v n xs (HO.alloc _) ⟨W.heap.size, 0, none⟩ 1 1 cs (by omega)
    (World.news_of_block (cs := cs.toArray) (t := e) (fr := (0, 0)) (heap_alloc_new W _)) h1 (by simp only [maxLen]; omega) hl2 (by simp; omega)
  unfold Oper.wpIn
  refine ⟨?_, ?_⟩
  · simp [Oper.about, ho, resolve, Target.leads, Sem.run_pure]
  · rw [Oper.semAt_plain F _ _ (by rw [ho]; intro c hc'; cases hc')]
    simp [execOp, ho, resolve, invoke, builtin, hs, hx, hrun, Result.andThen]
    refine hK' _ _ (h v' w' r1 r2 (fun g hg => ?_))
    rcases r4 with r4 | r4
    · exact .inl (r4 ▸ hg)
    · rw [r4] at hg
      injection hg with hg
      rw [World.size_alloc] at hg
      exact .inr (by omega)
theorem Row.cellsMut {R : Nat → Prop} {w w' : World} {S : Nat → Prop} {sz n : Nat} {v : Value} {cs : List Value} (h : Row w S sz n v cs) (hm : Mut R w w') (hR : ∀ g o, w.heap[g]? = some o → o.isCells = true → ¬ R g) : Row w' S sz n v cs := by
  obtain ⟨A, c, hv, h1, h2, h3, h4, h5⟩ := h
  refine ⟨A, c, hv, h1, h2, h3, h4, fun hn => ?_⟩
  obtain ⟨b, o, hA, hSb, hlt, hc⟩ := h5 hn
  refine ⟨b, o, hA, hSb, Nat.lt_of_lt_of_le hlt hm.size, fun j u hu => ?_⟩
  obtain ⟨o2, ho2, hoc⟩ := cells_of_cell (hc j u hu)
  exact hm.cell (hc j u hu) (hR b o2 ho2 hoc)
end Go.Proofs.Base
namespace Go.Proofs.Ytncgcjfpoableaa
open Go Go.RowKit Go.Shelf Go.Proofs.Base
open Go.Proofs.Ytncgcjfpoableaa.srtI
open Go.Proofs.Ytncgcjfpoableaa.refM (RMapP)
theorem St.cellsMut {R B : Nat → Prop} {b r : Nat} {l : List (KV Int)} {w w' : World} (h : St B b r l w) (hm : Mut R w w') (hR : ∀ g o, w.heap[g]? = some o → o.isCells = true → ¬ R g) : St B b r l w' := by
  obtain ⟨h1, h2, ⟨k1, k2, A, c, k3, k4, k5⟩, ⟨m1, m2, A2, c2, A3, c3, m3, m4, m5⟩⟩ := h
  exact ⟨h1, h2, ⟨k1, fun x hx => Nat.lt_of_lt_of_le (k2 x hx) hm.size, A, c, hm.blk k3 (hR _ _ k3 rfl), ⟨k4.1, k4.2.cellsMut hm hR⟩, k5⟩,
    ⟨m1, fun x hx => Nat.lt_of_lt_of_le (m2 x hx) hm.size, A2, c2, A3, c3, hm.blk m3 (hR _ _ m3 rfl), m4.cellsMut hm hR, m5.cellsMut hm hR⟩⟩
/-- other blocks are barred behind a turn of barred ones -/
theorem St.turn {R B B' : Nat → Prop} {b r : Nat} {l : List (KV Int)} {w w' : World} (h : St B b r l w) (hm : Mut R w w') (hR : ∀ g, g < w.heap.size → R g → B g ∧ g ≠ b ∧ g ≠ r) (hb : B' b) (hr : B' r) (hlt : ∀ x, B' x → x < w'.heap.size) (hB : ∀ x, B' x → B x ∨ w.heap.size ≤ x) : St B' b r l w' := by
  obtain ⟨h1, h2, ⟨k1, k2, A, c, k3, k4, k5⟩, ⟨m1, m2, A2, c2, A3, c3, m3, m4, m5⟩⟩ := h
  have row : ∀ {sz n : Nat} {v : Value} {cs : List Value}, Row w (fun g => ¬ B g) sz n v cs → Row w' (fun g => ¬ B' g) sz n v cs := fun hh =>
    ((hh.weaken (S' := fun g => ¬ B g ∧ g < w.heap.size) (fun b hb h => ⟨h, hb⟩)).mut hm (fun g hg h ht => h.1 (hR g hg ht).1)).weaken (fun g _ h hx => by
      rcases hB g hx with h4 | h4
      · exact h.1 h4
      · have := h.2; omega)
  exact ⟨h1, h2, ⟨hb, hlt, A, c, (hm.block b (lt_of_blk k3) (fun h => (hR _ (lt_of_blk k3) h).2.1 rfl)).trans k3, ⟨k4.1, row k4.2⟩, k5⟩,
    ⟨hr, hlt, A2, c2, A3, c3, (hm.block r (lt_of_blk m3) (fun h => (hR _ (lt_of_blk m3) h).2.2 rfl)).trans m3, row m4, row m5⟩⟩
/-- the maps' two blocks and the two boxes -/
def T4 (b r x y : Nat) : Nat → Prop := fun g => g = b ∨ g = r ∨ g = x ∨ g = y
/-- and the blocks of what has been collected -/
def B4 (b r x y : Nat) (kv vv : Value) : Nat → Prop := fun g => T4 b r x y g ∨ kv.ownBlock = some g ∨ vv.ownBlock = some g
def InvS (V : World) (b r x y : Nat) (f : List (KV Int) → List (KV Int)) (pre : List (KV Int)) (U : World) : Prop :=
  ∃ kv vv, Boxed U x 22 kv ∧ Boxed U y 38 vv ∧ U.ownsRow V.heap.size 9 1 kv pre.length (keysV pre) ∧ U.ownsRow V.heap.size 3 1 vv pre.length (intsV pre) ∧
    St (B4 b r x y kv vv) b r (f pre) U ∧ Mut (T4 b r x y) V U
theorem inv_own (V : World) (b r x y : Nat) (f : List (KV Int) → List (KV Int)) : OwnFrom V.heap.size (fun pre U => InvS V b r x y f pre U) := by
  rintro s W W' row ⟨kv, vv, h1, h2, h3, h4, h5, h6⟩ hg hr
  have hm : Mut (fun g => row = some g) W W' := Mut.grown hg (fun _ h => h)
  have hR : ∀ g o, W.heap[g]? = some o → o.isCells = true → ¬ row = some g := fun g o ho hc e => by
    obtain ⟨_, o2, k1, k2⟩ := hr g e
    rw [ho] at k1
    injection k1 with k1
    subst k1
    rw [hc] at k2
    cases k2
  have own : ∀ {e n : Nat} {v : Value} {xs : List Value}, W.ownsRow V.heap.size e 1 v n xs → W'.ownsRow V.heap.size e 1 v n xs := fun h => own_mut h hm (fun g hgo => by
    obtain ⟨_, cs, k⟩ := own_type h hgo
    exact hR g _ k rfl)
  exact ⟨kv, vv, hm.blk h1 (hR _ _ h1 rfl), hm.blk h2 (hR _ _ h2 rfl), own h3, own h4, h5.cellsMut hm hR, h6.trans hm (fun g hgl h => absurd (hr g h).1 (by omega))⟩
/-- behind the two appends -/
theorem inv_app {V U U2 : World} {b r x y : Nat} {f : List (KV Int) → List (KV Int)} {pre : List (KV Int)} {p : KV Int} {kv vv kv' vv' : Value} {l : List (KV Int)} (hbx : b ≠ x ∧ b ≠ y ∧ r ≠ x ∧ r ≠ y ∧ x < V.heap.size ∧ y < V.heap.size ∧ b < V.heap.size ∧ r < V.heap.size) (hV : Mut (T4 b r x y) V U)
    (rk : U.ownsRow V.heap.size 9 1 kv pre.length (keysV pre)) (rv : U.ownsRow V.heap.size 3 1 vv pre.length (intsV pre)) (hS : St (B4 b r x y kv vv) b r l U)
    (hM : Mut (fun g => kv.ownBlock = some g ∨ g = x ∨ vv.ownBlock = some g ∨ g = y) U U2) (bk : Boxed U2 x 22 kv') (bv : Boxed U2 y 38 vv') (rk' : U2.ownsRow V.heap.size 9 1 kv' (pre.length + 1) (keysV (pre ++ [p]))) (rv' : U2.ownsRow V.heap.size 3 1 vv' (pre.length + 1) (intsV (pre ++ [p])))
    (hk : ∀ g, kv'.ownBlock = some g → kv.ownBlock = some g ∨ U.heap.size ≤ g) (hv : ∀ g, vv'.ownBlock = some g → vv.ownBlock = some g ∨ U.heap.size ≤ g) :
    St (B4 b r x y kv' vv') b r l U2 ∧ Mut (T4 b r x y) V U2 := by
  have ho : ∀ {e e' n n' : Nat} {v v' : Value} {xs ys : List Value} {X : World}, X.ownsRow V.heap.size e 1 v n xs → ∀ g, v.ownBlock = some g → V.heap.size ≤ g := fun h g hg => (own_type h hg).1
  refine ⟨hS.turn hM (fun g _ h => ?_) (.inl (.inl rfl)) (.inl (.inr (.inl rfl))) (fun g h => ?_) (fun g h => ?_), hV.trans hM (fun g hg h => ?_)⟩
  · rcases h with h | rfl | h | rfl
    · have := (own_type rk h).1; exact ⟨.inr (.inl h), by omega, by omega⟩
    · exact ⟨.inl (.inr (.inr (.inl rfl))), by omega, by omega⟩
    · have := (own_type rv h).1; exact ⟨.inr (.inr h), by omega, by omega⟩
    · exact ⟨.inl (.inr (.inr (.inr rfl))), by omega, by omega⟩
  · have hs := hV.size
    have hs2 := hM.size
    rcases h with h | h | h
    · rcases h with rfl | rfl | rfl | rfl
      all_goals omega
    · obtain ⟨_, cs, k⟩ := own_type rk' h
      exact lt_of_blk k
    · obtain ⟨_, cs, k⟩ := own_type rv' h
      exact lt_of_blk k
  · rcases h with h | h | h
    · exact .inl (.inl h)
    · rcases hk g h with h | h
      · exact .inl (.inr (.inl h))
      · exact .inr h
    · rcases hv g h with h | h
      · exact .inl (.inr (.inr h))
      · exact .inr h
  · rcases h with h | rfl | h | rfl
    · have := (own_type rk h).1; omega
    · exact .inr (.inr (.inl rfl))
    · have := (own_type rv h).1; omega
    · exact .inr (.inr (.inr rfl))
/-- behind the two appends, each into its box -/
theorem app_end {V U U1 U2 : World} {b r x y : Nat} {pre : List (KV Int)} {p : KV Int} {kv vv kv' vv' : Value} {l : List (KV Int)} (hbx : b ≠ x ∧ b ≠ y ∧ r ≠ x ∧ r ≠ y ∧ x < V.heap.size ∧ y < V.heap.size ∧ b < V.heap.size ∧ r < V.heap.size) (hne : x ≠ y) (hV : Mut (T4 b r x y) V U)
    (bk : Boxed U x 22 kv) (bv : Boxed U y 38 vv) (rk : U.ownsRow V.heap.size 9 1 kv pre.length (keysV pre)) (rv : U.ownsRow V.heap.size 3 1 vv pre.length (intsV pre)) (hS : St (B4 b r x y kv vv) b r l U)
    (bk' : Boxed U1 x 22 kv') (rk' : U1.ownsRow V.heap.size 9 1 kv' (pre.length + 1) (keysV pre ++ [.string p.1])) (M1 : Mut (fun g => kv.ownBlock = some g ∨ g = x) U U1)
    (bv' : Boxed U2 y 38 vv') (rv' : U2.ownsRow V.heap.size 3 1 vv' (pre.length + 1) (intsV pre ++ [.int .i64 p.2])) (M2 : Mut (fun g => vv.ownBlock = some g ∨ g = y) U1 U2)
    (hk : ∀ g, kv'.ownBlock = some g → kv.ownBlock = some g ∨ U.heap.size ≤ g) (hv : ∀ g, vv'.ownBlock = some g → vv.ownBlock = some g ∨ U1.heap.size ≤ g) :
    Mut (fun g => kv.ownBlock = some g ∨ g = x ∨ vv.ownBlock = some g ∨ g = y) U U2 ∧ Boxed U2 x 22 kv' ∧ U2.ownsRow V.heap.size 9 1 kv' (pre ++ [p]).length (keysV (pre ++ [p])) ∧ U2.ownsRow V.heap.size 3 1 vv' (pre ++ [p]).length (intsV (pre ++ [p])) ∧
      St (B4 b r x y kv' vv') b r l U2 ∧ Mut (T4 b r x y) V U2 := by
  have M : Mut (fun g => kv.ownBlock = some g ∨ g = x ∨ vv.ownBlock = some g ∨ g = y) U U2 :=
    (M1.mono (T' := fun g => kv.ownBlock = some g ∨ g = x ∨ vv.ownBlock = some g ∨ g = y) (fun b _ h => h.elim .inl (fun h => .inr (.inl h)))).trans M2 (fun b _ h => h.elim (fun h => .inr (.inr (.inl h))) (fun h => .inr (.inr (.inr h))))
  have rv1 : U1.ownsRow V.heap.size 3 1 vv pre.length (intsV pre) := own_mut rv M1 (fun b hb h => h.elim (fun h => own_ne rv rk (by decide) hb h) (fun h => (bk.not_row (by decide) rv) (by rw [hb, h])))
  have bv1 : Boxed U1 y 38 vv := boxed_mut bv M1 (fun h => h.elim (fun h => (bv.not_row (by decide) rk) h.symm) (fun h => hne h.symm))
  have bk2 : Boxed U2 x 22 kv' := boxed_mut bk' M2 (fun h => h.elim (fun h => (bk'.not_row (by decide) rv1) h.symm) hne)
  have rk2 : U2.ownsRow V.heap.size 9 1 kv' (pre.length + 1) (keysV pre ++ [.string p.1]) := own_mut rk' M2 (fun b hb h => h.elim (fun h => own_ne rk' rv1 (by decide) hb h) (fun h => (bv1.not_row (by decide) rk') (by rw [hb, h])))
  rw [← keysV_snoc] at rk2
  rw [← intsV_snoc] at rv'
  have HI := inv_app (f := fun l => l) hbx hV rk rv hS M bk2 bv' rk2 rv' hk (fun g hg => (hv g hg).imp id (fun h => Nat.le_trans M1.size h))
  exact ⟨M, bk2, by rw [List.length_append]; exact rk2, by rw [List.length_append]; exact rv', HI⟩
theorem rows_from {w : World} {base e n : Nat} {v : Value} {xs : List Value} (h : w.ownsRow base e 1 v n xs) : ∃ A c, v = .slice A n c ∧ Row w (fun g => base ≤ g) 1 n (.slice A n c) xs := by
  have hr := (Row.of_own h).weaken (S' := fun g => base ≤ g) (fun _ _ h => h.1)
  obtain ⟨A, c, hv, _⟩ := id hr.open_
  subst hv
  exact ⟨A, c, rfl, hr⟩
theorem others_below {W W' : World} (h : Below W.heap.size W W') : KeepsOthers W W' := ⟨h.size, fun g o ho _ => block_below h ho⟩
theorem rangeK_5 {V : Type} (k : ByteArray) (l : List (KV V)) : rangeK 5 k l = fromK k l := by unfold rangeK; rw [if_pos rfl]
theorem fromK_len {V : Type} (k : ByteArray) (l : List (KV V)) : (fromK k l).length ≤ l.length := by unfold fromK; rw [List.length_drop]; omega
theorem most_neg' {α : Type} (l : List α) : mostK (-1) l = l := by unfold mostK; rw [if_pos (by omega)]
theorem wrap64_id {i : Int} (h1 : -9223372036854775808 ≤ i) (h2 : i ≤ 9223372036854775807) : wrap64 i = i := by unfold wrap64; omega
theorem two_set {U : World} {x y : Nat} {v8 v9 : Value} (h8 : Boxed U x 22 v8) (h9 : Boxed U y 38 v9) (hne : x ≠ y) (y8 y9 : Value) :
    Mut (fun b => b = x ∨ b = y) U ((U.setCell ⟨x, 0, none⟩ y8).setCell ⟨y, 0, none⟩ y9) ∧ Boxed ((U.setCell ⟨x, 0, none⟩ y8).setCell ⟨y, 0, none⟩ y9) x 22 y8 ∧ Boxed ((U.setCell ⟨x, 0, none⟩ y8).setCell ⟨y, 0, none⟩ y9) y 38 y9 :=
  ⟨((Mut.refl (fun b => b = x ∨ b = y) U).setCell (p := ⟨x, 0, none⟩) (fun _ => .inl rfl) _).setCell (p := ⟨y, 0, none⟩) (fun _ => .inr rfl) _, (h8.set y8).other hne _, (h9.other (fun e => hne e.symm) y8).set y9⟩
/-- what a turn of the two maps keeps -/
theorem keepC_maps {n₀ : Nat} {T B : Nat → Prop} {b r : Nat} {l : List (KV Int)} {U U' : World} (hS : St B b r l U) (hb : T b) (hr : T r) (hm : Mut (fun g => g = b ∨ g = r) U U') : KeepC n₀ T U U' ∧ KeepsOthers U U' := by
  obtain ⟨_, _, ⟨_, _, A, c, k3, _⟩, ⟨_, _, A2, c2, A3, c3, m3, _⟩⟩ := hS
  refine ⟨⟨hm.size, fun g cs t f hg ht => hm.blk hg (fun h => ?_), fun g o _ ho hc => hm.blk ho (fun h => ?_)⟩, ⟨hm.size, fun g o ho hc => hm.blk ho (fun h => ?_)⟩⟩
  · rcases h with rfl | rfl
    · rw [k3] at hg
      injection hg with hg
      injection hg with _ hg
      subst hg
      rcases ht with ht | ht | ht | ht
      · exact ht.2 hb
      all_goals (revert ht; decide)
    · rw [m3] at hg
      injection hg with hg
      injection hg with _ hg
      subst hg
      rcases ht with ht | ht | ht | ht
      · exact ht.2 hr
      all_goals (revert ht; decide)
  all_goals
    rcases h with rfl | rfl
    · rw [k3] at ho
      injection ho with ho
      subst ho
      cases hc
    · rw [m3] at ho
      injection ho with ho
      subst ho
      cases hc
/-- two new maps, each with a box that points to it -/
def startW3 (w : World) : World :=
  (((w.alloc (.cells #[.slice none 0 0] 70)).alloc (.cells #[.pointer (some ⟨w.heap.size, 0, none⟩)] 35)).alloc (.cells #[.slice none 0 0, .slice none 0 0] 40)).alloc (.cells #[.pointer (some ⟨w.heap.size + 1 + 1, 0, none⟩)] 37)
theorem start3_below (w : World) : Below w.heap.size w (startW3 w) := below_alloc (below_alloc (below_alloc (below_alloc (Below.refl _ _) _) _) _) _
theorem start3_size (w : World) : (startW3 w).heap.size = w.heap.size + 1 + 1 + 1 + 1 := by simp [startW3]
theorem start3_0 (w : World) : (startW3 w).heap[w.heap.size]? = some (.cells #[.slice none 0 0] 70 (0, 0)) :=
  block_below (below_alloc (below_alloc (below_alloc (Below.refl _ _) _) _) _) (heap_alloc_new w _)
theorem start3_1 (w : World) : (startW3 w).heap[w.heap.size + 1]? = some (.cells #[.pointer (some ⟨w.heap.size, 0, none⟩)] 35 (0, 0)) := by
  have h := heap_alloc_new (w.alloc (.cells #[.slice none 0 0] 70)) (.cells #[.pointer (some ⟨w.heap.size, 0, none⟩)] 35)
  rw [World.size_alloc] at h
  exact block_below (below_alloc (below_alloc (Below.refl _ _) _) _) h
theorem start3_2 (w : World) : (startW3 w).heap[w.heap.size + 1 + 1]? = some (.cells #[.slice none 0 0, .slice none 0 0] 40 (0, 0)) := by
  have h := heap_alloc_new ((w.alloc (.cells #[.slice none 0 0] 70)).alloc (.cells #[.pointer (some ⟨w.heap.size, 0, none⟩)] 35)) (.cells #[.slice none 0 0, .slice none 0 0] 40)
  rw [World.size_alloc, World.size_alloc] at h
  exact block_below (below_alloc (Below.refl _ _) _) h
theorem start3_3 (w : World) : (startW3 w).heap[w.heap.size + 1 + 1 + 1]? = some (.cells #[.pointer (some ⟨w.heap.size + 1 + 1, 0, none⟩)] 37 (0, 0)) := by
  have h := heap_alloc_new (((w.alloc (.cells #[.slice none 0 0] 70)).alloc (.cells #[.pointer (some ⟨w.heap.size, 0, none⟩)] 35)).alloc (.cells #[.slice none 0 0, .slice none 0 0] 40)) (.cells #[.pointer (some ⟨w.heap.size + 1 + 1, 0, none⟩)] 37)
  rw [World.size_alloc, World.size_alloc, World.size_alloc] at h
  exact h
theorem start3_st (w : World) : St (fun x => x = w.heap.size ∨ x = w.heap.size + 1 + 1) w.heap.size (w.heap.size + 1 + 1) [] (startW3 w) :=
  ⟨by omega, KeysOk.nil, ⟨.inl rfl, fun x hx => by rw [start3_size]; omega, none, 0, start3_0 w, ⟨rfl, Row.nil _ _ _⟩, Rises.nil⟩, ⟨.inr rfl, fun x hx => by rw [start3_size]; omega, none, 0, none, 0, start3_2 w, Row.nil _ _ _, Row.nil _ _ _⟩⟩
end Go.Proofs.Ytncgcjfpoableaa
