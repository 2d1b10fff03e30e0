/-
  The reference's map: its place of a key, Get, Del, Put.
-/
import Derived.Test.YtncgcjfpoableaaSrtU
set_option linter.unusedVariables false
set_option linter.unusedSimpArgs false
namespace Go.Proofs.Base
open Go Go.RowKit
section
variable {P : Program}
/-- append of a slice that reads as cells onto a row of the call's own -/
theorem run_app_row (w : World) (base : Nat) (t ty e : TypeId) (sz bytes : Nat) (E : ElemT P t e sz bytes) (hsz : 0 < sz)
    (v : Value) (n : Nat) (xs : List Value) (hown : w.ownsRow base e sz v n xs)
    (S : Nat → Prop) (A : Option Addr) (m c : Nat) (news : List Value) (hr : Row w S sz m (.slice A m c) news) (h1 : ∀ u ∈ news, u.oneCell' = true) (hl : n + m ≤ 140737488355328) (hb : (n + m) * bytes ≤ 140737488355328) (hbase : base ≤ w.heap.size) :
    ∃ v' w', (Builtin.append_ #[t, t] ty #[v, .slice A m c]).run P w = .ok v' w' ∧ w'.ownsRow base e sz v' (n + m) (xs ++ news) ∧ w.grownBy w' v.ownBlock := by
  obtain ⟨i, z, hi, hz0, hz1, hz2, hzc⟩ := E.hi
  obtain ⟨A', c', hv, k1, k2, k3, k4, k5⟩ := hr
  injection hv with e1 e2 e3
  subst e1 e3
  rcases A with _ | ad
  · obtain ⟨rfl, rfl⟩ := k4 rfl
    have hn : news = [] := List.eq_nil_of_length_eq_zero (by simpa using k3)
    subst hn
    exact ⟨v, w, run_app_nil w base t ty e i sz E.ht hi _ n xs hown _, by simpa using hown, World.grownBy.refl w _⟩
  · obtain ⟨v', w', hrun, h2, h3, _⟩ := run_append_own_at (P := P) w base t ty e i z sz bytes E.ht hi hz0 hz1 hz2 hzc hsz v n xs hown ad m c news k3 (by
      intro j u hu
      rcases Nat.eq_zero_or_pos m with h0 | h0
      · subst h0
        have hn : news = [] := List.eq_nil_of_length_eq_zero (by simpa using k3)
        subst hn
        simp at hu
      · obtain ⟨b, o, hA, _, _, hc⟩ := k5 h0
        injection hA with hA
        subst hA
        rw [add_plain]
        exact hc j u hu) h1 (by simp only [maxLen]; omega) hb hbase
    exact ⟨v', w', hrun, h2, h3⟩
theorem wp_app_row {w : World} {ops : Array Oper} {rest : List Oper} {o : Oper} {a : Act} {Q : Exit → Act → World → Prop} {t e : TypeId} {sz bytes : Nat} (E : ElemT P t e sz bytes) (hsz : 0 < sz)
    (hgd : o.guard = none) (s x : Operand) (ho : o.op = .call { callee := .builtin .append, args := #[s, x], argTypes := #[t, t] })
    (base : Nat) (v : Value) (n : Nat) (xs : List Value) (hs : a.eval s = v) (hown : w.ownsRow base e sz v n xs)
    (S : Nat → Prop) (A : Option Addr) (m c : Nat) (news : List Value) (hx : a.eval x = .slice A m c) (hr : Row w S sz m (.slice A m c) news) (h1 : ∀ u ∈ news, u.oneCell' = true) (hl : n + m ≤ 140737488355328) (hb : (n + m) * bytes ≤ 140737488355328) (hbase : base ≤ w.heap.size)
    (h : ∀ v' w', w'.ownsRow base e sz v' (n + m) (xs ++ news) → w.grownBy w' v.ownBlock → wpList P ops Q rest (a.put o.dst v') w') :
    wpList P ops Q (o :: rest) a w := by
  refine wpList_plain hgd fun K hK => ?_
  obtain ⟨v', w', hrun, h2, h3⟩ := run_app_row w base t o.type e sz bytes E hsz v n xs hown S A m c news hr h1 hl hb hbase
  unfold Oper.wp execOp
  simp only [ho, resolve, invoke, builtin, Sem.run_bind, Sem.run_pure, Result.andThen_ok, List.map_toArray, List.map_cons, List.map_nil, hs, hx, hrun]
  exact hK _ _ (h v' w' h2 h3)
end
theorem mut_grown {T : Nat → Prop} {w X Y : World} {row : Option Nat} (h : Mut T w X) (hg : X.grownBy Y row) (hr : ∀ b, row = some b → w.heap.size ≤ b) : Mut T w Y :=
  h.trans (Mut.grown (T := fun b => w.heap.size ≤ b) hg hr) (fun b hb h => absurd hb (by omega))
theorem mut_below {T : Nat → Prop} {w X Y : World} (h : Mut T w X) (hb : Below X.heap.size X Y) : Mut T w Y := h.trans (Mut.of_below hb (fun _ => False)) (fun _ _ h => h.elim)
theorem keysV_len {V : Type} (l : List (KV V)) : (keysV l).length = l.length := by simp [keysV]
theorem intsV_len (l : List (KV Int)) : (intsV l).length = l.length := by simp [intsV]
theorem keysV_one {V : Type} (l : List (KV V)) : ∀ u ∈ keysV l, u.oneCell' = true := by
  intro u hu
  obtain ⟨x, _, rfl⟩ := List.mem_map.1 hu
  rfl
theorem intsV_one (l : List (KV Int)) : ∀ u ∈ intsV l, u.oneCell' = true := by
  intro u hu
  obtain ⟨x, _, rfl⟩ := List.mem_map.1 hu
  rfl
theorem Row.key_at {w : World} {S : Nat → Prop} {n c : Nat} {A : Option Addr} {l : List (KV Int)} (h : Row w S 1 n (.slice A n c) (keysV l)) {k : Nat} (hk : k < l.length) :
    ∃ b o, A = some ⟨b, o, none⟩ ∧ w.cell? ⟨b, o + k, none⟩ = some (.string l[k].1) := by
  have hl := h.len
  rw [keysV_len] at hl
  obtain ⟨b, o, hA, _, _, hc⟩ := h.at_ (by omega)
  exact ⟨b, o, hA, by simpa using hc k 0 _ (show (keysV l)[k * 1 + 0]? = some (.string l[k].1) by simp [keysV, hk])⟩
theorem Row.int_at {w : World} {S : Nat → Prop} {n c : Nat} {A : Option Addr} {l : List (KV Int)} (h : Row w S 1 n (.slice A n c) (intsV l)) {k : Nat} (hk : k < l.length) :
    ∃ b o, A = some ⟨b, o, none⟩ ∧ w.cell? ⟨b, o + k, none⟩ = some (.int .i64 l[k].2) := by
  have hl := h.len
  rw [intsV_len] at hl
  obtain ⟨b, o, hA, _, _, hc⟩ := h.at_ (by omega)
  exact ⟨b, o, hA, by simpa using hc k 0 _ (show (intsV l)[k * 1 + 0]? = some (.int .i64 l[k].2) by simp [intsV, hk])⟩
/-- keys that a machine can hold -/
def KeysOk {V : Type} (l : List (KV V)) : Prop := ∀ x ∈ l, x.1.size ≤ 9223372036854775807
theorem KeysOk.nil {V : Type} : KeysOk ([] : List (KV V)) := fun _ h => by cases h
theorem KeysOk.del {V : Type} {l : List (KV V)} (h : KeysOk l) (k : ByteArray) : KeysOk (delK k l) := by
  unfold delK
  split
  · intro x hx
    rcases List.mem_append.1 hx with hx | hx
    · exact h x (List.mem_of_mem_take hx)
    · exact h x (List.mem_of_mem_drop hx)
  · exact h
theorem KeysOk.put {V : Type} {l : List (KV V)} (h : KeysOk l) {k : ByteArray} (hk : k.size ≤ 9223372036854775807) (v : V) : KeysOk (putK k v l) := by
  unfold putK
  intro x hx
  rcases List.mem_append.1 hx with hx | hx
  · exact h x (List.mem_of_mem_take hx)
  · rcases List.mem_cons.1 hx with rfl | hx
    · exact hk
    · exact h x (List.mem_of_mem_drop hx)
theorem idxK_from {V : Type} (k : ByteArray) (l : List (KV V)) {j : Nat} (hj : j < l.length) : (l.drop j).length ≠ 0 ∧ idxK k (l.drop j) = if lessS l[j].1 k = true then idxK k (l.drop (j + 1)) + 1 else 0 := by
  refine ⟨by rw [List.length_drop]; omega, ?_⟩
  rw [List.drop_eq_getElem_cons hj]
  split
  · rename_i h; exact idxK_cons_lt _ h
  · rename_i h; exact idxK_cons_ge _ (by simpa using h)
end Go.Proofs.Base
namespace Go.Proofs.Ytncgcjfpoableaa.refM
open Go Go.RowKit Go.Proofs.Base Go.Proofs.Ytncgcjfpoableaa

/-- block r is the reference's map that has l; B: the blocks that are maps -/
def RMapP (w : World) (B : Nat → Prop) (r : Nat) (l : List (KV Int)) : Prop :=
  B r ∧ (∀ x, B x → x < w.heap.size) ∧ ∃ A c A' c', w.heap[r]? = some (.cells #[.slice A l.length c, .slice A' l.length c'] 40 (0, 0)) ∧ Row w (fun g => ¬ B g) 1 l.length (.slice A l.length c) (keysV l) ∧ Row w (fun g => ¬ B g) 1 l.length (.slice A' l.length c') (intsV l)
theorem RMapP.mut {T B : Nat → Prop} {w w' : World} {r : Nat} {l : List (KV Int)} (h : RMapP w B r l) (hm : Mut T w w') (hT : ∀ g, T g → B g ∧ g ≠ r) : RMapP w' B r l := by
  obtain ⟨hB, hlt, A, c, A', c', h1, h2, h3⟩ := h
  exact ⟨hB, fun x hx => Nat.lt_of_lt_of_le (hlt x hx) hm.size, A, c, A', c', hm.blk h1 (fun ht => (hT r ht).2 rfl), h2.mut hm (fun g _ hg ht => hg (hT g ht).1), h3.mut hm (fun g _ hg ht => hg (hT g ht).1)⟩
theorem RMapP.below {B : Nat → Prop} {w w' : World} {r : Nat} {l : List (KV Int)} (h : RMapP w B r l) (hb : Below w.heap.size w w') : RMapP w' B r l :=
  h.mut (Mut.of_below hb (fun _ => False)) (fun _ h => h.elim)

set_option maxHeartbeats 1000000 in
theorem find_r (B : Nat → Prop) (r : Nat) (k : ByteArray) (l : List (KV Int)) (w : World) (h : RMapP w B r l) (hk : k.size ≤ 9223372036854775807) (ho : KeysOk l) (hn : l.length ≤ 8796093022208) :
    Calls Try.prog 49 #[.pointer (some ⟨r, 0, none⟩), .string k] w fun e w' => e = .returned (.int .i64 (idxK k l : Nat)) ∧ Below w.heap.size w w' := by
  obtain ⟨_, _, A, c, A', c', hb, hK, hV⟩ := h
  have HB := Lib.hid hb
  have HK := Lib.hid hK
  have HO := Lib.hid ho
  obtain ⟨_, _, e, hnc, hcm⟩ := id hK.open_
  injection e with e1 _ e2
  subst e1 e2
  clear hb hK hV ho
  go_enter Try.func49, Try.ntmps49
  go_wp2
  go_loopw [5] (fun i wr => ∃ j : Nat, j ≤ l.length ∧ i = .int .i64 j ∧ Hid (idxK k l = j + idxK k (l.drop j)) ∧ Below w.heap.size w wr) (fun i _ => l.length - (intOf i).toNat)
  case atStart => exact ⟨0, Nat.zero_le _, rfl, Lib.hid (by simp), Below.refl _ _⟩
  case round =>
    obtain ⟨j, hj, rfl, HI, hbl⟩ := hrel
    have HBL := Lib.hid hbl
    have d0 := cell_of_blk (block_below hbl HB.out) 0
    by_cases hlt : j < l.length
    · obtain ⟨b, o, rfl, c0⟩ := (HK.out.below hbl).key_at hlt
      have hi := (idxK_from k l hlt).2
      have hkj := HO.out _ (List.getElem_mem hlt)
      generalize l[j] = x at *
      have HX := Lib.hid hi
      have hL := ref_Less x.1 k wr hkj hk
      clear hi hbl hkj
      cases hx : lessS x.1 k with
      | true =>
        rw [hx] at hL
        have HY : Hid (idxK k l = (j + 1) + idxK k (l.drop (j + 1))) := Lib.hid (by rw [HI.out, HX.out, if_pos hx]; omega)
        clear hx
        go_wp2_with (go_at_call 14; refine hL.mono ?_; rintro e w1 ⟨rfl, hb1⟩; have HB1 := Lib.hid (below2 HBL.out hb1); clear hb1)
        go_roundw
        case rel => exact ⟨j + 1, by omega, by go_num, HY, HB1.out⟩
        case measure => simp [intOf]; omega
      | false =>
        rw [hx] at hL
        have HY : Hid (idxK k l = j) := Lib.hid (by rw [HI.out, HX.out, if_neg (by simp [hx])]; omega)
        clear hx
        go_wp2_with (go_at_call 14; refine hL.mono ?_; rintro e w1 ⟨rfl, hb1⟩; have HB1 := Lib.hid (below2 HBL.out hb1); clear hb1)
        go_ret
        exact ⟨by rw [HY.out]; exact ret1 rfl, HB1.out⟩
    · obtain rfl : j = l.length := by omega
      have HY : Hid (idxK k l = l.length) := Lib.hid (by rw [HI.out]; simp [idxK])
      clear hbl
      go_wp2
      go_ret
      exact ⟨by rw [HY.out]; exact ret1 rfl, HBL.out⟩

set_option maxHeartbeats 1000000 in
theorem get_r (B : Nat → Prop) (r : Nat) (k : ByteArray) (l : List (KV Int)) (w : World) (h : RMapP w B r l) (hk : k.size ≤ 9223372036854775807) (ho : KeysOk l) (hn : l.length ≤ 8796093022208) :
    Calls Try.prog 35 #[.pointer (some ⟨r, 0, none⟩), .string k] w fun e w' => e = .returned (.tuple #[.int .i64 (getK 0 k l), .bool (hasK k l)]) ∧ Below w.heap.size w w' := by
  have hf := find_r B r k l w h hk ho hn
  obtain ⟨_, _, A, c, A', c', hb, hK, hV⟩ := h
  obtain ⟨_, _, e, hnc, hcm⟩ := id hK.open_
  injection e with e1 _ e2
  subst e1 e2
  obtain ⟨_, _, e, hnc', hcm'⟩ := id hV.open_
  injection e with e1 _ e2
  subst e1 e2
  have HB := Lib.hid hb
  by_cases hi : idxK k l < l.length
  · obtain ⟨b, o, rfl, c0⟩ := hK.key_at hi
    obtain ⟨b', o', rfl, c1⟩ := hV.int_at hi
    have HC0 := Lib.hid c0
    have HC1 := Lib.hid c1
    by_cases hx : l[idxK k l].1 = k
    · have hh : hasK k l = true := hasK_iff.2 ⟨hi, hx⟩
      obtain ⟨hi', hg⟩ := getK_of (d := (0 : Int)) hh
      rw [hg] at HC0 HC1
      have HH := Lib.hid hh
      have hq : (k.toList == k.toList) = true := beq_self_eq_true _
      generalize getK 0 k l = v at *
      generalize idxK k l = i at *
      clear hb hK hV c0 c1 hx hh hg ho
      go_enter Try.func35, Try.ntmps35
      go_wp2_with (go_at_call 49; refine hf.mono ?_; rintro e w1 ⟨rfl, hb1⟩; have d0 := cell_of_blk (block_below hb1 HB.out) 0; have d1 := cell_of_blk (block_below hb1 HB.out) 1; have k0 := cell_below hb1 HC0.out; have k1 := cell_below hb1 HC1.out; have HB1 := Lib.hid hb1; clear hb1)
      go_ret2
      exact ⟨by rw [HH.out]; exact ret2 rfl rfl, HB1.out⟩
    · have hh : hasK k l = false := by
        cases h : hasK k l with
        | false => rfl
        | true => exact absurd (hasK_iff.1 h).2 hx
      have HG := Lib.hid (getK_no (d := (0 : Int)) hh)
      have HH := Lib.hid hh
      generalize l[idxK k l] = x at *
      have hq : (x.1.toList == k.toList) = false := by
        rw [beq_eq_false_iff_ne]; intro h; exact hx (toL_inj (by rwa [toList_toL, toList_toL] at h))
      generalize idxK k l = i at *
      clear hb hK hV c0 c1 hx hh ho
      go_enter Try.func35, Try.ntmps35
      go_wp2_with (go_at_call 49; refine hf.mono ?_; rintro e w1 ⟨rfl, hb1⟩; have d0 := cell_of_blk (block_below hb1 HB.out) 0; have d1 := cell_of_blk (block_below hb1 HB.out) 1; have k0 := cell_below hb1 HC0.out; have HB1 := Lib.hid hb1; clear hb1)
      go_ret2
      exact ⟨by rw [HG.out, HH.out]; exact ret2 rfl rfl, HB1.out⟩
  · have hh : hasK k l = false := by
      cases h : hasK k l with
      | false => rfl
      | true => exact absurd (hasK_iff.1 h).1 hi
    have HG := Lib.hid (getK_no (d := (0 : Int)) hh)
    have HH := Lib.hid hh
    have hi' : idxK k l = l.length := by have := idxK_le k l; omega
    rw [hi'] at hf
    clear hb hK hV hh ho hi hi'
    go_enter Try.func35, Try.ntmps35
    go_wp2_with (go_at_call 49; refine hf.mono ?_; rintro e w1 ⟨rfl, hb1⟩; have d0 := cell_of_blk (block_below hb1 HB.out) 0; have HB1 := Lib.hid hb1; clear hb1)
    go_ret2
    exact ⟨by rw [HG.out, HH.out]; exact ret2 rfl rfl, HB1.out⟩
end Go.Proofs.Ytncgcjfpoableaa.refM
