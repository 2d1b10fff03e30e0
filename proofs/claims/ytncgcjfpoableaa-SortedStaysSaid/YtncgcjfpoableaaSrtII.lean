/-
  The walks of sorted.Map[int]'s ranges: what makes them; the range over a list of pairs.
-/
import Derived.Test.YtncgcjfpoableaaSrtNI
import Derived.Test.YtncgcjfpoableaaSrtL
import Derived.Shelf.Abstract
import Derived.Shelf.RegionOpen
import Derived.OwnWalkIn
import Derived.TacticsInMore
import Derived.LoopNIn
import Derived.LoopIn
import Derived.Outline
set_option linter.unusedVariables false
set_option linter.unusedSimpArgs false
namespace Go.Proofs.Ytncgcjfpoableaa.srtI
open Go Go.RowKit Go.Shelf Go.Proofs.Base
attribute [local go_sem] Oper.semAt_some

/-- what a round over pairs keeps: blocks below n₀ that are none of T, and all blocks of pairs, of pairs' slices, of yields; and what is no cells and was laid since the loop began -/
def KeepC (n₀ : Nat) (T : Nat → Prop) (W W' : World) : Prop :=
  W.heap.size ≤ W'.heap.size ∧ (∀ b c t f, W.heap[b]? = some (.cells c t f) → ((b < n₀ ∧ ¬ T b) ∨ t = 74 ∨ t = 68 ∨ t = 75) → W'.heap[b]? = some (.cells c t f)) ∧
    ∀ b o, n₀ + 2 ≤ b → W.heap[b]? = some o → o.isCells = false → W'.heap[b]? = some o
theorem KeepC.refl (n₀ : Nat) (T : Nat → Prop) (W : World) : KeepC n₀ T W W := ⟨Nat.le_refl _, fun _ _ _ _ h _ => h, fun _ _ _ h _ => h⟩
theorem KeepC.trans {n₀ : Nat} {T : Nat → Prop} {A B C : World} (h : KeepC n₀ T A B) (k : KeepC n₀ T B C) : KeepC n₀ T A C :=
  ⟨Nat.le_trans h.1 k.1, fun b c t f hb ht => k.2.1 b c t f (h.2.1 b c t f hb ht) ht, fun b o hb ho hc => k.2.2 b o hb (h.2.2 b o hb ho hc) hc⟩
theorem KeepC.below {n₀ : Nat} {T : Nat → Prop} {W W' : World} (h : Below W.heap.size W W') : KeepC n₀ T W W' := ⟨h.size, fun b c t f hb _ => block_below h hb, fun b o _ ho _ => block_below h ho⟩
theorem KeepC.turn {n₀ : Nat} {T : Nat → Prop} (W : World) (r : Loop) (o : Obj) (h : W.heap[n₀ + 1]? = some (.loop r)) : KeepC n₀ T W (W.putObj (n₀ + 1) o) := by
  have hg := grownBy_putObj' W (n₀ + 1) o
  refine ⟨hg.size, fun b c t f hb _ => (hg.block b (lt_of_blk hb) (fun e => ?_)).trans hb, fun b o hb ho _ => (hg.block b (lt_of_blk ho) (fun e => by injection e with e; omega)).trans ho⟩
  injection e with e
  subst e
  rw [h] at hb
  cases hb
theorem PRow.keepC {n₀ : Nat} {T S : Nat → Prop} {W W' : World} {A : Option Addr} {n c : Nat} {l : List (KV Int)} (h : PRow W S A n c l) (hk : KeepC n₀ T W W') (hS : ∀ g, S g → g < n₀ ∧ ¬ T g) : PRow W' S A n c l := by
  obtain ⟨hl, A', c', hv, k1, k2, k3, k4, k5⟩ := h
  injection hv with e1 e2 e3
  subst e1 e3
  refine ⟨hl, A, c, rfl, k1, k2, k3, k4, fun hn => ?_⟩
  obtain ⟨g, o, hA, hSg, hlt, hc⟩ := k5 hn
  refine ⟨g, o, hA, hSg, Nat.lt_of_lt_of_le hlt hk.1, fun j u hu => ?_⟩
  have h1 := hc j u hu
  obtain ⟨cs, t, f, hblk⟩ : ∃ cs t f, W.heap[g]? = some (.cells cs t f) := by
    unfold World.cell? at h1
    split at h1
    · exact ⟨_, _, _, by assumption⟩
    · cases h1
  have h2 := hk.2.1 g cs t f hblk (.inl (hS g hSg))
  exact (World.cell?_of_block (w := W) (a := ⟨g, o + j, none⟩) (h2.trans hblk.symm)).trans h1

theorem over_any (a : Fn) (b c : Array Value) (w : World) :
    Calls Try.prog 38 #[.func a b c] w fun e w' => e = .returned (.func (.func 50) #[] #[.pointer (some ⟨w.heap.size, 0, none⟩)]) ∧ w' = w.alloc (.cells #[.func a b c] 71) := by
  go_enter Try.func38, Try.ntmps38
  go_wp2
  go_ret
  exact ⟨rfl, rfl⟩
theorem all_any (p : Option Addr) (w : World) :
    Calls Try.prog 28 #[.pointer p] w fun e w' => e = .returned (.func (.func 50) #[] #[.pointer (some ⟨w.heap.size, 0, none⟩)]) ∧
      w' = w.alloc (.cells #[.func (.func 37) #[.pointer p] #[]] 71) := by
  go_enter Try.func28, Try.ntmps28
  go_wp2_with (go_at_call 38; refine (over_any _ _ _ _).mono ?_; rintro e w' ⟨rfl, rfl⟩)
  go_ret
  exact ⟨rfl, rfl⟩

/-- the range over a list of pairs: whatever lists them -/
theorem over1 (bs fs : Array Value) (m : Nat) (lp Bf n₀ n₂ : Nat) (T S : Nat → Prop) (A : Option Addr) (c : Nat) (l : List (KV Int)) (hS : ∀ g, S g → g < n₀ ∧ ¬ T g)
    (J Jx : List (KV Int) → World → Prop) (W : World) (hBf : W.cell? ⟨Bf, 0, none⟩ = some (.func (.func 37) bs fs))
    (hc : Calls Try.prog 37 (bs ++ fs) W fun e W' => e = .returned (.slice A m c) ∧ Below W.heap.size W W') (hr : PRow W S A m c l)
    (hJ : ∀ W', Below W.heap.size W W' → J [] W') (hJ2 : ∀ pre W1 o, J pre W1 → J pre (World.alloc W1 o))
    (hY : ∀ pre x W1, J pre W1 → pre ++ [x] <+: l → YieldAt Fence.wide 0 Try.prog lp #[.string x.1, (Value.int .i64) x.2] W1 fun e W' =>
      (e = .returned (.bool true) ∧ J (pre ++ [x]) W' ∧ KeepC n₀ T W1 W') ∨ (e = .returned (.bool false) ∧ Jx (pre ++ [x]) W' ∧ KeepsFrom n₂ W1 W')) :
    CallsIn Fence.wide 0 Try.prog 50 #[.func (.yield lp) #[] #[], .pointer (some ⟨Bf, 0, none⟩)] W fun e W' => (∃ v, e = .returned v) ∧
      ((∃ ys, ys = l ∧ J ys W') ∨ (∃ pre, pre <+: l ∧ Jx pre W')) := by
  refine callsIn_of_wp Try.func50 rfl trivial ?_ rfl
  simp only [Try.ntmps50, List.size_toArray, List.length_cons, List.length_nil, Nat.reduceAdd, Nat.reduceSub, Array.replicate_succ, Array.replicate_zero, List.push_toArray, List.append_toArray, List.nil_append, List.cons_append]
  gi_wp2
  refine ⟨trivial, rfl, (callsIn_wide.2 hc).mono ?_⟩
  rintro e W1 ⟨rfl, hb1⟩
  have hm : m < 9223372036854775807 + 1 := by have := hr.le; omega
  have hcn := hr.le
  have hr1 := hr.below hb1
  have hj1 := hJ W1 hb1
  have HR1 := Lib.hid hr1
  have HL := Lib.hid hr.1
  clear hc hBf hb1 hr hr1
  gi_wp2
  gi_loopw [8] (fun i wr => ∃ k : Nat, k ≤ m ∧ i = .int .i64 k ∧ J (l.take k) wr ∧ Hid (PRow wr S A m c l)) (fun i _ => m - (intOf i).toNat)
  case atStart => exact ⟨0, Nat.zero_le _, rfl, hj1, HR1⟩
  case round =>
    obtain ⟨k, hk, rfl, hJs, HR⟩ := hrel
    by_cases hlt : k < m
    · have hkl : k < l.length := by rw [HL.out]; exact hlt
      obtain ⟨g, o, rfl, _, _, c0, c1⟩ := HR.out.at_ hkl
      have HT : Hid (l.take (k + 1) = l.take k ++ [l[k]]) := Lib.hid (by rw [List.take_succ_eq_append_getElem hkl])
      generalize l[k] = x at *
      obtain ⟨fn, tmps, assign, body, hy, hR⟩ := hY _ x (wr.alloc (.cells #[.string x.1, (Value.int .i64) x.2] 74)) (hJ2 _ _ _ hJs) (by rw [← HT.out]; exact List.take_prefix _ _)
      gi_wp2
      refine ⟨rfl, hR.mono ?_⟩
      rintro e W3 (⟨rfl, hJ3, hk3⟩ | ⟨rfl, hJx3, -⟩)
      · have HR3 := Lib.hid ((PRow.below HR.out ((Below.refl wr.heap.size wr).alloc (Nat.le_refl _) _)).keepC hk3 hS)
        clear hk3
        gi_wp2
        go_roundw
        case rel => exact ⟨k + 1, by omega, by simp, by rw [HT.out]; exact hJ3, HR3⟩
        case measure => simp [intOf]; omega
      · gi_wp2
        refine bodyPost_ret (results_none rfl _ _ _) rfl ?_
        exact ⟨⟨_, rfl⟩, .inr ⟨_, by rw [← HT.out]; exact List.take_prefix _ _, hJx3⟩⟩
    · obtain rfl : k = m := by omega
      gi_wp2
      go_end0
      exact ⟨⟨_, rfl⟩, .inl ⟨_, rfl, by rw [List.take_of_length_le (by rw [HL.out]; exact Nat.le_refl _)] at hJs; exact hJs⟩⟩

/-- the range over a list of pairs: whatever lists them -/
theorem over1f (bs fs : Array Value) (m : Nat) (lp Bf n₀ n₂ : Nat) (T S : Nat → Prop) (A : Option Addr) (c : Nat) (l : List (KV Int)) (hS : ∀ g, S g → g < n₀ ∧ ¬ T g)
    (J Jx : List (KV Int) → World → Prop) (W : World) (hBf : W.cell? ⟨Bf, 0, none⟩ = some (.func (.func 39) bs fs))
    (hc : Calls Try.prog 39 (bs ++ fs) W fun e W' => e = .returned (.slice A m c) ∧ Below W.heap.size W W') (hr : PRow W S A m c l)
    (hJ : ∀ W', Below W.heap.size W W' → J [] W') (hJ2 : ∀ pre W1 o, J pre W1 → J pre (World.alloc W1 o))
    (hY : ∀ pre x W1, J pre W1 → pre ++ [x] <+: l → YieldAt Fence.wide 0 Try.prog lp #[.string x.1, (Value.int .i64) x.2] W1 fun e W' =>
      (e = .returned (.bool true) ∧ J (pre ++ [x]) W' ∧ KeepC n₀ T W1 W') ∨ (e = .returned (.bool false) ∧ Jx (pre ++ [x]) W' ∧ KeepsFrom n₂ W1 W')) :
    CallsIn Fence.wide 0 Try.prog 50 #[.func (.yield lp) #[] #[], .pointer (some ⟨Bf, 0, none⟩)] W fun e W' => (∃ v, e = .returned v) ∧
      ((∃ ys, ys = l ∧ J ys W') ∨ (∃ pre, pre <+: l ∧ Jx pre W')) := by
  refine callsIn_of_wp Try.func50 rfl trivial ?_ rfl
  simp only [Try.ntmps50, List.size_toArray, List.length_cons, List.length_nil, Nat.reduceAdd, Nat.reduceSub, Array.replicate_succ, Array.replicate_zero, List.push_toArray, List.append_toArray, List.nil_append, List.cons_append]
  gi_wp2
  refine ⟨trivial, rfl, (callsIn_wide.2 hc).mono ?_⟩
  rintro e W1 ⟨rfl, hb1⟩
  have hm : m < 9223372036854775807 + 1 := by have := hr.le; omega
  have hcn := hr.le
  have hr1 := hr.below hb1
  have hj1 := hJ W1 hb1
  have HR1 := Lib.hid hr1
  have HL := Lib.hid hr.1
  clear hc hBf hb1 hr hr1
  gi_wp2
  gi_loopw [8] (fun i wr => ∃ k : Nat, k ≤ m ∧ i = .int .i64 k ∧ J (l.take k) wr ∧ Hid (PRow wr S A m c l)) (fun i _ => m - (intOf i).toNat)
  case atStart => exact ⟨0, Nat.zero_le _, rfl, hj1, HR1⟩
  case round =>
    obtain ⟨k, hk, rfl, hJs, HR⟩ := hrel
    by_cases hlt : k < m
    · have hkl : k < l.length := by rw [HL.out]; exact hlt
      obtain ⟨g, o, rfl, _, _, c0, c1⟩ := HR.out.at_ hkl
      have HT : Hid (l.take (k + 1) = l.take k ++ [l[k]]) := Lib.hid (by rw [List.take_succ_eq_append_getElem hkl])
      generalize l[k] = x at *
      obtain ⟨fn, tmps, assign, body, hy, hR⟩ := hY _ x (wr.alloc (.cells #[.string x.1, (Value.int .i64) x.2] 74)) (hJ2 _ _ _ hJs) (by rw [← HT.out]; exact List.take_prefix _ _)
      gi_wp2
      refine ⟨rfl, hR.mono ?_⟩
      rintro e W3 (⟨rfl, hJ3, hk3⟩ | ⟨rfl, hJx3, -⟩)
      · have HR3 := Lib.hid ((PRow.below HR.out ((Below.refl wr.heap.size wr).alloc (Nat.le_refl _) _)).keepC hk3 hS)
        clear hk3
        gi_wp2
        go_roundw
        case rel => exact ⟨k + 1, by omega, by simp, by rw [HT.out]; exact hJ3, HR3⟩
        case measure => simp [intOf]; omega
      · gi_wp2
        refine bodyPost_ret (results_none rfl _ _ _) rfl ?_
        exact ⟨⟨_, rfl⟩, .inr ⟨_, by rw [← HT.out]; exact List.take_prefix _ _, hJx3⟩⟩
    · obtain rfl : k = m := by omega
      gi_wp2
      go_end0
      exact ⟨⟨_, rfl⟩, .inl ⟨_, rfl, by rw [List.take_of_length_le (by rw [HL.out]; exact Nat.le_refl _)] at hJs; exact hJs⟩⟩

theorem own_below {β : Type} {W W' : World} {J : β → World → Prop} {s : β} (hJ : OwnFrom W.heap.size J) (h : J s W) (hb : Below W.heap.size W W') : J s W' := hJ s W W' none h (grown_of_below hb none) (fun _ e => by cases e)
/-- a slice of pairs that lies where a round leaves it alone -/
abbrev LRow (n₀ : Nat) (T : Nat → Prop) (w : World) (A : Option Addr) (n c : Nat) (l : List (KV Int)) : Prop := PRow w (fun g => g < n₀ ∧ ¬ T g) A n c l
/-- All's range -/
theorem all_stops (p : Option Addr) (Bf n₀ n₂ : Nat) (T : Nat → Prop) (A : Option Addr) (m c : Nat) (l : List (KV Int)) (w : World)
    (hBf : w.cell? ⟨Bf, 0, none⟩ = some (.func (.func 37) #[.pointer p] #[])) (hH : Holds w p (.slice A m c)) (hr : LRow n₀ T w A m c l) :
    SeqN Try.prog 50 #[.pointer (some ⟨Bf, 0, none⟩)] (fun x : KV Int => #[Value.string x.1, (Value.int .i64) x.2]) (KeepC n₀ T) (fun ys => ys = l) (fun pre => pre <+: l) (fun pre => pre <+: l) n₂ w := by
  intro lp J Jx W hW _ hJ _ hY h0
  refine over1 #[.pointer p] #[] m lp Bf n₀ n₂ T _ A c l (fun _ h => h) J Jx W (cell_below hW hBf) ?_ (hr.below hW) (fun W' hb => own_below hJ h0 hb) (fun pre W1 o h => hJ.alloc _ h) hY
  exact (pairs_any p A m c W (hH.below hW)).mono (fun e W' h => ⟨h.1, h.2 ▸ Below.refl _ _⟩)
end Go.Proofs.Ytncgcjfpoableaa.srtI
