/-
  Merged from GAx8, LawC, RefTk, RefTV, LawV, LawR, RefW, RTake, RTakeC.
-/
import Derived.Test.YtcfdbdmefdffdaaGAx2
import Derived.Test.YtcfdbdmefdffdaaGAx6
import Derived.Test.YtcfdbdmefdffdaaGAx7
import Derived.Test.YtcfdbdmefdffdaaGen
import Derived.Test.YtcfdbdmefdffdaaGAx5
import Derived.Test.YtcfdbdmefdffdaaValD
namespace Go.Proofs.Ytcfdbdmefdffdaa.GA
open Go.RowKit Go.Proofs.YtcfdbdmefdffdaaW.PrintWords Go.Proofs.YtcfdbdmefdffdaaW.PrintLast Go.Proofs.YtcfdbdmefdffdaaW.PrintMore
attribute [local go_sem] max2_int min2_int max_two min_two max_three min_three max_four min_four   -- for this text's walks alone
set_option linter.unusedVariables false
set_option linter.unusedSimpArgs false
attribute [local go_sem high] eqA52
def wherryref09_Same.l0 : Nat → List (S52) → List (S52) → Int → Option (Bool)
  | 0, _, _, _ => none
  | k + 1, x0, x1, x5 => if x5 < (x0.length : Int) then (if 0 ≤ x5 then (if x5 < (x1.length : Int) then (if (!((((rd_T52 x0 x5).f0).toList) == (((rd_T52 x1 x5).f0).toList)) || ((!(((rd_T52 x0 x5).f1.f0) == ((rd_T52 x1 x5).f1.f0)) || (!(((rd_T52 x0 x5).f1.f1) == ((rd_T52 x1 x5).f1.f1)) || (!((((rd_T52 x0 x5).f1.f2).toList) == (((rd_T52 x1 x5).f1.f2).toList))))))) = true then (some false) else (wherryref09_Same.l0 k x0 x1 (wrap64 (x5 + 1)))) else (none)) else (none)) else (some true)
def wherryref09_Same.f (k : Nat) (l0 : List (S52)) (l1 : List (S52)) : Option (Bool) := if (l0.length : Int) = (l1.length : Int) then (wherryref09_Same.l0 k l0 l1 0) else (some false)
theorem wherryref09_Same.mono_l : ∀ k, (∀ y0 y1 y2, LeO (wherryref09_Same.l0 k y0 y1 y2) (wherryref09_Same.l0 (k + 1) y0 y1 y2))
  | 0 => fun _ _ _ r h => by simp [wherryref09_Same.l0] at h
  | k + 1 => by
    have ih0 := wherryref09_Same.mono_l k
    · intro y0 y1 y2
      unfold wherryref09_Same.l0
      repeat' first
      | (with_reducible exact ih0 _ _ _)
      | (with_reducible exact LeO.refl _)
      | (with_reducible exact LeO.none _)
      | (with_reducible refine LeO.ite ?_ ?_)
      | (with_reducible refine LeO.bind ?_ (fun _ => ?_))
      | exact ih0 _ _ _
      | exact LeO.none _
      | refine LeO.ite ?_ ?_
      | refine LeO.bind ?_ (fun _ => ?_)
theorem wherryref09_Same.mono : ∀ a0 a1 k, LeO (wherryref09_Same.f k a0 a1) (wherryref09_Same.f (k + 1) a0 a1) := by
  intro a0 a1 k
  have ih0 := wherryref09_Same.mono_l k
  unfold wherryref09_Same.f
  repeat' first
      | (with_reducible exact ih0 _ _ _)
      | (with_reducible exact LeO.refl _)
      | (with_reducible exact LeO.none _)
      | (with_reducible refine LeO.ite ?_ ?_)
      | (with_reducible refine LeO.bind ?_ (fun _ => ?_))
      | exact ih0 _ _ _
      | exact LeO.none _
      | refine LeO.ite ?_ ?_
      | refine LeO.bind ?_ (fun _ => ?_)
set_option maxHeartbeats 8000000 in
set_option maxRecDepth 100000 in
theorem wherryref09_Same.calls (k : Nat) (A0 : Option Addr) (c0 : Nat) (l0 : List (S52)) (A1 : Option Addr) (c1 : Nat) (l1 : List (S52)) (r : Bool) (w : World) (hr0 : Kd.C k52 w A0 l0.length l0) (hc0 : l0.length ≤ c0) (hr1 : Kd.C k52 w A1 l1.length l1) (hc1 : l1.length ≤ c1) (h : wherryref09_Same.f k l0 l1 = some r) :
    Calls Try.prog 24 #[.slice A0 l0.length c0, .slice A1 l1.length c1] w fun e w' => e = .returned (.bool r) ∧ Drawn0 w w' := by
  have hu52 := Try.underlying52
  have HR0 := Aside0.mk hr0
  have HC0 := Aside0.mk hc0
  clear hr0 hc0
  have HR1 := Aside0.mk hr1
  have HC1 := Aside0.mk hc1
  clear hr1 hc1
  have H : (if (l0.length : Int) = (l1.length : Int) then (wherryref09_Same.l0 k l0 l1 0) else (some false)) = some r := h
  clear h
  by_cases c3 : (l0.length : Int) = (l1.length : Int)
  · rw [if_pos c3] at H
    have c3b0 : ((l0.length : Int) == (l1.length : Int)) = true := beq_iff_eq.mpr c3
    have c3b1 : ((l0.length : Int) != (l1.length : Int)) = false := bne_eq_false_iff_eq.mpr c3
    have c3b2 : (l0.length == l1.length) = true := by first | simpa using c3 | (simp at c3 ⊢; omega)
    clear c3
    have H' := Aside0.mk H
    clear H
    go_enter Try.func24, Try.ntmps24
    go_wp2
    repeat (go_quiet (fail); try go_wp2)
    go_loopg [5] k (fun kq v5 w' => ∃ (x5_1 : Int), v5 = .int .i64 x5_1 ∧ Aside0 (wherryref09_Same.l0 kq l0 l1 x5_1 = some r) ∧ Aside0 (kq ≤ k) ∧ Drawn0 w w')
    case atStart => exact ⟨(0), (by first | rfl | (simp; done) | (simp [*]; done)), H', ⟨Nat.le_refl _⟩, by repeat (first | exact Drawn0.refl _ | apply Drawn0.step)⟩
    case round =>
      clear H'
      try clear c1
      try clear c2
      try clear p2
      try clear c3
      try clear c3b0
      try clear c3b1
      try clear c3b2
      obtain ⟨x5_1, rfl, HA, HK1, ⟨m1, rfl⟩⟩ := hrel
      cases gk with
      | zero => exact absurd HA.out (by simp [wherryref09_Same.l0])
      | succ k1 =>
        have H := HA.out
        clear HA
        simp only [wherryref09_Same.l0] at H
        by_cases c4 : x5_1 < (l0.length : Int)
        · rw [if_pos c4] at H
          have c4b0 : decide (x5_1 < (l0.length : Int)) = true := decide_eq_true c4
          clear c4
          by_cases c5 : 0 ≤ x5_1
          · rw [if_pos c5] at H
            have c5b0 : decide (0 ≤ x5_1) = true := decide_eq_true c5
            clear c5
            by_cases c6 : x5_1 < (l1.length : Int)
            · rw [if_pos c6] at H
              have c6b0 : decide (x5_1 < (l1.length : Int)) = true := decide_eq_true c6
              clear c6
              by_cases c7 : (!((((rd_T52 l0 x5_1).f0).toList) == (((rd_T52 l1 x5_1).f0).toList)) || ((!(((rd_T52 l0 x5_1).f1.f0) == ((rd_T52 l1 x5_1).f1.f0)) || (!(((rd_T52 l0 x5_1).f1.f1) == ((rd_T52 l1 x5_1).f1.f1)) || (!((((rd_T52 l0 x5_1).f1.f2).toList) == (((rd_T52 l1 x5_1).f1.f2).toList))))))) = true
              · rw [if_pos c7] at H
                have c7b0 : (!((((rd_T52 l0 x5_1).f0).toList) == (((rd_T52 l1 x5_1).f0).toList)) || ((!(((rd_T52 l0 x5_1).f1.f0) == ((rd_T52 l1 x5_1).f1.f0)) || (!(((rd_T52 l0 x5_1).f1.f1) == ((rd_T52 l1 x5_1).f1.f1)) || (!((((rd_T52 l0 x5_1).f1.f2).toList) == (((rd_T52 l1 x5_1).f1.f2).toList))))))) = true := c7
                clear c7
                obtain rfl := Option.some.inj H
                have p143 : 0 ≤ (x5_1 : Int) := of_decide_eq_true (by first | (with_reducible assumption) | assumption)
                have q143 : x5_1 < (l0.length : Int) := of_decide_eq_true (by first | (with_reducible assumption) | assumption)
                obtain ⟨ad143, e143, hx143_0, hx143_1, hx143_2, hx143_3⟩ := at_T52 HR0.out x5_1 p143 q143
                cases e143
                replace p143 := eq_true p143
                replace q143 := eq_true q143
                have p144 : 0 ≤ (x5_1 : Int) := of_decide_eq_true (by first | (with_reducible assumption) | assumption)
                have q144 : x5_1 < (l1.length : Int) := of_decide_eq_true (by first | (with_reducible assumption) | assumption)
                obtain ⟨ad144, e144, hx144_0, hx144_1, hx144_2, hx144_3⟩ := at_T52 HR1.out x5_1 p144 q144
                cases e144
                replace p144 := eq_true p144
                replace q144 := eq_true q144
                go_wp2
                repeat (go_quiet (fail); try go_wp2)
                go_ret
                exact ⟨by first | rfl | (simp; done) | (simp [*]; done), by repeat (first | exact Drawn0.refl _ | apply Drawn0.step)⟩
              · rw [if_neg c7] at H
                have c7b0 : (!((((rd_T52 l0 x5_1).f0).toList) == (((rd_T52 l1 x5_1).f0).toList)) || ((!(((rd_T52 l0 x5_1).f1.f0) == ((rd_T52 l1 x5_1).f1.f0)) || (!(((rd_T52 l0 x5_1).f1.f1) == ((rd_T52 l1 x5_1).f1.f1)) || (!((((rd_T52 l0 x5_1).f1.f2).toList) == (((rd_T52 l1 x5_1).f1.f2).toList))))))) = false := by simpa using c7
                clear c7
                have H' := Aside0.mk H
                clear H
                have p143 : 0 ≤ (x5_1 : Int) := of_decide_eq_true (by first | (with_reducible assumption) | assumption)
                have q143 : x5_1 < (l0.length : Int) := of_decide_eq_true (by first | (with_reducible assumption) | assumption)
                obtain ⟨ad143, e143, hx143_0, hx143_1, hx143_2, hx143_3⟩ := at_T52 HR0.out x5_1 p143 q143
                cases e143
                replace p143 := eq_true p143
                replace q143 := eq_true q143
                have p144 : 0 ≤ (x5_1 : Int) := of_decide_eq_true (by first | (with_reducible assumption) | assumption)
                have q144 : x5_1 < (l1.length : Int) := of_decide_eq_true (by first | (with_reducible assumption) | assumption)
                obtain ⟨ad144, e144, hx144_0, hx144_1, hx144_2, hx144_3⟩ := at_T52 HR1.out x5_1 p144 q144
                cases e144
                replace p144 := eq_true p144
                replace q144 := eq_true q144
                go_wp2
                repeat (go_quiet (fail); try go_wp2)
                go_roundg k1
                case measure => have := HK1.out; omega
                case rel => exact ⟨(wrap64 (x5_1 + 1)), (by first | rfl | (simp; done) | (simp [*]; done)), H', ⟨by have := HK1.out; omega⟩, by repeat (first | exact Drawn0.refl _ | apply Drawn0.step)⟩
            · rw [if_neg c6] at H
              exact absurd H (by simp)
          · rw [if_neg c5] at H
            exact absurd H (by simp)
        · rw [if_neg c4] at H
          have c4b0 : decide (x5_1 < (l0.length : Int)) = false := decide_eq_false c4
          clear c4
          obtain rfl := Option.some.inj H
          go_wp2
          repeat (go_quiet (fail); try go_wp2)
          go_ret
          exact ⟨by first | rfl | (simp; done) | (simp [*]; done), by repeat (first | exact Drawn0.refl _ | apply Drawn0.step)⟩
  · rw [if_neg c3] at H
    have c3b0 : ((l0.length : Int) == (l1.length : Int)) = false := beq_eq_false_iff_ne.mpr c3
    have c3b1 : ((l0.length : Int) != (l1.length : Int)) = true := bne_iff_ne.mpr c3
    have c3b2 : (l0.length == l1.length) = false := by first | simpa using c3 | (simp at c3 ⊢; omega)
    obtain rfl := Option.some.inj H
    go_enter Try.func24, Try.ntmps24
    go_wp2
    repeat (go_quiet (fail); try go_wp2)
    go_ret
    exact ⟨by first | rfl | (simp; done) | (simp [*]; done), by repeat (first | exact Drawn0.refl _ | apply Drawn0.step)⟩
def IsS64 (w0 W : World) (g : Nat) (f0 : ByteArray) (f1 : Int) : Prop := W.heap[g]? = some (.cells #[.string f0, .int .i64 f1] 64 (0, 0)) ∧ w0.heap.size ≤ g
theorem IsS64.grown {w0 W : World} {g : Nat} {f0 : ByteArray} {f1 : Int} {W1 : World} {row : Option Nat} (h : IsS64 w0 W g f0 f1) (hw : W.grownBy W1 row) (hne : some g ≠ row) : IsS64 w0 W1 g f0 f1 := by
  obtain ⟨hb, hg⟩ := h
  exact ⟨blk_grown hb hw hne, hg⟩
theorem IsS64.kept {w0 W : World} {g : Nat} {f0 : ByteArray} {f1 : Int} {W1 : World} {S : Nat → Prop} (h : IsS64 w0 W g f0 f1) (hk : Kept W W1 S) (hne : ¬ S g) : IsS64 w0 W1 g f0 f1 := by
  obtain ⟨hb, hg⟩ := h
  exact ⟨blk_kept hb hk hne, hg⟩
theorem IsS64.below {w0 W : World} {g : Nat} {f0 : ByteArray} {f1 : Int} {W1 : World} (h : IsS64 w0 W g f0 f1) (hw : Below W.heap.size W W1) : IsS64 w0 W1 g f0 f1 := h.grown (grown_of_below hw none) (by simp)
theorem IsS64.alloc {w0 W : World} {g : Nat} {f0 : ByteArray} {f1 : Int} (h : IsS64 w0 W g f0 f1) (o : Obj) : IsS64 w0 (W.alloc o) g f0 f1 := h.below (below_alloc (Below.refl _ _) o)
theorem IsS64.drewN {w0 W : World} {g : Nat} {f0 : ByteArray} {f1 : Int} (h : IsS64 w0 W g f0 f1) (m : Nat) : IsS64 w0 (W.drewN m) g f0 f1 := h
theorem IsS64.drew {w0 W : World} {g : Nat} {f0 : ByteArray} {f1 : Int} (h : IsS64 w0 W g f0 f1) : IsS64 w0 W.drew g f0 f1 := h
theorem IsS64.at_ {w0 W : World} {g : Nat} {f0 : ByteArray} {f1 : Int} {w' : World} {m : Nat} (hq : W.drewN m = w') (h : IsS64 w0 W g f0 f1) : IsS64 w0 w' g f0 f1 := by subst hq; exact IsS64.drewN h m
theorem IsS64.apart {w0 W : World} {g : Nat} {f0 : ByteArray} {f1 : Int} {α : Type} {d : Kd α} {e : Nat} {base : Nat} {ok : Nat → Prop} {v : Value} {xs : List α} (h : IsS64 w0 W g f0 f1) (ho : d.R e W base ok v xs) (ht : ∀ q, q ∈ e :: d.E → q ≠ 64) : d.R e W base (fun k => ok k ∧ k ≠ g) v xs := by
  obtain ⟨hb, hg⟩ := h
  exact Kd.R_types ho hb ht
theorem IsS64.own_ne {w0 W : World} {g : Nat} {f0 : ByteArray} {f1 : Int} {α : Type} {d : Kd α} {e : Nat} {base : Nat} {ok : Nat → Prop} {v : Value} {xs : List α} (h : IsS64 w0 W g f0 f1) (ho : d.R e W base ok v xs) (ht : e ≠ 64) : some g ≠ v.ownBlock := by
  obtain ⟨hb, hg⟩ := h
  exact Kd.R_ne ho hb ht
theorem IsS64.lt {w0 W : World} {g : Nat} {f0 : ByteArray} {f1 : Int} (h : IsS64 w0 W g f0 f1) : g < W.heap.size := by
  obtain ⟨hb, hg⟩ := h
  exact blk_lt hb
theorem IsS64.ge {w0 W : World} {g : Nat} {f0 : ByteArray} {f1 : Int} (h : IsS64 w0 W g f0 f1) : w0.heap.size ≤ g := by
  obtain ⟨hb, hg⟩ := h
  exact hg
theorem IsS64.far {w0 W : World} {g : Nat} {f0 : ByteArray} {f1 : Int} {p : Addr} (h : IsS64 w0 W g f0 f1) (hne : g ≠ p.block) (u : Value) : IsS64 w0 (W.setCell p u) g f0 f1 := by
  obtain ⟨hb, hg⟩ := h
  exact ⟨blk_far hb hne u, hg⟩
theorem cellS64_0 {W : World} {g : Nat} {f0 : ByteArray} {f1 : Int} (h : W.heap[g]? = some (.cells #[.string f0, .int .i64 f1] 64 (0, 0))) : W.cell? ⟨g, 0, none⟩ = some (.string f0) := (blk_cell h 0).trans rfl
theorem IsS64.set_0 {w0 W : World} {g : Nat} {f0 : ByteArray} {f1 : Int} (h : IsS64 w0 W g f0 f1) (x : ByteArray) : IsS64 w0 (W.setCell ⟨g, 0, none⟩ (.string x)) g x f1 := by
  obtain ⟨hb, hg⟩ := h
  exact ⟨by simpa using blk_set hb 0 (.string x), hg⟩
theorem cellS64_1 {W : World} {g : Nat} {f0 : ByteArray} {f1 : Int} (h : W.heap[g]? = some (.cells #[.string f0, .int .i64 f1] 64 (0, 0))) : W.cell? ⟨g, 1, none⟩ = some (.int .i64 f1) := (blk_cell h 1).trans rfl
theorem IsS64.set_1 {w0 W : World} {g : Nat} {f0 : ByteArray} {f1 : Int} (h : IsS64 w0 W g f0 f1) (x : Int) : IsS64 w0 (W.setCell ⟨g, 1, none⟩ (.int .i64 x)) g f0 x := by
  obtain ⟨hb, hg⟩ := h
  exact ⟨by simpa using blk_set hb 1 (.int .i64 x), hg⟩
theorem IsS64.new (w0 W : World) (f0 : ByteArray) (f1 : Int) (hB : Below w0.heap.size w0 W) : IsS64 w0 (W.alloc (.cells #[.string f0, .int .i64 f1] 64)) W.heap.size f0 f1 := ⟨by simpa using heap_alloc_new W _, hB.size⟩
def wherryref01_Reader_Byte.f (s0_0 : ByteArray) (s0_1 : Int) : Option (Int × ByteArray × Int) := if 0 ≤ s0_1 ∧ s0_0.size ≤ 9223372036854775807 then some (((Base.rdByte s0_0 s0_1.toNat).1 : Int), (Base.rdByte s0_0 s0_1.toNat).2.1, ((Base.rdByte s0_0 s0_1.toNat).2.2 : Int)) else none
theorem wherryref01_Reader_Byte.calls (g : Nat) (s0_0 : ByteArray) (s0_1 : Int) (r1 : Int) (r2 : ByteArray) (r3 : Int) (w0 w : World) (hI : IsS64 w0 w g s0_0 s0_1) (hB : Below w0.heap.size w0 w) (h : wherryref01_Reader_Byte.f s0_0 s0_1 = some (r1, r2, r3)) :
    Calls Try.prog 32 #[.pointer (some ⟨g, 0, none⟩)] w fun e w' => e = .returned (.int .u8 r1) ∧ IsS64 w0 w' g r2 r3 ∧ Below w0.heap.size w0 w' ∧ KeepBut w w' g none := by
  unfold wherryref01_Reader_Byte.f at h
  split at h
  · rename_i hw
    simp only [Option.some.injEq, Prod.mk.injEq] at h
    obtain ⟨rfl, rfl, rfl⟩ := h
    have hr : RdrR w g s0_0 s0_1.toNat := by unfold RdrR; rw [Int.toNat_of_nonneg hw.1]; exact hI.1
    refine (refrd_Byte g s0_0 s0_1.toNat w hr hw.2).mono ?_
    rintro e w' ⟨rfl, hr', hm⟩
    exact ⟨rfl, ⟨hr', hI.2⟩, below_mut hB hm hI.2, keep_mut hm⟩
  · cases h
def wherryref01_Reader_Int.f (s0_0 : ByteArray) (s0_1 : Int) : Option (Int × ByteArray × Int) := if 0 ≤ s0_1 ∧ s0_0.size ≤ 9223372036854775807 then some (((Base.rdInt s0_0 s0_1.toNat).1), (Base.rdInt s0_0 s0_1.toNat).2.1, ((Base.rdInt s0_0 s0_1.toNat).2.2 : Int)) else none
theorem wherryref01_Reader_Int.calls (g : Nat) (s0_0 : ByteArray) (s0_1 : Int) (r1 : Int) (r2 : ByteArray) (r3 : Int) (w0 w : World) (hI : IsS64 w0 w g s0_0 s0_1) (hB : Below w0.heap.size w0 w) (h : wherryref01_Reader_Int.f s0_0 s0_1 = some (r1, r2, r3)) :
    Calls Try.prog 34 #[.pointer (some ⟨g, 0, none⟩)] w fun e w' => e = .returned (.int .i64 r1) ∧ IsS64 w0 w' g r2 r3 ∧ Below w0.heap.size w0 w' ∧ KeepBut w w' g none := by
  unfold wherryref01_Reader_Int.f at h
  split at h
  · rename_i hw
    simp only [Option.some.injEq, Prod.mk.injEq] at h
    obtain ⟨rfl, rfl, rfl⟩ := h
    have hr : RdrR w g s0_0 s0_1.toNat := by unfold RdrR; rw [Int.toNat_of_nonneg hw.1]; exact hI.1
    refine (refrd_Int g s0_0 s0_1.toNat w hr hw.2).mono ?_
    rintro e w' ⟨rfl, hr', hm⟩
    exact ⟨rfl, ⟨hr', hI.2⟩, below_mut hB hm hI.2, keep_mut hm⟩
  · cases h
def wherryref01_Reader_Text.f (s0_0 : ByteArray) (s0_1 : Int) (a1 : Int) : Option (ByteArray × ByteArray × Int) := if 0 ≤ s0_1 ∧ s0_0.size ≤ 9223372036854775807 ∧ -9223372036854775808 ≤ a1 ∧ a1 ≤ 9223372036854775807 then some (((Base.rdText a1 s0_0 s0_1.toNat).1), (Base.rdText a1 s0_0 s0_1.toNat).2.1, ((Base.rdText a1 s0_0 s0_1.toNat).2.2 : Int)) else none
theorem wherryref01_Reader_Text.calls (g : Nat) (s0_0 : ByteArray) (s0_1 : Int) (a1 : Int) (r1 : ByteArray) (r2 : ByteArray) (r3 : Int) (w0 w : World) (hI : IsS64 w0 w g s0_0 s0_1) (hB : Below w0.heap.size w0 w) (h : wherryref01_Reader_Text.f s0_0 s0_1 a1 = some (r1, r2, r3)) :
    Calls Try.prog 35 #[.pointer (some ⟨g, 0, none⟩), .int .i64 a1] w fun e w' => e = .returned (.string r1) ∧ IsS64 w0 w' g r2 r3 ∧ Below w0.heap.size w0 w' ∧ KeepBut w w' g none := by
  unfold wherryref01_Reader_Text.f at h
  split at h
  · rename_i hw
    simp only [Option.some.injEq, Prod.mk.injEq] at h
    obtain ⟨rfl, rfl, rfl⟩ := h
    have hr : RdrR w g s0_0 s0_1.toNat := by unfold RdrR; rw [Int.toNat_of_nonneg hw.1]; exact hI.1
    refine (refrd_Text g s0_0 s0_1.toNat a1 w hr hw.2.1 hw.2.2.1 hw.2.2.2).mono ?_
    rintro e w' ⟨rfl, hr', hm⟩
    exact ⟨rfl, ⟨hr', hI.2⟩, below_mut hB hm hI.2, keep_mut hm⟩
  · cases h
def wherryref09_Take.f (s0_0 : ByteArray) (s0_1 : Int) : Option (Int × Int × ByteArray × Bool × ByteArray × Int) := (wherryref01_Reader_Byte.f s0_0 s0_1).bind fun bt149 => (if (wrap64 (bt149.1)) = 3 then ((wherryref01_Reader_Text.f bt149.2.1 bt149.2.2 1024).bind fun bt153 => ((wherryref09_May.f (wrap64 (bt149.1)) 0 bt153.1).bind fun t156 => (if bt153.2.2 = 0 then (if t156 = true then (some (wrap64 (bt149.1), 0, bt153.1, true, bt153.2.1, bt153.2.2)) else (some (0, 0, (⟨#[]⟩ : ByteArray), false, bt153.2.1, bt153.2.2))) else (some (0, 0, (⟨#[]⟩ : ByteArray), false, bt153.2.1, bt153.2.2))))) else ((wherryref01_Reader_Int.f bt149.2.1 bt149.2.2).bind fun bt157 => ((wherryref09_May.f (wrap64 (bt149.1)) bt157.1 (⟨#[]⟩ : ByteArray)).bind fun t160 => (if bt157.2.2 = 0 then (if t160 = true then (some (wrap64 (bt149.1), bt157.1, (⟨#[]⟩ : ByteArray), true, bt157.2.1, bt157.2.2)) else (some (0, 0, (⟨#[]⟩ : ByteArray), false, bt157.2.1, bt157.2.2))) else (some (0, 0, (⟨#[]⟩ : ByteArray), false, bt157.2.1, bt157.2.2))))))
set_option maxHeartbeats 8000000 in
set_option maxRecDepth 100000 in
theorem wherryref09_Take.calls (g : Nat) (s0_0 : ByteArray) (s0_1 : Int) (r1 : Int) (r2 : Int) (r3 : ByteArray) (r4 : Bool) (r5 : ByteArray) (r6 : Int) (w0 w : World) (hI : IsS64 w0 w g s0_0 s0_1) (hB : Below w0.heap.size w0 w) (h : wherryref09_Take.f s0_0 s0_1 = some (r1, r2, r3, r4, r5, r6)) :
    Calls Try.prog 67 #[.pointer (some ⟨g, 0, none⟩)] w fun e w' => e = .returned (.tuple #[.agg #[.int .i64 r1, .int .i64 r2, .string r3], .bool r4]) ∧ IsS64 w0 w' g r5 r6 ∧ Below w0.heap.size w0 w' ∧ KeepBut w w' g none := by
  have hu50 := Try.underlying50
  have HI0 := Aside0.mk hI
  have HK := Aside0.mk (KeepBut.refl w g none)
  have HL := Aside0.mk hB.size
  clear hI
  have HW0 := Aside0.mk hB.size
  have HB := Aside0.mk hB
  clear hB
  have H : ((wherryref01_Reader_Byte.f s0_0 s0_1).bind fun bt149 => (if (wrap64 (bt149.1)) = 3 then ((wherryref01_Reader_Text.f bt149.2.1 bt149.2.2 1024).bind fun bt153 => ((wherryref09_May.f (wrap64 (bt149.1)) 0 bt153.1).bind fun t156 => (if bt153.2.2 = 0 then (if t156 = true then (some (wrap64 (bt149.1), 0, bt153.1, true, bt153.2.1, bt153.2.2)) else (some (0, 0, (⟨#[]⟩ : ByteArray), false, bt153.2.1, bt153.2.2))) else (some (0, 0, (⟨#[]⟩ : ByteArray), false, bt153.2.1, bt153.2.2))))) else ((wherryref01_Reader_Int.f bt149.2.1 bt149.2.2).bind fun bt157 => ((wherryref09_May.f (wrap64 (bt149.1)) bt157.1 (⟨#[]⟩ : ByteArray)).bind fun t160 => (if bt157.2.2 = 0 then (if t160 = true then (some (wrap64 (bt149.1), bt157.1, (⟨#[]⟩ : ByteArray), true, bt157.2.1, bt157.2.2)) else (some (0, 0, (⟨#[]⟩ : ByteArray), false, bt157.2.1, bt157.2.2))) else (some (0, 0, (⟨#[]⟩ : ByteArray), false, bt157.2.1, bt157.2.2))))))) = some (r1, r2, r3, r4, r5, r6) := h
  clear h
  replace H := Option.bind_eq_some_iff.mp H
  obtain ⟨⟨t149, t150, t151⟩, A20, H⟩ := H
  replace H : (if (wrap64 (t149)) = 3 then ((wherryref01_Reader_Text.f t150 t151 1024).bind fun bt153 => ((wherryref09_May.f (wrap64 (t149)) 0 bt153.1).bind fun t156 => (if bt153.2.2 = 0 then (if t156 = true then (some (wrap64 (t149), 0, bt153.1, true, bt153.2.1, bt153.2.2)) else (some (0, 0, (⟨#[]⟩ : ByteArray), false, bt153.2.1, bt153.2.2))) else (some (0, 0, (⟨#[]⟩ : ByteArray), false, bt153.2.1, bt153.2.2))))) else ((wherryref01_Reader_Int.f t150 t151).bind fun bt157 => ((wherryref09_May.f (wrap64 (t149)) bt157.1 (⟨#[]⟩ : ByteArray)).bind fun t160 => (if bt157.2.2 = 0 then (if t160 = true then (some (wrap64 (t149), bt157.1, (⟨#[]⟩ : ByteArray), true, bt157.2.1, bt157.2.2)) else (some (0, 0, (⟨#[]⟩ : ByteArray), false, bt157.2.1, bt157.2.2))) else (some (0, 0, (⟨#[]⟩ : ByteArray), false, bt157.2.1, bt157.2.2)))))) = some (r1, r2, r3, r4, r5, r6) := H
  have A2 := Aside0.mk A20
  clear A20
  by_cases c3 : (wrap64 (t149)) = 3
  · rw [if_pos c3] at H
    have c3b0 : ((wrap64 (t149)) == 3) = true := beq_iff_eq.mpr c3
    have c3b1 : ((wrap64 (t149)) != 3) = false := bne_eq_false_iff_eq.mpr c3
    clear c3
    replace H := Option.bind_eq_some_iff.mp H
    obtain ⟨⟨t153, t154, t155⟩, A40, H⟩ := H
    replace H : ((wherryref09_May.f (wrap64 (t149)) 0 t153).bind fun t156 => (if t155 = 0 then (if t156 = true then (some (wrap64 (t149), 0, t153, true, t154, t155)) else (some (0, 0, (⟨#[]⟩ : ByteArray), false, t154, t155))) else (some (0, 0, (⟨#[]⟩ : ByteArray), false, t154, t155)))) = some (r1, r2, r3, r4, r5, r6) := H
    have A4 := Aside0.mk A40
    clear A40
    replace H := Option.bind_eq_some_iff.mp H
    obtain ⟨t156, A50, H⟩ := H
    replace H : (if t155 = 0 then (if t156 = true then (some (wrap64 (t149), 0, t153, true, t154, t155)) else (some (0, 0, (⟨#[]⟩ : ByteArray), false, t154, t155))) else (some (0, 0, (⟨#[]⟩ : ByteArray), false, t154, t155))) = some (r1, r2, r3, r4, r5, r6) := H
    have A5 := Aside0.mk A50
    clear A50
    by_cases c6 : t155 = 0
    · rw [if_pos c6] at H
      have c6b0 : (t155 == 0) = true := beq_iff_eq.mpr c6
      have c6b1 : (t155 != 0) = false := bne_eq_false_iff_eq.mpr c6
      clear c6
      by_cases c7 : t156 = true
      · subst c7
        have H1 : (some (wrap64 (t149), 0, t153, true, t154, t155)) = some (r1, r2, r3, r4, r5, r6) := by rw [if_pos rfl] at H; exact H
        clear H
        have H := H1
        clear H1
        simp only [Option.some.injEq, Prod.mk.injEq] at H
        obtain ⟨rfl, rfl, rfl, rfl, rfl, rfl⟩ := H
        go_enter Try.func67, Try.ntmps67
        go_wp2_with (first | ((with_reducible refine gate_dst (N := 2) rfl ?_); refine box_event ?hg (N := 2) ?hd (cs := #[.int .i64 0, .int .i64 0, .string (⟨#[]⟩ : ByteArray)]) (t := 50) ?hr ?_; (case hd => rfl); (case hg => rfl); (case hr => first | (go_simp; done) | (go_simp; rfl)); intro gb148 hg w8 hbox hb; have n0_ := Aside0.mk (IsS64.below (by repeat (first | (with_reducible first | exact HI0.out | apply IsS64.alloc | apply IsS64.drewN | apply IsS64.drew | apply IsS64.set_0 | apply IsS64.set_1) | exact HI0.out)) hb); have n1_ := Aside0.mk (KeepBut.trans (by repeat (first | (with_reducible first | exact HK.out | apply KeepBut.set_ | apply keep_drewN | apply keep_drew | apply keep_alloc) | exact HK.out)) (KeepBut.of_below hb g none) (.inl rfl)); have n2_ := Aside0.mk (below_step (by repeat (first | (with_reducible first | exact HB.out | apply below_alloc | apply pw_below_drewN | apply below_drew1 | refine below_set ?_ (IsS64.ge HI0.out)) | exact HB.out)) hb); have n3_ := Aside0.mk (hbox); have n4_ := Aside0.mk ((by rw [hg]; exact (keep_size (w := w) (g := g) (row := none) (by repeat (first | (with_reducible first | exact HK.out | apply KeepBut.set_ | apply keep_drewN | apply keep_drew | apply keep_alloc) | exact HK.out))) : w.heap.size ≤ gb148)); have n5_ := Aside0.mk ((Nat.le_trans HW0.out (by rw [hg]; exact (keep_size (w := w) (g := g) (row := none) (by repeat (first | (with_reducible first | exact HK.out | apply KeepBut.set_ | apply keep_drewN | apply keep_drew | apply keep_alloc) | exact HK.out))) : w.heap.size ≤ gb148) : w0.heap.size ≤ gb148)); have n6_ := Aside0.mk ((by rw [hg]; exact Nat.ne_of_lt (IsS64.lt (show IsS64 w0 _ g s0_0 s0_1 from by repeat (first | (with_reducible first | exact HI0.out | apply IsS64.alloc | apply IsS64.drewN | apply IsS64.drew | apply IsS64.set_0 | apply IsS64.set_1) | exact HI0.out))) : g ≠ gb148)); have n7_ := Aside0.mk ((by rw [hg]; exact Nat.ne_of_gt (IsS64.lt (show IsS64 w0 _ g s0_0 s0_1 from by repeat (first | (with_reducible first | exact HI0.out | apply IsS64.alloc | apply IsS64.drewN | apply IsS64.drew | apply IsS64.set_0 | apply IsS64.set_1) | exact HI0.out))) : gb148 ≠ g)); clear HI0; clear HK; clear HB; have HI0 := n0_; have HK := n1_; have HB := n2_; have BK148 := n3_; have GW148 := n4_; have GE148 := n5_; have NB0_148 := n6_; have NB148_0 := n7_; clear n0_ n1_ n2_ n3_ n4_ n5_ n6_ n7_; clear hb hbox hg) | ((with_reducible refine gate_callee (f := 32) rfl ?_); refine goesL_ (some 7) rfl rfl Try.func32 (by kernel_rfl) rfl #[.pointer (some ⟨g, 0, none⟩)] rfl (by (try simp only [List.map_toArray, List.map_cons, List.map_nil]); first | done | rfl | (simp only [List.length_drop, List.length_take]; rfl)) ?_; (with_reducible refine (wherryref01_Reader_Byte.calls g s0_0 s0_1 t149 t150 t151 w0 _ ?side1 ?side2 A2.out).mono ?_); (case side1 => repeat (first | (with_reducible first | exact HI0.out | apply IsS64.alloc | apply IsS64.drewN | apply IsS64.drew | apply IsS64.set_0 | apply IsS64.set_1 | refine IsS64.far ?_ NB0_148.out _) | exact HI0.out)); (case side2 => repeat (first | (with_reducible first | exact HB.out | apply below_alloc | apply pw_below_drewN | apply below_drew1 | refine below_set ?_ (IsS64.ge HI0.out) | refine below_set ?_ GE148.out) | exact HB.out)); rintro e w9 ⟨rfl, hi, hb, hk⟩; refine ⟨_, rfl, ?_⟩; have n0_ := Aside0.mk (KeepBut.blk hk (g' := gb148) (o := .cells #[.int .i64 0, .int .i64 0, .string (⟨#[]⟩ : ByteArray)] 50 (0, 0)) (by (with_reducible repeat (first | refine blk_drewN ?_ _ | refine blk_drew ?_ | refine blk_alloc ?_ _)); exact BK148.out) NB148_0.out (by simp)); have n1_ := Aside0.mk (KeepBut.trans (by repeat (first | (with_reducible first | exact HK.out | apply KeepBut.set_ | apply keep_drewN | apply keep_drew | apply keep_alloc | refine keep_far ?_ GW148.out _) | exact HK.out)) hk (.inl rfl)); have n2_ := Aside0.mk (hb); have n3_ := Aside0.mk (hi); clear BK148; clear HK; clear HB; clear HI0; have BK148 := n0_; have HK := n1_; have HB := n2_; have HI0 := n3_; clear n0_ n1_ n2_ n3_; (try clear hb); (try clear hb2); (try clear hk); (try clear hi)) | ((with_reducible refine gate_dst (N := 4) rfl ?_); refine box_event ?hg (N := 4) ?hd (cs := #[.int .i64 0, .int .i64 0, .string (⟨#[]⟩ : ByteArray)]) (t := 50) ?hr ?_; (case hd => rfl); (case hg => rfl); (case hr => first | (go_simp; done) | (go_simp; rfl)); intro gb152 hg w10 hbox hb; have n0_ := Aside0.mk (IsS64.below (by repeat (first | (with_reducible first | exact HI0.out | apply IsS64.alloc | apply IsS64.drewN | apply IsS64.drew | apply IsS64.set_0 | apply IsS64.set_1 | refine IsS64.far ?_ NB0_148.out _) | exact HI0.out)) hb); have n1_ := Aside0.mk (blk_below (g := gb148) (o := .cells #[.int .i64 0, .int .i64 0, .string (⟨#[]⟩ : ByteArray)] 50 (0, 0)) (by (with_reducible repeat (first | refine blk_drewN ?_ _ | refine blk_drew ?_ | refine blk_alloc ?_ _)); exact BK148.out) hb); have n2_ := Aside0.mk (KeepBut.trans (by repeat (first | (with_reducible first | exact HK.out | apply KeepBut.set_ | apply keep_drewN | apply keep_drew | apply keep_alloc | refine keep_far ?_ GW148.out _) | exact HK.out)) (KeepBut.of_below hb g none) (.inl rfl)); have n3_ := Aside0.mk (below_step (by repeat (first | (with_reducible first | exact HB.out | apply below_alloc | apply pw_below_drewN | apply below_drew1 | refine below_set ?_ (IsS64.ge HI0.out) | refine below_set ?_ GE148.out) | exact HB.out)) hb); have n4_ := Aside0.mk (hbox); have n5_ := Aside0.mk ((by rw [hg]; exact (keep_size (w := w) (g := g) (row := none) (by repeat (first | (with_reducible first | exact HK.out | apply KeepBut.set_ | apply keep_drewN | apply keep_drew | apply keep_alloc | refine keep_far ?_ GW148.out _) | exact HK.out))) : w.heap.size ≤ gb152)); have n6_ := Aside0.mk ((Nat.le_trans HW0.out (by rw [hg]; exact (keep_size (w := w) (g := g) (row := none) (by repeat (first | (with_reducible first | exact HK.out | apply KeepBut.set_ | apply keep_drewN | apply keep_drew | apply keep_alloc | refine keep_far ?_ GW148.out _) | exact HK.out))) : w.heap.size ≤ gb152) : w0.heap.size ≤ gb152)); have n7_ := Aside0.mk ((by rw [hg]; exact Nat.ne_of_lt (blk_lt (g := gb148) (o := .cells #[.int .i64 0, .int .i64 0, .string (⟨#[]⟩ : ByteArray)] 50 (0, 0)) (by (with_reducible repeat (first | refine blk_drewN ?_ _ | refine blk_drew ?_ | refine blk_alloc ?_ _)); exact BK148.out)) : gb148 ≠ gb152)); have n8_ := Aside0.mk ((by rw [hg]; exact Nat.ne_of_gt (blk_lt (g := gb148) (o := .cells #[.int .i64 0, .int .i64 0, .string (⟨#[]⟩ : ByteArray)] 50 (0, 0)) (by (with_reducible repeat (first | refine blk_drewN ?_ _ | refine blk_drew ?_ | refine blk_alloc ?_ _)); exact BK148.out)) : gb152 ≠ gb148)); have n9_ := Aside0.mk ((by rw [hg]; exact Nat.ne_of_lt (IsS64.lt (show IsS64 w0 _ g t150 t151 from by repeat (first | (with_reducible first | exact HI0.out | apply IsS64.alloc | apply IsS64.drewN | apply IsS64.drew | apply IsS64.set_0 | apply IsS64.set_1 | refine IsS64.far ?_ NB0_148.out _) | exact HI0.out))) : g ≠ gb152)); have n10_ := Aside0.mk ((by rw [hg]; exact Nat.ne_of_gt (IsS64.lt (show IsS64 w0 _ g t150 t151 from by repeat (first | (with_reducible first | exact HI0.out | apply IsS64.alloc | apply IsS64.drewN | apply IsS64.drew | apply IsS64.set_0 | apply IsS64.set_1 | refine IsS64.far ?_ NB0_148.out _) | exact HI0.out))) : gb152 ≠ g)); clear HI0; clear BK148; clear HK; clear HB; have HI0 := n0_; have BK148 := n1_; have HK := n2_; have HB := n3_; have BK152 := n4_; have GW152 := n5_; have GE152 := n6_; have NB148_152 := n7_; have NB152_148 := n8_; have NB0_152 := n9_; have NB152_0 := n10_; clear n0_ n1_ n2_ n3_ n4_ n5_ n6_ n7_ n8_ n9_ n10_; clear hb hbox hg; have hnb11 := NB152_148.out; have hnc11 := NB148_152.out; have hnb12 := NB152_0.out; have hnc12 := NB0_152.out; have hcz13_0 : w10.cell? ⟨gb152, 0, none⟩ = some (.int .i64 0) := (blk_cell BK152.out 0).trans rfl; have hcz13_1 : w10.cell? ⟨gb152, 1, none⟩ = some (.int .i64 0) := (blk_cell BK152.out 1).trans rfl; have hcz13_2 : w10.cell? ⟨gb152, 2, none⟩ = some (.string (⟨#[]⟩ : ByteArray)) := (blk_cell BK152.out 2).trans rfl; have hfz13_0 := blk_frozen BK152.out 0; have hfz13_1 := blk_frozen BK152.out 1; have hfz13_2 := blk_frozen BK152.out 2) | ((with_reducible refine gate_callee (f := 35) rfl ?_); refine goesL_ (some 14) rfl rfl Try.func35 (by kernel_rfl) rfl #[.pointer (some ⟨g, 0, none⟩), .int .i64 1024] rfl (by (try simp only [List.map_toArray, List.map_cons, List.map_nil]); first | done | rfl | (simp only [List.length_drop, List.length_take]; rfl)) ?_; (with_reducible refine (wherryref01_Reader_Text.calls g t150 t151 1024 t153 t154 t155 w0 _ ?side1 ?side2 A4.out).mono ?_); (case side1 => repeat (first | (with_reducible first | exact HI0.out | apply IsS64.alloc | apply IsS64.drewN | apply IsS64.drew | apply IsS64.set_0 | apply IsS64.set_1 | refine IsS64.far ?_ NB0_148.out _ | refine IsS64.far ?_ NB0_152.out _) | exact HI0.out)); (case side2 => repeat (first | (with_reducible first | exact HB.out | apply below_alloc | apply pw_below_drewN | apply below_drew1 | refine below_set ?_ (IsS64.ge HI0.out) | refine below_set ?_ GE148.out | refine below_set ?_ GE152.out) | exact HB.out)); rintro e w14 ⟨rfl, hi, hb, hk⟩; refine ⟨_, rfl, ?_⟩; have n0_ := Aside0.mk (KeepBut.blk hk (g' := gb148) (o := .cells #[.int .i64 0, .int .i64 0, .string (⟨#[]⟩ : ByteArray)] 50 (0, 0)) (by (with_reducible repeat (first | refine blk_drewN ?_ _ | refine blk_drew ?_ | refine blk_alloc ?_ _)); refine blk_far ?_ NB148_152.out _; (with_reducible repeat (first | refine blk_drewN ?_ _ | refine blk_drew ?_ | refine blk_alloc ?_ _)); refine blk_far ?_ NB148_152.out _; (with_reducible repeat (first | refine blk_drewN ?_ _ | refine blk_drew ?_ | refine blk_alloc ?_ _)); refine blk_far ?_ NB148_152.out _; (with_reducible repeat (first | refine blk_drewN ?_ _ | refine blk_drew ?_ | refine blk_alloc ?_ _)); exact BK148.out) NB148_0.out (by simp)); have n1_ := Aside0.mk (KeepBut.blk hk (g' := gb152) (o := .cells #[.int .i64 (wrap64 (t149)), .int .i64 0, .string (⟨#[]⟩ : ByteArray)] 50 (0, 0)) (by (with_reducible repeat (first | refine blk_drewN ?_ _ | refine blk_drew ?_ | refine blk_alloc ?_ _)); refine blk_put (cs := #[.int .i64 (wrap64 (t149)), .int .i64 0, .string (⟨#[]⟩ : ByteArray)]) ?_ 2 _ rfl; (with_reducible repeat (first | refine blk_drewN ?_ _ | refine blk_drew ?_ | refine blk_alloc ?_ _)); refine blk_put (cs := #[.int .i64 (wrap64 (t149)), .int .i64 0, .string (⟨#[]⟩ : ByteArray)]) ?_ 1 _ rfl; (with_reducible repeat (first | refine blk_drewN ?_ _ | refine blk_drew ?_ | refine blk_alloc ?_ _)); refine blk_put (cs := #[.int .i64 0, .int .i64 0, .string (⟨#[]⟩ : ByteArray)]) ?_ 0 _ rfl; (with_reducible repeat (first | refine blk_drewN ?_ _ | refine blk_drew ?_ | refine blk_alloc ?_ _)); exact BK152.out) NB152_0.out (by simp)); have n2_ := Aside0.mk (KeepBut.trans (by repeat (first | (with_reducible first | exact HK.out | apply KeepBut.set_ | apply keep_drewN | apply keep_drew | apply keep_alloc | refine keep_far ?_ GW148.out _ | refine keep_far ?_ GW152.out _) | exact HK.out)) hk (.inl rfl)); have n3_ := Aside0.mk (hb); have n4_ := Aside0.mk (hi); clear BK148; clear BK152; clear HK; clear HB; clear HI0; have BK148 := n0_; have BK152 := n1_; have HK := n2_; have HB := n3_; have HI0 := n4_; clear n0_ n1_ n2_ n3_ n4_; (try clear hb); (try clear hb2); (try clear hk); (try clear hi); have hcz15_0 : w14.cell? ⟨gb152, 0, none⟩ = some (.int .i64 (wrap64 (t149))) := (blk_cell BK152.out 0).trans rfl; have hcz15_1 : w14.cell? ⟨gb152, 1, none⟩ = some (.int .i64 0) := (blk_cell BK152.out 1).trans rfl; have hcz15_2 : w14.cell? ⟨gb152, 2, none⟩ = some (.string (⟨#[]⟩ : ByteArray)) := (blk_cell BK152.out 2).trans rfl; have hfz15_0 := blk_frozen BK152.out 0; have hfz15_1 := blk_frozen BK152.out 1; have hfz15_2 := blk_frozen BK152.out 2) | ((with_reducible refine gate_callee (f := 54) rfl ?_); refine goesL_ (some 20) rfl rfl Try.func54 (by kernel_rfl) rfl #[.agg #[.int .i64 (wrap64 (t149)), .int .i64 0, .string t153]] rfl (by (try simp only [List.map_toArray, List.map_cons, List.map_nil]); first | done | rfl | (simp only [List.length_drop, List.length_take]; rfl)) ?_; (with_reducible refine (wherryref09_May.calls (wrap64 (t149)) 0 t153 true _ A5.out).mono ?_); rintro e w16 ⟨rfl, hb⟩; refine ⟨_, rfl, ?_⟩; have n0_ := Aside0.mk (IsS64.below (show IsS64 w0 (w14.setCell ⟨gb152, 2, none⟩ (.string t153)) g t154 t155 from by repeat (first | (with_reducible first | exact HI0.out | apply IsS64.alloc | apply IsS64.drewN | apply IsS64.drew | apply IsS64.set_0 | apply IsS64.set_1 | refine IsS64.far ?_ NB0_148.out _ | refine IsS64.far ?_ NB0_152.out _) | exact HI0.out)) hb); have n1_ := Aside0.mk (blk_below (g := gb148) (o := .cells #[.int .i64 0, .int .i64 0, .string (⟨#[]⟩ : ByteArray)] 50 (0, 0)) (by (with_reducible repeat (first | refine blk_drewN ?_ _ | refine blk_drew ?_ | refine blk_alloc ?_ _)); refine blk_far ?_ NB148_152.out _; (with_reducible repeat (first | refine blk_drewN ?_ _ | refine blk_drew ?_ | refine blk_alloc ?_ _)); exact BK148.out) hb); have n2_ := Aside0.mk (blk_below (g := gb152) (o := .cells #[.int .i64 (wrap64 (t149)), .int .i64 0, .string t153] 50 (0, 0)) (by (with_reducible repeat (first | refine blk_drewN ?_ _ | refine blk_drew ?_ | refine blk_alloc ?_ _)); refine blk_put (cs := #[.int .i64 (wrap64 (t149)), .int .i64 0, .string (⟨#[]⟩ : ByteArray)]) ?_ 2 _ rfl; (with_reducible repeat (first | refine blk_drewN ?_ _ | refine blk_drew ?_ | refine blk_alloc ?_ _)); exact BK152.out) hb); have n3_ := Aside0.mk (KeepBut.trans (by repeat (first | (with_reducible first | exact HK.out | apply KeepBut.set_ | apply keep_drewN | apply keep_drew | apply keep_alloc | refine keep_far ?_ GW148.out _ | refine keep_far ?_ GW152.out _) | exact HK.out)) (KeepBut.of_below hb g none) (.inl rfl)); have n4_ := Aside0.mk (below_step (by repeat (first | (with_reducible first | exact HB.out | apply below_alloc | apply pw_below_drewN | apply below_drew1 | refine below_set ?_ (IsS64.ge HI0.out) | refine below_set ?_ GE148.out | refine below_set ?_ GE152.out) | exact HB.out)) hb); clear HI0; clear BK148; clear BK152; clear HK; clear HB; have HI0 := n0_; have BK148 := n1_; have BK152 := n2_; have HK := n3_; have HB := n4_; clear n0_ n1_ n2_ n3_ n4_; (try clear hb); (try clear hb2); (try clear hk); (try clear hi); obtain ⟨HGz17, hgz17⟩ := HI0.out; have hcz17_0 := cellS64_0 HGz17; have hcz17_1 := cellS64_1 HGz17; have hfz17_0 := blk_frozen HGz17 0; have hfz17_1 := blk_frozen HGz17 1; clear HGz17 hgz17; have hcz18_0 : w16.cell? ⟨gb152, 0, none⟩ = some (.int .i64 (wrap64 (t149))) := (blk_cell BK152.out 0).trans rfl; have hcz18_1 : w16.cell? ⟨gb152, 1, none⟩ = some (.int .i64 0) := (blk_cell BK152.out 1).trans rfl; have hcz18_2 : w16.cell? ⟨gb152, 2, none⟩ = some (.string t153) := (blk_cell BK152.out 2).trans rfl; have hfz18_0 := blk_frozen BK152.out 0; have hfz18_1 := blk_frozen BK152.out 1; have hfz18_2 := blk_frozen BK152.out 2; have hnb19 := NB148_0.out; have hnc19 := NB0_148.out; have hcz20_0 : w16.cell? ⟨gb148, 0, none⟩ = some (.int .i64 0) := (blk_cell BK148.out 0).trans rfl; have hcz20_1 : w16.cell? ⟨gb148, 1, none⟩ = some (.int .i64 0) := (blk_cell BK148.out 1).trans rfl; have hcz20_2 : w16.cell? ⟨gb148, 2, none⟩ = some (.string (⟨#[]⟩ : ByteArray)) := (blk_cell BK148.out 2).trans rfl; have hfz20_0 := blk_frozen BK148.out 0; have hfz20_1 := blk_frozen BK148.out 1; have hfz20_2 := blk_frozen BK148.out 2))
        refine bodyPost_ret (results_ct rfl _ _ gb148 50 #[.int .i64 (wrap64 (t149)), .int .i64 0, .string t153] (0, 0) _ rfl (by (with_reducible repeat (first | refine blk_drewN ?_ _ | refine blk_drew ?_ | refine blk_alloc ?_ _)); refine blk_put (cs := #[.int .i64 (wrap64 (t149)), .int .i64 0, .string (⟨#[]⟩ : ByteArray)]) ?_ 2 _ rfl; (with_reducible repeat (first | refine blk_drewN ?_ _ | refine blk_drew ?_ | refine blk_alloc ?_ _)); refine blk_put (cs := #[.int .i64 (wrap64 (t149)), .int .i64 0, .string (⟨#[]⟩ : ByteArray)]) ?_ 1 _ rfl; (with_reducible repeat (first | refine blk_drewN ?_ _ | refine blk_drew ?_ | refine blk_alloc ?_ _)); refine blk_put (cs := #[.int .i64 0, .int .i64 0, .string (⟨#[]⟩ : ByteArray)]) ?_ 0 _ rfl; (with_reducible repeat (first | refine blk_drewN ?_ _ | refine blk_drew ?_ | refine blk_alloc ?_ _)); exact BK148.out) Try.underlying50 rfl (by kernel_rfl)) rfl ?_
        exact ⟨by first | rfl | (simp [errW_none, errW_some] <;> rfl) | (simp [*, errW_none, errW_some] <;> rfl), by repeat (first | (with_reducible first | exact HI0.out | apply IsS64.alloc | apply IsS64.drewN | apply IsS64.drew | apply IsS64.set_0 | apply IsS64.set_1 | refine IsS64.far ?_ NB0_148.out _ | refine IsS64.far ?_ NB0_152.out _) | exact HI0.out), by repeat (first | (with_reducible first | exact HB.out | apply below_alloc | apply pw_below_drewN | apply below_drew1 | refine below_set ?_ (IsS64.ge HI0.out) | refine below_set ?_ GE148.out | refine below_set ?_ GE152.out) | exact HB.out), by repeat (first | (with_reducible first | exact HK.out | apply KeepBut.set_ | apply keep_drewN | apply keep_drew | apply keep_alloc | refine keep_far ?_ GW148.out _ | refine keep_far ?_ GW152.out _) | exact HK.out)⟩
      · replace c7 := Bool.eq_false_iff.mpr c7
        subst c7
        have H1 : (some (0, 0, (⟨#[]⟩ : ByteArray), false, t154, t155)) = some (r1, r2, r3, r4, r5, r6) := by rw [if_neg (show ¬ (false = true) by decide)] at H; exact H
        clear H
        have H := H1
        clear H1
        simp only [Option.some.injEq, Prod.mk.injEq] at H
        obtain ⟨rfl, rfl, rfl, rfl, rfl, rfl⟩ := H
        go_enter Try.func67, Try.ntmps67
        go_wp2_with (first | ((with_reducible refine gate_dst (N := 2) rfl ?_); refine box_event ?hg (N := 2) ?hd (cs := #[.int .i64 0, .int .i64 0, .string (⟨#[]⟩ : ByteArray)]) (t := 50) ?hr ?_; (case hd => rfl); (case hg => rfl); (case hr => first | (go_simp; done) | (go_simp; rfl)); intro gb148 hg w21 hbox hb; have n0_ := Aside0.mk (IsS64.below (by repeat (first | (with_reducible first | exact HI0.out | apply IsS64.alloc | apply IsS64.drewN | apply IsS64.drew | apply IsS64.set_0 | apply IsS64.set_1) | exact HI0.out)) hb); have n1_ := Aside0.mk (KeepBut.trans (by repeat (first | (with_reducible first | exact HK.out | apply KeepBut.set_ | apply keep_drewN | apply keep_drew | apply keep_alloc) | exact HK.out)) (KeepBut.of_below hb g none) (.inl rfl)); have n2_ := Aside0.mk (below_step (by repeat (first | (with_reducible first | exact HB.out | apply below_alloc | apply pw_below_drewN | apply below_drew1 | refine below_set ?_ (IsS64.ge HI0.out)) | exact HB.out)) hb); have n3_ := Aside0.mk (hbox); have n4_ := Aside0.mk ((by rw [hg]; exact (keep_size (w := w) (g := g) (row := none) (by repeat (first | (with_reducible first | exact HK.out | apply KeepBut.set_ | apply keep_drewN | apply keep_drew | apply keep_alloc) | exact HK.out))) : w.heap.size ≤ gb148)); have n5_ := Aside0.mk ((Nat.le_trans HW0.out (by rw [hg]; exact (keep_size (w := w) (g := g) (row := none) (by repeat (first | (with_reducible first | exact HK.out | apply KeepBut.set_ | apply keep_drewN | apply keep_drew | apply keep_alloc) | exact HK.out))) : w.heap.size ≤ gb148) : w0.heap.size ≤ gb148)); have n6_ := Aside0.mk ((by rw [hg]; exact Nat.ne_of_lt (IsS64.lt (show IsS64 w0 _ g s0_0 s0_1 from by repeat (first | (with_reducible first | exact HI0.out | apply IsS64.alloc | apply IsS64.drewN | apply IsS64.drew | apply IsS64.set_0 | apply IsS64.set_1) | exact HI0.out))) : g ≠ gb148)); have n7_ := Aside0.mk ((by rw [hg]; exact Nat.ne_of_gt (IsS64.lt (show IsS64 w0 _ g s0_0 s0_1 from by repeat (first | (with_reducible first | exact HI0.out | apply IsS64.alloc | apply IsS64.drewN | apply IsS64.drew | apply IsS64.set_0 | apply IsS64.set_1) | exact HI0.out))) : gb148 ≠ g)); clear HI0; clear HK; clear HB; have HI0 := n0_; have HK := n1_; have HB := n2_; have BK148 := n3_; have GW148 := n4_; have GE148 := n5_; have NB0_148 := n6_; have NB148_0 := n7_; clear n0_ n1_ n2_ n3_ n4_ n5_ n6_ n7_; clear hb hbox hg) | ((with_reducible refine gate_callee (f := 32) rfl ?_); refine goesL_ (some 7) rfl rfl Try.func32 (by kernel_rfl) rfl #[.pointer (some ⟨g, 0, none⟩)] rfl (by (try simp only [List.map_toArray, List.map_cons, List.map_nil]); first | done | rfl | (simp only [List.length_drop, List.length_take]; rfl)) ?_; (with_reducible refine (wherryref01_Reader_Byte.calls g s0_0 s0_1 t149 t150 t151 w0 _ ?side1 ?side2 A2.out).mono ?_); (case side1 => repeat (first | (with_reducible first | exact HI0.out | apply IsS64.alloc | apply IsS64.drewN | apply IsS64.drew | apply IsS64.set_0 | apply IsS64.set_1 | refine IsS64.far ?_ NB0_148.out _) | exact HI0.out)); (case side2 => repeat (first | (with_reducible first | exact HB.out | apply below_alloc | apply pw_below_drewN | apply below_drew1 | refine below_set ?_ (IsS64.ge HI0.out) | refine below_set ?_ GE148.out) | exact HB.out)); rintro e w22 ⟨rfl, hi, hb, hk⟩; refine ⟨_, rfl, ?_⟩; have n0_ := Aside0.mk (KeepBut.blk hk (g' := gb148) (o := .cells #[.int .i64 0, .int .i64 0, .string (⟨#[]⟩ : ByteArray)] 50 (0, 0)) (by (with_reducible repeat (first | refine blk_drewN ?_ _ | refine blk_drew ?_ | refine blk_alloc ?_ _)); exact BK148.out) NB148_0.out (by simp)); have n1_ := Aside0.mk (KeepBut.trans (by repeat (first | (with_reducible first | exact HK.out | apply KeepBut.set_ | apply keep_drewN | apply keep_drew | apply keep_alloc | refine keep_far ?_ GW148.out _) | exact HK.out)) hk (.inl rfl)); have n2_ := Aside0.mk (hb); have n3_ := Aside0.mk (hi); clear BK148; clear HK; clear HB; clear HI0; have BK148 := n0_; have HK := n1_; have HB := n2_; have HI0 := n3_; clear n0_ n1_ n2_ n3_; (try clear hb); (try clear hb2); (try clear hk); (try clear hi)) | ((with_reducible refine gate_dst (N := 4) rfl ?_); refine box_event ?hg (N := 4) ?hd (cs := #[.int .i64 0, .int .i64 0, .string (⟨#[]⟩ : ByteArray)]) (t := 50) ?hr ?_; (case hd => rfl); (case hg => rfl); (case hr => first | (go_simp; done) | (go_simp; rfl)); intro gb152 hg w23 hbox hb; have n0_ := Aside0.mk (IsS64.below (by repeat (first | (with_reducible first | exact HI0.out | apply IsS64.alloc | apply IsS64.drewN | apply IsS64.drew | apply IsS64.set_0 | apply IsS64.set_1 | refine IsS64.far ?_ NB0_148.out _) | exact HI0.out)) hb); have n1_ := Aside0.mk (blk_below (g := gb148) (o := .cells #[.int .i64 0, .int .i64 0, .string (⟨#[]⟩ : ByteArray)] 50 (0, 0)) (by (with_reducible repeat (first | refine blk_drewN ?_ _ | refine blk_drew ?_ | refine blk_alloc ?_ _)); exact BK148.out) hb); have n2_ := Aside0.mk (KeepBut.trans (by repeat (first | (with_reducible first | exact HK.out | apply KeepBut.set_ | apply keep_drewN | apply keep_drew | apply keep_alloc | refine keep_far ?_ GW148.out _) | exact HK.out)) (KeepBut.of_below hb g none) (.inl rfl)); have n3_ := Aside0.mk (below_step (by repeat (first | (with_reducible first | exact HB.out | apply below_alloc | apply pw_below_drewN | apply below_drew1 | refine below_set ?_ (IsS64.ge HI0.out) | refine below_set ?_ GE148.out) | exact HB.out)) hb); have n4_ := Aside0.mk (hbox); have n5_ := Aside0.mk ((by rw [hg]; exact (keep_size (w := w) (g := g) (row := none) (by repeat (first | (with_reducible first | exact HK.out | apply KeepBut.set_ | apply keep_drewN | apply keep_drew | apply keep_alloc | refine keep_far ?_ GW148.out _) | exact HK.out))) : w.heap.size ≤ gb152)); have n6_ := Aside0.mk ((Nat.le_trans HW0.out (by rw [hg]; exact (keep_size (w := w) (g := g) (row := none) (by repeat (first | (with_reducible first | exact HK.out | apply KeepBut.set_ | apply keep_drewN | apply keep_drew | apply keep_alloc | refine keep_far ?_ GW148.out _) | exact HK.out))) : w.heap.size ≤ gb152) : w0.heap.size ≤ gb152)); have n7_ := Aside0.mk ((by rw [hg]; exact Nat.ne_of_lt (blk_lt (g := gb148) (o := .cells #[.int .i64 0, .int .i64 0, .string (⟨#[]⟩ : ByteArray)] 50 (0, 0)) (by (with_reducible repeat (first | refine blk_drewN ?_ _ | refine blk_drew ?_ | refine blk_alloc ?_ _)); exact BK148.out)) : gb148 ≠ gb152)); have n8_ := Aside0.mk ((by rw [hg]; exact Nat.ne_of_gt (blk_lt (g := gb148) (o := .cells #[.int .i64 0, .int .i64 0, .string (⟨#[]⟩ : ByteArray)] 50 (0, 0)) (by (with_reducible repeat (first | refine blk_drewN ?_ _ | refine blk_drew ?_ | refine blk_alloc ?_ _)); exact BK148.out)) : gb152 ≠ gb148)); have n9_ := Aside0.mk ((by rw [hg]; exact Nat.ne_of_lt (IsS64.lt (show IsS64 w0 _ g t150 t151 from by repeat (first | (with_reducible first | exact HI0.out | apply IsS64.alloc | apply IsS64.drewN | apply IsS64.drew | apply IsS64.set_0 | apply IsS64.set_1 | refine IsS64.far ?_ NB0_148.out _) | exact HI0.out))) : g ≠ gb152)); have n10_ := Aside0.mk ((by rw [hg]; exact Nat.ne_of_gt (IsS64.lt (show IsS64 w0 _ g t150 t151 from by repeat (first | (with_reducible first | exact HI0.out | apply IsS64.alloc | apply IsS64.drewN | apply IsS64.drew | apply IsS64.set_0 | apply IsS64.set_1 | refine IsS64.far ?_ NB0_148.out _) | exact HI0.out))) : gb152 ≠ g)); clear HI0; clear BK148; clear HK; clear HB; have HI0 := n0_; have BK148 := n1_; have HK := n2_; have HB := n3_; have BK152 := n4_; have GW152 := n5_; have GE152 := n6_; have NB148_152 := n7_; have NB152_148 := n8_; have NB0_152 := n9_; have NB152_0 := n10_; clear n0_ n1_ n2_ n3_ n4_ n5_ n6_ n7_ n8_ n9_ n10_; clear hb hbox hg; have hnb24 := NB152_148.out; have hnc24 := NB148_152.out; have hnb25 := NB152_0.out; have hnc25 := NB0_152.out; have hcz26_0 : w23.cell? ⟨gb152, 0, none⟩ = some (.int .i64 0) := (blk_cell BK152.out 0).trans rfl; have hcz26_1 : w23.cell? ⟨gb152, 1, none⟩ = some (.int .i64 0) := (blk_cell BK152.out 1).trans rfl; have hcz26_2 : w23.cell? ⟨gb152, 2, none⟩ = some (.string (⟨#[]⟩ : ByteArray)) := (blk_cell BK152.out 2).trans rfl; have hfz26_0 := blk_frozen BK152.out 0; have hfz26_1 := blk_frozen BK152.out 1; have hfz26_2 := blk_frozen BK152.out 2) | ((with_reducible refine gate_callee (f := 35) rfl ?_); refine goesL_ (some 14) rfl rfl Try.func35 (by kernel_rfl) rfl #[.pointer (some ⟨g, 0, none⟩), .int .i64 1024] rfl (by (try simp only [List.map_toArray, List.map_cons, List.map_nil]); first | done | rfl | (simp only [List.length_drop, List.length_take]; rfl)) ?_; (with_reducible refine (wherryref01_Reader_Text.calls g t150 t151 1024 t153 t154 t155 w0 _ ?side1 ?side2 A4.out).mono ?_); (case side1 => repeat (first | (with_reducible first | exact HI0.out | apply IsS64.alloc | apply IsS64.drewN | apply IsS64.drew | apply IsS64.set_0 | apply IsS64.set_1 | refine IsS64.far ?_ NB0_148.out _ | refine IsS64.far ?_ NB0_152.out _) | exact HI0.out)); (case side2 => repeat (first | (with_reducible first | exact HB.out | apply below_alloc | apply pw_below_drewN | apply below_drew1 | refine below_set ?_ (IsS64.ge HI0.out) | refine below_set ?_ GE148.out | refine below_set ?_ GE152.out) | exact HB.out)); rintro e w27 ⟨rfl, hi, hb, hk⟩; refine ⟨_, rfl, ?_⟩; have n0_ := Aside0.mk (KeepBut.blk hk (g' := gb148) (o := .cells #[.int .i64 0, .int .i64 0, .string (⟨#[]⟩ : ByteArray)] 50 (0, 0)) (by (with_reducible repeat (first | refine blk_drewN ?_ _ | refine blk_drew ?_ | refine blk_alloc ?_ _)); refine blk_far ?_ NB148_152.out _; (with_reducible repeat (first | refine blk_drewN ?_ _ | refine blk_drew ?_ | refine blk_alloc ?_ _)); refine blk_far ?_ NB148_152.out _; (with_reducible repeat (first | refine blk_drewN ?_ _ | refine blk_drew ?_ | refine blk_alloc ?_ _)); refine blk_far ?_ NB148_152.out _; (with_reducible repeat (first | refine blk_drewN ?_ _ | refine blk_drew ?_ | refine blk_alloc ?_ _)); exact BK148.out) NB148_0.out (by simp)); have n1_ := Aside0.mk (KeepBut.blk hk (g' := gb152) (o := .cells #[.int .i64 (wrap64 (t149)), .int .i64 0, .string (⟨#[]⟩ : ByteArray)] 50 (0, 0)) (by (with_reducible repeat (first | refine blk_drewN ?_ _ | refine blk_drew ?_ | refine blk_alloc ?_ _)); refine blk_put (cs := #[.int .i64 (wrap64 (t149)), .int .i64 0, .string (⟨#[]⟩ : ByteArray)]) ?_ 2 _ rfl; (with_reducible repeat (first | refine blk_drewN ?_ _ | refine blk_drew ?_ | refine blk_alloc ?_ _)); refine blk_put (cs := #[.int .i64 (wrap64 (t149)), .int .i64 0, .string (⟨#[]⟩ : ByteArray)]) ?_ 1 _ rfl; (with_reducible repeat (first | refine blk_drewN ?_ _ | refine blk_drew ?_ | refine blk_alloc ?_ _)); refine blk_put (cs := #[.int .i64 0, .int .i64 0, .string (⟨#[]⟩ : ByteArray)]) ?_ 0 _ rfl; (with_reducible repeat (first | refine blk_drewN ?_ _ | refine blk_drew ?_ | refine blk_alloc ?_ _)); exact BK152.out) NB152_0.out (by simp)); have n2_ := Aside0.mk (KeepBut.trans (by repeat (first | (with_reducible first | exact HK.out | apply KeepBut.set_ | apply keep_drewN | apply keep_drew | apply keep_alloc | refine keep_far ?_ GW148.out _ | refine keep_far ?_ GW152.out _) | exact HK.out)) hk (.inl rfl)); have n3_ := Aside0.mk (hb); have n4_ := Aside0.mk (hi); clear BK148; clear BK152; clear HK; clear HB; clear HI0; have BK148 := n0_; have BK152 := n1_; have HK := n2_; have HB := n3_; have HI0 := n4_; clear n0_ n1_ n2_ n3_ n4_; (try clear hb); (try clear hb2); (try clear hk); (try clear hi); have hcz28_0 : w27.cell? ⟨gb152, 0, none⟩ = some (.int .i64 (wrap64 (t149))) := (blk_cell BK152.out 0).trans rfl; have hcz28_1 : w27.cell? ⟨gb152, 1, none⟩ = some (.int .i64 0) := (blk_cell BK152.out 1).trans rfl; have hcz28_2 : w27.cell? ⟨gb152, 2, none⟩ = some (.string (⟨#[]⟩ : ByteArray)) := (blk_cell BK152.out 2).trans rfl; have hfz28_0 := blk_frozen BK152.out 0; have hfz28_1 := blk_frozen BK152.out 1; have hfz28_2 := blk_frozen BK152.out 2) | ((with_reducible refine gate_callee (f := 54) rfl ?_); refine goesL_ (some 20) rfl rfl Try.func54 (by kernel_rfl) rfl #[.agg #[.int .i64 (wrap64 (t149)), .int .i64 0, .string t153]] rfl (by (try simp only [List.map_toArray, List.map_cons, List.map_nil]); first | done | rfl | (simp only [List.length_drop, List.length_take]; rfl)) ?_; (with_reducible refine (wherryref09_May.calls (wrap64 (t149)) 0 t153 false _ A5.out).mono ?_); rintro e w29 ⟨rfl, hb⟩; refine ⟨_, rfl, ?_⟩; have n0_ := Aside0.mk (IsS64.below (show IsS64 w0 (w27.setCell ⟨gb152, 2, none⟩ (.string t153)) g t154 t155 from by repeat (first | (with_reducible first | exact HI0.out | apply IsS64.alloc | apply IsS64.drewN | apply IsS64.drew | apply IsS64.set_0 | apply IsS64.set_1 | refine IsS64.far ?_ NB0_148.out _ | refine IsS64.far ?_ NB0_152.out _) | exact HI0.out)) hb); have n1_ := Aside0.mk (blk_below (g := gb148) (o := .cells #[.int .i64 0, .int .i64 0, .string (⟨#[]⟩ : ByteArray)] 50 (0, 0)) (by (with_reducible repeat (first | refine blk_drewN ?_ _ | refine blk_drew ?_ | refine blk_alloc ?_ _)); refine blk_far ?_ NB148_152.out _; (with_reducible repeat (first | refine blk_drewN ?_ _ | refine blk_drew ?_ | refine blk_alloc ?_ _)); exact BK148.out) hb); have n2_ := Aside0.mk (blk_below (g := gb152) (o := .cells #[.int .i64 (wrap64 (t149)), .int .i64 0, .string t153] 50 (0, 0)) (by (with_reducible repeat (first | refine blk_drewN ?_ _ | refine blk_drew ?_ | refine blk_alloc ?_ _)); refine blk_put (cs := #[.int .i64 (wrap64 (t149)), .int .i64 0, .string (⟨#[]⟩ : ByteArray)]) ?_ 2 _ rfl; (with_reducible repeat (first | refine blk_drewN ?_ _ | refine blk_drew ?_ | refine blk_alloc ?_ _)); exact BK152.out) hb); have n3_ := Aside0.mk (KeepBut.trans (by repeat (first | (with_reducible first | exact HK.out | apply KeepBut.set_ | apply keep_drewN | apply keep_drew | apply keep_alloc | refine keep_far ?_ GW148.out _ | refine keep_far ?_ GW152.out _) | exact HK.out)) (KeepBut.of_below hb g none) (.inl rfl)); have n4_ := Aside0.mk (below_step (by repeat (first | (with_reducible first | exact HB.out | apply below_alloc | apply pw_below_drewN | apply below_drew1 | refine below_set ?_ (IsS64.ge HI0.out) | refine below_set ?_ GE148.out | refine below_set ?_ GE152.out) | exact HB.out)) hb); clear HI0; clear BK148; clear BK152; clear HK; clear HB; have HI0 := n0_; have BK148 := n1_; have BK152 := n2_; have HK := n3_; have HB := n4_; clear n0_ n1_ n2_ n3_ n4_; (try clear hb); (try clear hb2); (try clear hk); (try clear hi); obtain ⟨HGz30, hgz30⟩ := HI0.out; have hcz30_0 := cellS64_0 HGz30; have hcz30_1 := cellS64_1 HGz30; have hfz30_0 := blk_frozen HGz30 0; have hfz30_1 := blk_frozen HGz30 1; clear HGz30 hgz30; have hnb31 := NB148_0.out; have hnc31 := NB0_148.out; have hcz32_0 : w29.cell? ⟨gb148, 0, none⟩ = some (.int .i64 0) := (blk_cell BK148.out 0).trans rfl; have hcz32_1 : w29.cell? ⟨gb148, 1, none⟩ = some (.int .i64 0) := (blk_cell BK148.out 1).trans rfl; have hcz32_2 : w29.cell? ⟨gb148, 2, none⟩ = some (.string (⟨#[]⟩ : ByteArray)) := (blk_cell BK148.out 2).trans rfl; have hfz32_0 := blk_frozen BK148.out 0; have hfz32_1 := blk_frozen BK148.out 1; have hfz32_2 := blk_frozen BK148.out 2))
        refine bodyPost_ret (results_ct rfl _ _ gb148 50 #[.int .i64 0, .int .i64 0, .string (⟨#[]⟩ : ByteArray)] (0, 0) _ rfl (by (with_reducible repeat (first | refine blk_drewN ?_ _ | refine blk_drew ?_ | refine blk_alloc ?_ _)); refine blk_put (cs := #[.int .i64 0, .int .i64 0, .string (⟨#[]⟩ : ByteArray)]) ?_ 2 _ rfl; (with_reducible repeat (first | refine blk_drewN ?_ _ | refine blk_drew ?_ | refine blk_alloc ?_ _)); refine blk_put (cs := #[.int .i64 0, .int .i64 0, .string (⟨#[]⟩ : ByteArray)]) ?_ 1 _ rfl; (with_reducible repeat (first | refine blk_drewN ?_ _ | refine blk_drew ?_ | refine blk_alloc ?_ _)); refine blk_put (cs := #[.int .i64 0, .int .i64 0, .string (⟨#[]⟩ : ByteArray)]) ?_ 0 _ rfl; (with_reducible repeat (first | refine blk_drewN ?_ _ | refine blk_drew ?_ | refine blk_alloc ?_ _)); exact BK148.out) Try.underlying50 rfl (by kernel_rfl)) rfl ?_
        exact ⟨by first | rfl | (simp [errW_none, errW_some] <;> rfl) | (simp [*, errW_none, errW_some] <;> rfl), by repeat (first | (with_reducible first | exact HI0.out | apply IsS64.alloc | apply IsS64.drewN | apply IsS64.drew | apply IsS64.set_0 | apply IsS64.set_1 | refine IsS64.far ?_ NB0_148.out _ | refine IsS64.far ?_ NB0_152.out _) | exact HI0.out), by repeat (first | (with_reducible first | exact HB.out | apply below_alloc | apply pw_below_drewN | apply below_drew1 | refine below_set ?_ (IsS64.ge HI0.out) | refine below_set ?_ GE148.out | refine below_set ?_ GE152.out) | exact HB.out), by repeat (first | (with_reducible first | exact HK.out | apply KeepBut.set_ | apply keep_drewN | apply keep_drew | apply keep_alloc | refine keep_far ?_ GW148.out _ | refine keep_far ?_ GW152.out _) | exact HK.out)⟩
    · rw [if_neg c6] at H
      have c6b0 : (t155 == 0) = false := beq_eq_false_iff_ne.mpr c6
      have c6b1 : (t155 != 0) = true := bne_iff_ne.mpr c6
      simp only [Option.some.injEq, Prod.mk.injEq] at H
      obtain ⟨rfl, rfl, rfl, rfl, rfl, rfl⟩ := H
      go_enter Try.func67, Try.ntmps67
      go_wp2_with (first | ((with_reducible refine gate_dst (N := 2) rfl ?_); refine box_event ?hg (N := 2) ?hd (cs := #[.int .i64 0, .int .i64 0, .string (⟨#[]⟩ : ByteArray)]) (t := 50) ?hr ?_; (case hd => rfl); (case hg => rfl); (case hr => first | (go_simp; done) | (go_simp; rfl)); intro gb148 hg w33 hbox hb; have n0_ := Aside0.mk (IsS64.below (by repeat (first | (with_reducible first | exact HI0.out | apply IsS64.alloc | apply IsS64.drewN | apply IsS64.drew | apply IsS64.set_0 | apply IsS64.set_1) | exact HI0.out)) hb); have n1_ := Aside0.mk (KeepBut.trans (by repeat (first | (with_reducible first | exact HK.out | apply KeepBut.set_ | apply keep_drewN | apply keep_drew | apply keep_alloc) | exact HK.out)) (KeepBut.of_below hb g none) (.inl rfl)); have n2_ := Aside0.mk (below_step (by repeat (first | (with_reducible first | exact HB.out | apply below_alloc | apply pw_below_drewN | apply below_drew1 | refine below_set ?_ (IsS64.ge HI0.out)) | exact HB.out)) hb); have n3_ := Aside0.mk (hbox); have n4_ := Aside0.mk ((by rw [hg]; exact (keep_size (w := w) (g := g) (row := none) (by repeat (first | (with_reducible first | exact HK.out | apply KeepBut.set_ | apply keep_drewN | apply keep_drew | apply keep_alloc) | exact HK.out))) : w.heap.size ≤ gb148)); have n5_ := Aside0.mk ((Nat.le_trans HW0.out (by rw [hg]; exact (keep_size (w := w) (g := g) (row := none) (by repeat (first | (with_reducible first | exact HK.out | apply KeepBut.set_ | apply keep_drewN | apply keep_drew | apply keep_alloc) | exact HK.out))) : w.heap.size ≤ gb148) : w0.heap.size ≤ gb148)); have n6_ := Aside0.mk ((by rw [hg]; exact Nat.ne_of_lt (IsS64.lt (show IsS64 w0 _ g s0_0 s0_1 from by repeat (first | (with_reducible first | exact HI0.out | apply IsS64.alloc | apply IsS64.drewN | apply IsS64.drew | apply IsS64.set_0 | apply IsS64.set_1) | exact HI0.out))) : g ≠ gb148)); have n7_ := Aside0.mk ((by rw [hg]; exact Nat.ne_of_gt (IsS64.lt (show IsS64 w0 _ g s0_0 s0_1 from by repeat (first | (with_reducible first | exact HI0.out | apply IsS64.alloc | apply IsS64.drewN | apply IsS64.drew | apply IsS64.set_0 | apply IsS64.set_1) | exact HI0.out))) : gb148 ≠ g)); clear HI0; clear HK; clear HB; have HI0 := n0_; have HK := n1_; have HB := n2_; have BK148 := n3_; have GW148 := n4_; have GE148 := n5_; have NB0_148 := n6_; have NB148_0 := n7_; clear n0_ n1_ n2_ n3_ n4_ n5_ n6_ n7_; clear hb hbox hg) | ((with_reducible refine gate_callee (f := 32) rfl ?_); refine goesL_ (some 7) rfl rfl Try.func32 (by kernel_rfl) rfl #[.pointer (some ⟨g, 0, none⟩)] rfl (by (try simp only [List.map_toArray, List.map_cons, List.map_nil]); first | done | rfl | (simp only [List.length_drop, List.length_take]; rfl)) ?_; (with_reducible refine (wherryref01_Reader_Byte.calls g s0_0 s0_1 t149 t150 t151 w0 _ ?side1 ?side2 A2.out).mono ?_); (case side1 => repeat (first | (with_reducible first | exact HI0.out | apply IsS64.alloc | apply IsS64.drewN | apply IsS64.drew | apply IsS64.set_0 | apply IsS64.set_1 | refine IsS64.far ?_ NB0_148.out _) | exact HI0.out)); (case side2 => repeat (first | (with_reducible first | exact HB.out | apply below_alloc | apply pw_below_drewN | apply below_drew1 | refine below_set ?_ (IsS64.ge HI0.out) | refine below_set ?_ GE148.out) | exact HB.out)); rintro e w34 ⟨rfl, hi, hb, hk⟩; refine ⟨_, rfl, ?_⟩; have n0_ := Aside0.mk (KeepBut.blk hk (g' := gb148) (o := .cells #[.int .i64 0, .int .i64 0, .string (⟨#[]⟩ : ByteArray)] 50 (0, 0)) (by (with_reducible repeat (first | refine blk_drewN ?_ _ | refine blk_drew ?_ | refine blk_alloc ?_ _)); exact BK148.out) NB148_0.out (by simp)); have n1_ := Aside0.mk (KeepBut.trans (by repeat (first | (with_reducible first | exact HK.out | apply KeepBut.set_ | apply keep_drewN | apply keep_drew | apply keep_alloc | refine keep_far ?_ GW148.out _) | exact HK.out)) hk (.inl rfl)); have n2_ := Aside0.mk (hb); have n3_ := Aside0.mk (hi); clear BK148; clear HK; clear HB; clear HI0; have BK148 := n0_; have HK := n1_; have HB := n2_; have HI0 := n3_; clear n0_ n1_ n2_ n3_; (try clear hb); (try clear hb2); (try clear hk); (try clear hi)) | ((with_reducible refine gate_dst (N := 4) rfl ?_); refine box_event ?hg (N := 4) ?hd (cs := #[.int .i64 0, .int .i64 0, .string (⟨#[]⟩ : ByteArray)]) (t := 50) ?hr ?_; (case hd => rfl); (case hg => rfl); (case hr => first | (go_simp; done) | (go_simp; rfl)); intro gb152 hg w35 hbox hb; have n0_ := Aside0.mk (IsS64.below (by repeat (first | (with_reducible first | exact HI0.out | apply IsS64.alloc | apply IsS64.drewN | apply IsS64.drew | apply IsS64.set_0 | apply IsS64.set_1 | refine IsS64.far ?_ NB0_148.out _) | exact HI0.out)) hb); have n1_ := Aside0.mk (blk_below (g := gb148) (o := .cells #[.int .i64 0, .int .i64 0, .string (⟨#[]⟩ : ByteArray)] 50 (0, 0)) (by (with_reducible repeat (first | refine blk_drewN ?_ _ | refine blk_drew ?_ | refine blk_alloc ?_ _)); exact BK148.out) hb); have n2_ := Aside0.mk (KeepBut.trans (by repeat (first | (with_reducible first | exact HK.out | apply KeepBut.set_ | apply keep_drewN | apply keep_drew | apply keep_alloc | refine keep_far ?_ GW148.out _) | exact HK.out)) (KeepBut.of_below hb g none) (.inl rfl)); have n3_ := Aside0.mk (below_step (by repeat (first | (with_reducible first | exact HB.out | apply below_alloc | apply pw_below_drewN | apply below_drew1 | refine below_set ?_ (IsS64.ge HI0.out) | refine below_set ?_ GE148.out) | exact HB.out)) hb); have n4_ := Aside0.mk (hbox); have n5_ := Aside0.mk ((by rw [hg]; exact (keep_size (w := w) (g := g) (row := none) (by repeat (first | (with_reducible first | exact HK.out | apply KeepBut.set_ | apply keep_drewN | apply keep_drew | apply keep_alloc | refine keep_far ?_ GW148.out _) | exact HK.out))) : w.heap.size ≤ gb152)); have n6_ := Aside0.mk ((Nat.le_trans HW0.out (by rw [hg]; exact (keep_size (w := w) (g := g) (row := none) (by repeat (first | (with_reducible first | exact HK.out | apply KeepBut.set_ | apply keep_drewN | apply keep_drew | apply keep_alloc | refine keep_far ?_ GW148.out _) | exact HK.out))) : w.heap.size ≤ gb152) : w0.heap.size ≤ gb152)); have n7_ := Aside0.mk ((by rw [hg]; exact Nat.ne_of_lt (blk_lt (g := gb148) (o := .cells #[.int .i64 0, .int .i64 0, .string (⟨#[]⟩ : ByteArray)] 50 (0, 0)) (by (with_reducible repeat (first | refine blk_drewN ?_ _ | refine blk_drew ?_ | refine blk_alloc ?_ _)); exact BK148.out)) : gb148 ≠ gb152)); have n8_ := Aside0.mk ((by rw [hg]; exact Nat.ne_of_gt (blk_lt (g := gb148) (o := .cells #[.int .i64 0, .int .i64 0, .string (⟨#[]⟩ : ByteArray)] 50 (0, 0)) (by (with_reducible repeat (first | refine blk_drewN ?_ _ | refine blk_drew ?_ | refine blk_alloc ?_ _)); exact BK148.out)) : gb152 ≠ gb148)); have n9_ := Aside0.mk ((by rw [hg]; exact Nat.ne_of_lt (IsS64.lt (show IsS64 w0 _ g t150 t151 from by repeat (first | (with_reducible first | exact HI0.out | apply IsS64.alloc | apply IsS64.drewN | apply IsS64.drew | apply IsS64.set_0 | apply IsS64.set_1 | refine IsS64.far ?_ NB0_148.out _) | exact HI0.out))) : g ≠ gb152)); have n10_ := Aside0.mk ((by rw [hg]; exact Nat.ne_of_gt (IsS64.lt (show IsS64 w0 _ g t150 t151 from by repeat (first | (with_reducible first | exact HI0.out | apply IsS64.alloc | apply IsS64.drewN | apply IsS64.drew | apply IsS64.set_0 | apply IsS64.set_1 | refine IsS64.far ?_ NB0_148.out _) | exact HI0.out))) : gb152 ≠ g)); clear HI0; clear BK148; clear HK; clear HB; have HI0 := n0_; have BK148 := n1_; have HK := n2_; have HB := n3_; have BK152 := n4_; have GW152 := n5_; have GE152 := n6_; have NB148_152 := n7_; have NB152_148 := n8_; have NB0_152 := n9_; have NB152_0 := n10_; clear n0_ n1_ n2_ n3_ n4_ n5_ n6_ n7_ n8_ n9_ n10_; clear hb hbox hg; have hnb36 := NB152_148.out; have hnc36 := NB148_152.out; have hnb37 := NB152_0.out; have hnc37 := NB0_152.out; have hcz38_0 : w35.cell? ⟨gb152, 0, none⟩ = some (.int .i64 0) := (blk_cell BK152.out 0).trans rfl; have hcz38_1 : w35.cell? ⟨gb152, 1, none⟩ = some (.int .i64 0) := (blk_cell BK152.out 1).trans rfl; have hcz38_2 : w35.cell? ⟨gb152, 2, none⟩ = some (.string (⟨#[]⟩ : ByteArray)) := (blk_cell BK152.out 2).trans rfl; have hfz38_0 := blk_frozen BK152.out 0; have hfz38_1 := blk_frozen BK152.out 1; have hfz38_2 := blk_frozen BK152.out 2) | ((with_reducible refine gate_callee (f := 35) rfl ?_); refine goesL_ (some 14) rfl rfl Try.func35 (by kernel_rfl) rfl #[.pointer (some ⟨g, 0, none⟩), .int .i64 1024] rfl (by (try simp only [List.map_toArray, List.map_cons, List.map_nil]); first | done | rfl | (simp only [List.length_drop, List.length_take]; rfl)) ?_; (with_reducible refine (wherryref01_Reader_Text.calls g t150 t151 1024 t153 t154 t155 w0 _ ?side1 ?side2 A4.out).mono ?_); (case side1 => repeat (first | (with_reducible first | exact HI0.out | apply IsS64.alloc | apply IsS64.drewN | apply IsS64.drew | apply IsS64.set_0 | apply IsS64.set_1 | refine IsS64.far ?_ NB0_148.out _ | refine IsS64.far ?_ NB0_152.out _) | exact HI0.out)); (case side2 => repeat (first | (with_reducible first | exact HB.out | apply below_alloc | apply pw_below_drewN | apply below_drew1 | refine below_set ?_ (IsS64.ge HI0.out) | refine below_set ?_ GE148.out | refine below_set ?_ GE152.out) | exact HB.out)); rintro e w39 ⟨rfl, hi, hb, hk⟩; refine ⟨_, rfl, ?_⟩; have n0_ := Aside0.mk (KeepBut.blk hk (g' := gb148) (o := .cells #[.int .i64 0, .int .i64 0, .string (⟨#[]⟩ : ByteArray)] 50 (0, 0)) (by (with_reducible repeat (first | refine blk_drewN ?_ _ | refine blk_drew ?_ | refine blk_alloc ?_ _)); refine blk_far ?_ NB148_152.out _; (with_reducible repeat (first | refine blk_drewN ?_ _ | refine blk_drew ?_ | refine blk_alloc ?_ _)); refine blk_far ?_ NB148_152.out _; (with_reducible repeat (first | refine blk_drewN ?_ _ | refine blk_drew ?_ | refine blk_alloc ?_ _)); refine blk_far ?_ NB148_152.out _; (with_reducible repeat (first | refine blk_drewN ?_ _ | refine blk_drew ?_ | refine blk_alloc ?_ _)); exact BK148.out) NB148_0.out (by simp)); have n1_ := Aside0.mk (KeepBut.blk hk (g' := gb152) (o := .cells #[.int .i64 (wrap64 (t149)), .int .i64 0, .string (⟨#[]⟩ : ByteArray)] 50 (0, 0)) (by (with_reducible repeat (first | refine blk_drewN ?_ _ | refine blk_drew ?_ | refine blk_alloc ?_ _)); refine blk_put (cs := #[.int .i64 (wrap64 (t149)), .int .i64 0, .string (⟨#[]⟩ : ByteArray)]) ?_ 2 _ rfl; (with_reducible repeat (first | refine blk_drewN ?_ _ | refine blk_drew ?_ | refine blk_alloc ?_ _)); refine blk_put (cs := #[.int .i64 (wrap64 (t149)), .int .i64 0, .string (⟨#[]⟩ : ByteArray)]) ?_ 1 _ rfl; (with_reducible repeat (first | refine blk_drewN ?_ _ | refine blk_drew ?_ | refine blk_alloc ?_ _)); refine blk_put (cs := #[.int .i64 0, .int .i64 0, .string (⟨#[]⟩ : ByteArray)]) ?_ 0 _ rfl; (with_reducible repeat (first | refine blk_drewN ?_ _ | refine blk_drew ?_ | refine blk_alloc ?_ _)); exact BK152.out) NB152_0.out (by simp)); have n2_ := Aside0.mk (KeepBut.trans (by repeat (first | (with_reducible first | exact HK.out | apply KeepBut.set_ | apply keep_drewN | apply keep_drew | apply keep_alloc | refine keep_far ?_ GW148.out _ | refine keep_far ?_ GW152.out _) | exact HK.out)) hk (.inl rfl)); have n3_ := Aside0.mk (hb); have n4_ := Aside0.mk (hi); clear BK148; clear BK152; clear HK; clear HB; clear HI0; have BK148 := n0_; have BK152 := n1_; have HK := n2_; have HB := n3_; have HI0 := n4_; clear n0_ n1_ n2_ n3_ n4_; (try clear hb); (try clear hb2); (try clear hk); (try clear hi); have hcz40_0 : w39.cell? ⟨gb152, 0, none⟩ = some (.int .i64 (wrap64 (t149))) := (blk_cell BK152.out 0).trans rfl; have hcz40_1 : w39.cell? ⟨gb152, 1, none⟩ = some (.int .i64 0) := (blk_cell BK152.out 1).trans rfl; have hcz40_2 : w39.cell? ⟨gb152, 2, none⟩ = some (.string (⟨#[]⟩ : ByteArray)) := (blk_cell BK152.out 2).trans rfl; have hfz40_0 := blk_frozen BK152.out 0; have hfz40_1 := blk_frozen BK152.out 1; have hfz40_2 := blk_frozen BK152.out 2) | ((with_reducible refine gate_callee (f := 54) rfl ?_); refine goesL_ (some 20) rfl rfl Try.func54 (by kernel_rfl) rfl #[.agg #[.int .i64 (wrap64 (t149)), .int .i64 0, .string t153]] rfl (by (try simp only [List.map_toArray, List.map_cons, List.map_nil]); first | done | rfl | (simp only [List.length_drop, List.length_take]; rfl)) ?_; (with_reducible refine (wherryref09_May.calls (wrap64 (t149)) 0 t153 t156 _ A5.out).mono ?_); rintro e w41 ⟨rfl, hb⟩; refine ⟨_, rfl, ?_⟩; have n0_ := Aside0.mk (IsS64.below (show IsS64 w0 (w39.setCell ⟨gb152, 2, none⟩ (.string t153)) g t154 t155 from by repeat (first | (with_reducible first | exact HI0.out | apply IsS64.alloc | apply IsS64.drewN | apply IsS64.drew | apply IsS64.set_0 | apply IsS64.set_1 | refine IsS64.far ?_ NB0_148.out _ | refine IsS64.far ?_ NB0_152.out _) | exact HI0.out)) hb); have n1_ := Aside0.mk (blk_below (g := gb148) (o := .cells #[.int .i64 0, .int .i64 0, .string (⟨#[]⟩ : ByteArray)] 50 (0, 0)) (by (with_reducible repeat (first | refine blk_drewN ?_ _ | refine blk_drew ?_ | refine blk_alloc ?_ _)); refine blk_far ?_ NB148_152.out _; (with_reducible repeat (first | refine blk_drewN ?_ _ | refine blk_drew ?_ | refine blk_alloc ?_ _)); exact BK148.out) hb); have n2_ := Aside0.mk (blk_below (g := gb152) (o := .cells #[.int .i64 (wrap64 (t149)), .int .i64 0, .string t153] 50 (0, 0)) (by (with_reducible repeat (first | refine blk_drewN ?_ _ | refine blk_drew ?_ | refine blk_alloc ?_ _)); refine blk_put (cs := #[.int .i64 (wrap64 (t149)), .int .i64 0, .string (⟨#[]⟩ : ByteArray)]) ?_ 2 _ rfl; (with_reducible repeat (first | refine blk_drewN ?_ _ | refine blk_drew ?_ | refine blk_alloc ?_ _)); exact BK152.out) hb); have n3_ := Aside0.mk (KeepBut.trans (by repeat (first | (with_reducible first | exact HK.out | apply KeepBut.set_ | apply keep_drewN | apply keep_drew | apply keep_alloc | refine keep_far ?_ GW148.out _ | refine keep_far ?_ GW152.out _) | exact HK.out)) (KeepBut.of_below hb g none) (.inl rfl)); have n4_ := Aside0.mk (below_step (by repeat (first | (with_reducible first | exact HB.out | apply below_alloc | apply pw_below_drewN | apply below_drew1 | refine below_set ?_ (IsS64.ge HI0.out) | refine below_set ?_ GE148.out | refine below_set ?_ GE152.out) | exact HB.out)) hb); clear HI0; clear BK148; clear BK152; clear HK; clear HB; have HI0 := n0_; have BK148 := n1_; have BK152 := n2_; have HK := n3_; have HB := n4_; clear n0_ n1_ n2_ n3_ n4_; (try clear hb); (try clear hb2); (try clear hk); (try clear hi); obtain ⟨HGz42, hgz42⟩ := HI0.out; have hcz42_0 := cellS64_0 HGz42; have hcz42_1 := cellS64_1 HGz42; have hfz42_0 := blk_frozen HGz42 0; have hfz42_1 := blk_frozen HGz42 1; clear HGz42 hgz42; have hnb43 := NB148_0.out; have hnc43 := NB0_148.out; have hcz44_0 : w41.cell? ⟨gb148, 0, none⟩ = some (.int .i64 0) := (blk_cell BK148.out 0).trans rfl; have hcz44_1 : w41.cell? ⟨gb148, 1, none⟩ = some (.int .i64 0) := (blk_cell BK148.out 1).trans rfl; have hcz44_2 : w41.cell? ⟨gb148, 2, none⟩ = some (.string (⟨#[]⟩ : ByteArray)) := (blk_cell BK148.out 2).trans rfl; have hfz44_0 := blk_frozen BK148.out 0; have hfz44_1 := blk_frozen BK148.out 1; have hfz44_2 := blk_frozen BK148.out 2))
      refine bodyPost_ret (results_ct rfl _ _ gb148 50 #[.int .i64 0, .int .i64 0, .string (⟨#[]⟩ : ByteArray)] (0, 0) _ rfl (by (with_reducible repeat (first | refine blk_drewN ?_ _ | refine blk_drew ?_ | refine blk_alloc ?_ _)); refine blk_put (cs := #[.int .i64 0, .int .i64 0, .string (⟨#[]⟩ : ByteArray)]) ?_ 2 _ rfl; (with_reducible repeat (first | refine blk_drewN ?_ _ | refine blk_drew ?_ | refine blk_alloc ?_ _)); refine blk_put (cs := #[.int .i64 0, .int .i64 0, .string (⟨#[]⟩ : ByteArray)]) ?_ 1 _ rfl; (with_reducible repeat (first | refine blk_drewN ?_ _ | refine blk_drew ?_ | refine blk_alloc ?_ _)); refine blk_put (cs := #[.int .i64 0, .int .i64 0, .string (⟨#[]⟩ : ByteArray)]) ?_ 0 _ rfl; (with_reducible repeat (first | refine blk_drewN ?_ _ | refine blk_drew ?_ | refine blk_alloc ?_ _)); exact BK148.out) Try.underlying50 rfl (by kernel_rfl)) rfl ?_
      exact ⟨by first | rfl | (simp [errW_none, errW_some] <;> rfl) | (simp [*, errW_none, errW_some] <;> rfl), by repeat (first | (with_reducible first | exact HI0.out | apply IsS64.alloc | apply IsS64.drewN | apply IsS64.drew | apply IsS64.set_0 | apply IsS64.set_1 | refine IsS64.far ?_ NB0_148.out _ | refine IsS64.far ?_ NB0_152.out _) | exact HI0.out), by repeat (first | (with_reducible first | exact HB.out | apply below_alloc | apply pw_below_drewN | apply below_drew1 | refine below_set ?_ (IsS64.ge HI0.out) | refine below_set ?_ GE148.out | refine below_set ?_ GE152.out) | exact HB.out), by repeat (first | (with_reducible first | exact HK.out | apply KeepBut.set_ | apply keep_drewN | apply keep_drew | apply keep_alloc | refine keep_far ?_ GW148.out _ | refine keep_far ?_ GW152.out _) | exact HK.out)⟩
  · rw [if_neg c3] at H
    have c3b0 : ((wrap64 (t149)) == 3) = false := beq_eq_false_iff_ne.mpr c3
    have c3b1 : ((wrap64 (t149)) != 3) = true := bne_iff_ne.mpr c3
    replace H := Option.bind_eq_some_iff.mp H
    obtain ⟨⟨t157, t158, t159⟩, A450, H⟩ := H
    replace H : ((wherryref09_May.f (wrap64 (t149)) t157 (⟨#[]⟩ : ByteArray)).bind fun t160 => (if t159 = 0 then (if t160 = true then (some (wrap64 (t149), t157, (⟨#[]⟩ : ByteArray), true, t158, t159)) else (some (0, 0, (⟨#[]⟩ : ByteArray), false, t158, t159))) else (some (0, 0, (⟨#[]⟩ : ByteArray), false, t158, t159)))) = some (r1, r2, r3, r4, r5, r6) := H
    have A45 := Aside0.mk A450
    clear A450
    replace H := Option.bind_eq_some_iff.mp H
    obtain ⟨t160, A460, H⟩ := H
    replace H : (if t159 = 0 then (if t160 = true then (some (wrap64 (t149), t157, (⟨#[]⟩ : ByteArray), true, t158, t159)) else (some (0, 0, (⟨#[]⟩ : ByteArray), false, t158, t159))) else (some (0, 0, (⟨#[]⟩ : ByteArray), false, t158, t159))) = some (r1, r2, r3, r4, r5, r6) := H
    have A46 := Aside0.mk A460
    clear A460
    by_cases c47 : t159 = 0
    · rw [if_pos c47] at H
      have c47b0 : (t159 == 0) = true := beq_iff_eq.mpr c47
      have c47b1 : (t159 != 0) = false := bne_eq_false_iff_eq.mpr c47
      clear c47
      by_cases c48 : t160 = true
      · subst c48
        have H1 : (some (wrap64 (t149), t157, (⟨#[]⟩ : ByteArray), true, t158, t159)) = some (r1, r2, r3, r4, r5, r6) := by rw [if_pos rfl] at H; exact H
        clear H
        have H := H1
        clear H1
        simp only [Option.some.injEq, Prod.mk.injEq] at H
        obtain ⟨rfl, rfl, rfl, rfl, rfl, rfl⟩ := H
        go_enter Try.func67, Try.ntmps67
        go_wp2_with (first | ((with_reducible refine gate_dst (N := 2) rfl ?_); refine box_event ?hg (N := 2) ?hd (cs := #[.int .i64 0, .int .i64 0, .string (⟨#[]⟩ : ByteArray)]) (t := 50) ?hr ?_; (case hd => rfl); (case hg => rfl); (case hr => first | (go_simp; done) | (go_simp; rfl)); intro gb148 hg w49 hbox hb; have n0_ := Aside0.mk (IsS64.below (by repeat (first | (with_reducible first | exact HI0.out | apply IsS64.alloc | apply IsS64.drewN | apply IsS64.drew | apply IsS64.set_0 | apply IsS64.set_1) | exact HI0.out)) hb); have n1_ := Aside0.mk (KeepBut.trans (by repeat (first | (with_reducible first | exact HK.out | apply KeepBut.set_ | apply keep_drewN | apply keep_drew | apply keep_alloc) | exact HK.out)) (KeepBut.of_below hb g none) (.inl rfl)); have n2_ := Aside0.mk (below_step (by repeat (first | (with_reducible first | exact HB.out | apply below_alloc | apply pw_below_drewN | apply below_drew1 | refine below_set ?_ (IsS64.ge HI0.out)) | exact HB.out)) hb); have n3_ := Aside0.mk (hbox); have n4_ := Aside0.mk ((by rw [hg]; exact (keep_size (w := w) (g := g) (row := none) (by repeat (first | (with_reducible first | exact HK.out | apply KeepBut.set_ | apply keep_drewN | apply keep_drew | apply keep_alloc) | exact HK.out))) : w.heap.size ≤ gb148)); have n5_ := Aside0.mk ((Nat.le_trans HW0.out (by rw [hg]; exact (keep_size (w := w) (g := g) (row := none) (by repeat (first | (with_reducible first | exact HK.out | apply KeepBut.set_ | apply keep_drewN | apply keep_drew | apply keep_alloc) | exact HK.out))) : w.heap.size ≤ gb148) : w0.heap.size ≤ gb148)); have n6_ := Aside0.mk ((by rw [hg]; exact Nat.ne_of_lt (IsS64.lt (show IsS64 w0 _ g s0_0 s0_1 from by repeat (first | (with_reducible first | exact HI0.out | apply IsS64.alloc | apply IsS64.drewN | apply IsS64.drew | apply IsS64.set_0 | apply IsS64.set_1) | exact HI0.out))) : g ≠ gb148)); have n7_ := Aside0.mk ((by rw [hg]; exact Nat.ne_of_gt (IsS64.lt (show IsS64 w0 _ g s0_0 s0_1 from by repeat (first | (with_reducible first | exact HI0.out | apply IsS64.alloc | apply IsS64.drewN | apply IsS64.drew | apply IsS64.set_0 | apply IsS64.set_1) | exact HI0.out))) : gb148 ≠ g)); clear HI0; clear HK; clear HB; have HI0 := n0_; have HK := n1_; have HB := n2_; have BK148 := n3_; have GW148 := n4_; have GE148 := n5_; have NB0_148 := n6_; have NB148_0 := n7_; clear n0_ n1_ n2_ n3_ n4_ n5_ n6_ n7_; clear hb hbox hg) | ((with_reducible refine gate_callee (f := 32) rfl ?_); refine goesL_ (some 7) rfl rfl Try.func32 (by kernel_rfl) rfl #[.pointer (some ⟨g, 0, none⟩)] rfl (by (try simp only [List.map_toArray, List.map_cons, List.map_nil]); first | done | rfl | (simp only [List.length_drop, List.length_take]; rfl)) ?_; (with_reducible refine (wherryref01_Reader_Byte.calls g s0_0 s0_1 t149 t150 t151 w0 _ ?side1 ?side2 A2.out).mono ?_); (case side1 => repeat (first | (with_reducible first | exact HI0.out | apply IsS64.alloc | apply IsS64.drewN | apply IsS64.drew | apply IsS64.set_0 | apply IsS64.set_1 | refine IsS64.far ?_ NB0_148.out _) | exact HI0.out)); (case side2 => repeat (first | (with_reducible first | exact HB.out | apply below_alloc | apply pw_below_drewN | apply below_drew1 | refine below_set ?_ (IsS64.ge HI0.out) | refine below_set ?_ GE148.out) | exact HB.out)); rintro e w50 ⟨rfl, hi, hb, hk⟩; refine ⟨_, rfl, ?_⟩; have n0_ := Aside0.mk (KeepBut.blk hk (g' := gb148) (o := .cells #[.int .i64 0, .int .i64 0, .string (⟨#[]⟩ : ByteArray)] 50 (0, 0)) (by (with_reducible repeat (first | refine blk_drewN ?_ _ | refine blk_drew ?_ | refine blk_alloc ?_ _)); exact BK148.out) NB148_0.out (by simp)); have n1_ := Aside0.mk (KeepBut.trans (by repeat (first | (with_reducible first | exact HK.out | apply KeepBut.set_ | apply keep_drewN | apply keep_drew | apply keep_alloc | refine keep_far ?_ GW148.out _) | exact HK.out)) hk (.inl rfl)); have n2_ := Aside0.mk (hb); have n3_ := Aside0.mk (hi); clear BK148; clear HK; clear HB; clear HI0; have BK148 := n0_; have HK := n1_; have HB := n2_; have HI0 := n3_; clear n0_ n1_ n2_ n3_; (try clear hb); (try clear hb2); (try clear hk); (try clear hi)) | ((with_reducible refine gate_dst (N := 4) rfl ?_); refine box_event ?hg (N := 4) ?hd (cs := #[.int .i64 0, .int .i64 0, .string (⟨#[]⟩ : ByteArray)]) (t := 50) ?hr ?_; (case hd => rfl); (case hg => rfl); (case hr => first | (go_simp; done) | (go_simp; rfl)); intro gb152 hg w51 hbox hb; have n0_ := Aside0.mk (IsS64.below (by repeat (first | (with_reducible first | exact HI0.out | apply IsS64.alloc | apply IsS64.drewN | apply IsS64.drew | apply IsS64.set_0 | apply IsS64.set_1 | refine IsS64.far ?_ NB0_148.out _) | exact HI0.out)) hb); have n1_ := Aside0.mk (blk_below (g := gb148) (o := .cells #[.int .i64 0, .int .i64 0, .string (⟨#[]⟩ : ByteArray)] 50 (0, 0)) (by (with_reducible repeat (first | refine blk_drewN ?_ _ | refine blk_drew ?_ | refine blk_alloc ?_ _)); exact BK148.out) hb); have n2_ := Aside0.mk (KeepBut.trans (by repeat (first | (with_reducible first | exact HK.out | apply KeepBut.set_ | apply keep_drewN | apply keep_drew | apply keep_alloc | refine keep_far ?_ GW148.out _) | exact HK.out)) (KeepBut.of_below hb g none) (.inl rfl)); have n3_ := Aside0.mk (below_step (by repeat (first | (with_reducible first | exact HB.out | apply below_alloc | apply pw_below_drewN | apply below_drew1 | refine below_set ?_ (IsS64.ge HI0.out) | refine below_set ?_ GE148.out) | exact HB.out)) hb); have n4_ := Aside0.mk (hbox); have n5_ := Aside0.mk ((by rw [hg]; exact (keep_size (w := w) (g := g) (row := none) (by repeat (first | (with_reducible first | exact HK.out | apply KeepBut.set_ | apply keep_drewN | apply keep_drew | apply keep_alloc | refine keep_far ?_ GW148.out _) | exact HK.out))) : w.heap.size ≤ gb152)); have n6_ := Aside0.mk ((Nat.le_trans HW0.out (by rw [hg]; exact (keep_size (w := w) (g := g) (row := none) (by repeat (first | (with_reducible first | exact HK.out | apply KeepBut.set_ | apply keep_drewN | apply keep_drew | apply keep_alloc | refine keep_far ?_ GW148.out _) | exact HK.out))) : w.heap.size ≤ gb152) : w0.heap.size ≤ gb152)); have n7_ := Aside0.mk ((by rw [hg]; exact Nat.ne_of_lt (blk_lt (g := gb148) (o := .cells #[.int .i64 0, .int .i64 0, .string (⟨#[]⟩ : ByteArray)] 50 (0, 0)) (by (with_reducible repeat (first | refine blk_drewN ?_ _ | refine blk_drew ?_ | refine blk_alloc ?_ _)); exact BK148.out)) : gb148 ≠ gb152)); have n8_ := Aside0.mk ((by rw [hg]; exact Nat.ne_of_gt (blk_lt (g := gb148) (o := .cells #[.int .i64 0, .int .i64 0, .string (⟨#[]⟩ : ByteArray)] 50 (0, 0)) (by (with_reducible repeat (first | refine blk_drewN ?_ _ | refine blk_drew ?_ | refine blk_alloc ?_ _)); exact BK148.out)) : gb152 ≠ gb148)); have n9_ := Aside0.mk ((by rw [hg]; exact Nat.ne_of_lt (IsS64.lt (show IsS64 w0 _ g t150 t151 from by repeat (first | (with_reducible first | exact HI0.out | apply IsS64.alloc | apply IsS64.drewN | apply IsS64.drew | apply IsS64.set_0 | apply IsS64.set_1 | refine IsS64.far ?_ NB0_148.out _) | exact HI0.out))) : g ≠ gb152)); have n10_ := Aside0.mk ((by rw [hg]; exact Nat.ne_of_gt (IsS64.lt (show IsS64 w0 _ g t150 t151 from by repeat (first | (with_reducible first | exact HI0.out | apply IsS64.alloc | apply IsS64.drewN | apply IsS64.drew | apply IsS64.set_0 | apply IsS64.set_1 | refine IsS64.far ?_ NB0_148.out _) | exact HI0.out))) : gb152 ≠ g)); clear HI0; clear BK148; clear HK; clear HB; have HI0 := n0_; have BK148 := n1_; have HK := n2_; have HB := n3_; have BK152 := n4_; have GW152 := n5_; have GE152 := n6_; have NB148_152 := n7_; have NB152_148 := n8_; have NB0_152 := n9_; have NB152_0 := n10_; clear n0_ n1_ n2_ n3_ n4_ n5_ n6_ n7_ n8_ n9_ n10_; clear hb hbox hg; have hnb52 := NB152_148.out; have hnc52 := NB148_152.out; have hnb53 := NB152_0.out; have hnc53 := NB0_152.out; have hcz54_0 : w51.cell? ⟨gb152, 0, none⟩ = some (.int .i64 0) := (blk_cell BK152.out 0).trans rfl; have hcz54_1 : w51.cell? ⟨gb152, 1, none⟩ = some (.int .i64 0) := (blk_cell BK152.out 1).trans rfl; have hcz54_2 : w51.cell? ⟨gb152, 2, none⟩ = some (.string (⟨#[]⟩ : ByteArray)) := (blk_cell BK152.out 2).trans rfl; have hfz54_0 := blk_frozen BK152.out 0; have hfz54_1 := blk_frozen BK152.out 1; have hfz54_2 := blk_frozen BK152.out 2) | ((with_reducible refine gate_callee (f := 34) rfl ?_); refine goesL_ (some 17) rfl rfl Try.func34 (by kernel_rfl) rfl #[.pointer (some ⟨g, 0, none⟩)] rfl (by (try simp only [List.map_toArray, List.map_cons, List.map_nil]); first | done | rfl | (simp only [List.length_drop, List.length_take]; rfl)) ?_; (with_reducible refine (wherryref01_Reader_Int.calls g t150 t151 t157 t158 t159 w0 _ ?side1 ?side2 A45.out).mono ?_); (case side1 => repeat (first | (with_reducible first | exact HI0.out | apply IsS64.alloc | apply IsS64.drewN | apply IsS64.drew | apply IsS64.set_0 | apply IsS64.set_1 | refine IsS64.far ?_ NB0_148.out _ | refine IsS64.far ?_ NB0_152.out _) | exact HI0.out)); (case side2 => repeat (first | (with_reducible first | exact HB.out | apply below_alloc | apply pw_below_drewN | apply below_drew1 | refine below_set ?_ (IsS64.ge HI0.out) | refine below_set ?_ GE148.out | refine below_set ?_ GE152.out) | exact HB.out)); rintro e w55 ⟨rfl, hi, hb, hk⟩; refine ⟨_, rfl, ?_⟩; have n0_ := Aside0.mk (KeepBut.blk hk (g' := gb148) (o := .cells #[.int .i64 0, .int .i64 0, .string (⟨#[]⟩ : ByteArray)] 50 (0, 0)) (by (with_reducible repeat (first | refine blk_drewN ?_ _ | refine blk_drew ?_ | refine blk_alloc ?_ _)); refine blk_far ?_ NB148_152.out _; (with_reducible repeat (first | refine blk_drewN ?_ _ | refine blk_drew ?_ | refine blk_alloc ?_ _)); refine blk_far ?_ NB148_152.out _; (with_reducible repeat (first | refine blk_drewN ?_ _ | refine blk_drew ?_ | refine blk_alloc ?_ _)); refine blk_far ?_ NB148_152.out _; (with_reducible repeat (first | refine blk_drewN ?_ _ | refine blk_drew ?_ | refine blk_alloc ?_ _)); exact BK148.out) NB148_0.out (by simp)); have n1_ := Aside0.mk (KeepBut.blk hk (g' := gb152) (o := .cells #[.int .i64 (wrap64 (t149)), .int .i64 0, .string (⟨#[]⟩ : ByteArray)] 50 (0, 0)) (by (with_reducible repeat (first | refine blk_drewN ?_ _ | refine blk_drew ?_ | refine blk_alloc ?_ _)); refine blk_put (cs := #[.int .i64 (wrap64 (t149)), .int .i64 0, .string (⟨#[]⟩ : ByteArray)]) ?_ 2 _ rfl; (with_reducible repeat (first | refine blk_drewN ?_ _ | refine blk_drew ?_ | refine blk_alloc ?_ _)); refine blk_put (cs := #[.int .i64 (wrap64 (t149)), .int .i64 0, .string (⟨#[]⟩ : ByteArray)]) ?_ 1 _ rfl; (with_reducible repeat (first | refine blk_drewN ?_ _ | refine blk_drew ?_ | refine blk_alloc ?_ _)); refine blk_put (cs := #[.int .i64 0, .int .i64 0, .string (⟨#[]⟩ : ByteArray)]) ?_ 0 _ rfl; (with_reducible repeat (first | refine blk_drewN ?_ _ | refine blk_drew ?_ | refine blk_alloc ?_ _)); exact BK152.out) NB152_0.out (by simp)); have n2_ := Aside0.mk (KeepBut.trans (by repeat (first | (with_reducible first | exact HK.out | apply KeepBut.set_ | apply keep_drewN | apply keep_drew | apply keep_alloc | refine keep_far ?_ GW148.out _ | refine keep_far ?_ GW152.out _) | exact HK.out)) hk (.inl rfl)); have n3_ := Aside0.mk (hb); have n4_ := Aside0.mk (hi); clear BK148; clear BK152; clear HK; clear HB; clear HI0; have BK148 := n0_; have BK152 := n1_; have HK := n2_; have HB := n3_; have HI0 := n4_; clear n0_ n1_ n2_ n3_ n4_; (try clear hb); (try clear hb2); (try clear hk); (try clear hi); have hcz56_0 : w55.cell? ⟨gb152, 0, none⟩ = some (.int .i64 (wrap64 (t149))) := (blk_cell BK152.out 0).trans rfl; have hcz56_1 : w55.cell? ⟨gb152, 1, none⟩ = some (.int .i64 0) := (blk_cell BK152.out 1).trans rfl; have hcz56_2 : w55.cell? ⟨gb152, 2, none⟩ = some (.string (⟨#[]⟩ : ByteArray)) := (blk_cell BK152.out 2).trans rfl; have hfz56_0 := blk_frozen BK152.out 0; have hfz56_1 := blk_frozen BK152.out 1; have hfz56_2 := blk_frozen BK152.out 2) | ((with_reducible refine gate_callee (f := 54) rfl ?_); refine goesL_ (some 20) rfl rfl Try.func54 (by kernel_rfl) rfl #[.agg #[.int .i64 (wrap64 (t149)), .int .i64 t157, .string (⟨#[]⟩ : ByteArray)]] rfl (by (try simp only [List.map_toArray, List.map_cons, List.map_nil]); first | done | rfl | (simp only [List.length_drop, List.length_take]; rfl)) ?_; (with_reducible refine (wherryref09_May.calls (wrap64 (t149)) t157 (⟨#[]⟩ : ByteArray) true _ A46.out).mono ?_); rintro e w57 ⟨rfl, hb⟩; refine ⟨_, rfl, ?_⟩; have n0_ := Aside0.mk (IsS64.below (show IsS64 w0 (w55.setCell ⟨gb152, 1, none⟩ (.int .i64 t157)) g t158 t159 from by repeat (first | (with_reducible first | exact HI0.out | apply IsS64.alloc | apply IsS64.drewN | apply IsS64.drew | apply IsS64.set_0 | apply IsS64.set_1 | refine IsS64.far ?_ NB0_148.out _ | refine IsS64.far ?_ NB0_152.out _) | exact HI0.out)) hb); have n1_ := Aside0.mk (blk_below (g := gb148) (o := .cells #[.int .i64 0, .int .i64 0, .string (⟨#[]⟩ : ByteArray)] 50 (0, 0)) (by (with_reducible repeat (first | refine blk_drewN ?_ _ | refine blk_drew ?_ | refine blk_alloc ?_ _)); refine blk_far ?_ NB148_152.out _; (with_reducible repeat (first | refine blk_drewN ?_ _ | refine blk_drew ?_ | refine blk_alloc ?_ _)); exact BK148.out) hb); have n2_ := Aside0.mk (blk_below (g := gb152) (o := .cells #[.int .i64 (wrap64 (t149)), .int .i64 t157, .string (⟨#[]⟩ : ByteArray)] 50 (0, 0)) (by (with_reducible repeat (first | refine blk_drewN ?_ _ | refine blk_drew ?_ | refine blk_alloc ?_ _)); refine blk_put (cs := #[.int .i64 (wrap64 (t149)), .int .i64 0, .string (⟨#[]⟩ : ByteArray)]) ?_ 1 _ rfl; (with_reducible repeat (first | refine blk_drewN ?_ _ | refine blk_drew ?_ | refine blk_alloc ?_ _)); exact BK152.out) hb); have n3_ := Aside0.mk (KeepBut.trans (by repeat (first | (with_reducible first | exact HK.out | apply KeepBut.set_ | apply keep_drewN | apply keep_drew | apply keep_alloc | refine keep_far ?_ GW148.out _ | refine keep_far ?_ GW152.out _) | exact HK.out)) (KeepBut.of_below hb g none) (.inl rfl)); have n4_ := Aside0.mk (below_step (by repeat (first | (with_reducible first | exact HB.out | apply below_alloc | apply pw_below_drewN | apply below_drew1 | refine below_set ?_ (IsS64.ge HI0.out) | refine below_set ?_ GE148.out | refine below_set ?_ GE152.out) | exact HB.out)) hb); clear HI0; clear BK148; clear BK152; clear HK; clear HB; have HI0 := n0_; have BK148 := n1_; have BK152 := n2_; have HK := n3_; have HB := n4_; clear n0_ n1_ n2_ n3_ n4_; (try clear hb); (try clear hb2); (try clear hk); (try clear hi); obtain ⟨HGz58, hgz58⟩ := HI0.out; have hcz58_0 := cellS64_0 HGz58; have hcz58_1 := cellS64_1 HGz58; have hfz58_0 := blk_frozen HGz58 0; have hfz58_1 := blk_frozen HGz58 1; clear HGz58 hgz58; have hcz59_0 : w57.cell? ⟨gb152, 0, none⟩ = some (.int .i64 (wrap64 (t149))) := (blk_cell BK152.out 0).trans rfl; have hcz59_1 : w57.cell? ⟨gb152, 1, none⟩ = some (.int .i64 t157) := (blk_cell BK152.out 1).trans rfl; have hcz59_2 : w57.cell? ⟨gb152, 2, none⟩ = some (.string (⟨#[]⟩ : ByteArray)) := (blk_cell BK152.out 2).trans rfl; have hfz59_0 := blk_frozen BK152.out 0; have hfz59_1 := blk_frozen BK152.out 1; have hfz59_2 := blk_frozen BK152.out 2; have hnb60 := NB148_0.out; have hnc60 := NB0_148.out; have hcz61_0 : w57.cell? ⟨gb148, 0, none⟩ = some (.int .i64 0) := (blk_cell BK148.out 0).trans rfl; have hcz61_1 : w57.cell? ⟨gb148, 1, none⟩ = some (.int .i64 0) := (blk_cell BK148.out 1).trans rfl; have hcz61_2 : w57.cell? ⟨gb148, 2, none⟩ = some (.string (⟨#[]⟩ : ByteArray)) := (blk_cell BK148.out 2).trans rfl; have hfz61_0 := blk_frozen BK148.out 0; have hfz61_1 := blk_frozen BK148.out 1; have hfz61_2 := blk_frozen BK148.out 2))
        refine bodyPost_ret (results_ct rfl _ _ gb148 50 #[.int .i64 (wrap64 (t149)), .int .i64 t157, .string (⟨#[]⟩ : ByteArray)] (0, 0) _ rfl (by (with_reducible repeat (first | refine blk_drewN ?_ _ | refine blk_drew ?_ | refine blk_alloc ?_ _)); refine blk_put (cs := #[.int .i64 (wrap64 (t149)), .int .i64 t157, .string (⟨#[]⟩ : ByteArray)]) ?_ 2 _ rfl; (with_reducible repeat (first | refine blk_drewN ?_ _ | refine blk_drew ?_ | refine blk_alloc ?_ _)); refine blk_put (cs := #[.int .i64 (wrap64 (t149)), .int .i64 0, .string (⟨#[]⟩ : ByteArray)]) ?_ 1 _ rfl; (with_reducible repeat (first | refine blk_drewN ?_ _ | refine blk_drew ?_ | refine blk_alloc ?_ _)); refine blk_put (cs := #[.int .i64 0, .int .i64 0, .string (⟨#[]⟩ : ByteArray)]) ?_ 0 _ rfl; (with_reducible repeat (first | refine blk_drewN ?_ _ | refine blk_drew ?_ | refine blk_alloc ?_ _)); exact BK148.out) Try.underlying50 rfl (by kernel_rfl)) rfl ?_
        exact ⟨by first | rfl | (simp [errW_none, errW_some] <;> rfl) | (simp [*, errW_none, errW_some] <;> rfl), by repeat (first | (with_reducible first | exact HI0.out | apply IsS64.alloc | apply IsS64.drewN | apply IsS64.drew | apply IsS64.set_0 | apply IsS64.set_1 | refine IsS64.far ?_ NB0_148.out _ | refine IsS64.far ?_ NB0_152.out _) | exact HI0.out), by repeat (first | (with_reducible first | exact HB.out | apply below_alloc | apply pw_below_drewN | apply below_drew1 | refine below_set ?_ (IsS64.ge HI0.out) | refine below_set ?_ GE148.out | refine below_set ?_ GE152.out) | exact HB.out), by repeat (first | (with_reducible first | exact HK.out | apply KeepBut.set_ | apply keep_drewN | apply keep_drew | apply keep_alloc | refine keep_far ?_ GW148.out _ | refine keep_far ?_ GW152.out _) | exact HK.out)⟩
      · replace c48 := Bool.eq_false_iff.mpr c48
        subst c48
        have H1 : (some (0, 0, (⟨#[]⟩ : ByteArray), false, t158, t159)) = some (r1, r2, r3, r4, r5, r6) := by rw [if_neg (show ¬ (false = true) by decide)] at H; exact H
        clear H
        have H := H1
        clear H1
        simp only [Option.some.injEq, Prod.mk.injEq] at H
        obtain ⟨rfl, rfl, rfl, rfl, rfl, rfl⟩ := H
        go_enter Try.func67, Try.ntmps67
        go_wp2_with (first | ((with_reducible refine gate_dst (N := 2) rfl ?_); refine box_event ?hg (N := 2) ?hd (cs := #[.int .i64 0, .int .i64 0, .string (⟨#[]⟩ : ByteArray)]) (t := 50) ?hr ?_; (case hd => rfl); (case hg => rfl); (case hr => first | (go_simp; done) | (go_simp; rfl)); intro gb148 hg w62 hbox hb; have n0_ := Aside0.mk (IsS64.below (by repeat (first | (with_reducible first | exact HI0.out | apply IsS64.alloc | apply IsS64.drewN | apply IsS64.drew | apply IsS64.set_0 | apply IsS64.set_1) | exact HI0.out)) hb); have n1_ := Aside0.mk (KeepBut.trans (by repeat (first | (with_reducible first | exact HK.out | apply KeepBut.set_ | apply keep_drewN | apply keep_drew | apply keep_alloc) | exact HK.out)) (KeepBut.of_below hb g none) (.inl rfl)); have n2_ := Aside0.mk (below_step (by repeat (first | (with_reducible first | exact HB.out | apply below_alloc | apply pw_below_drewN | apply below_drew1 | refine below_set ?_ (IsS64.ge HI0.out)) | exact HB.out)) hb); have n3_ := Aside0.mk (hbox); have n4_ := Aside0.mk ((by rw [hg]; exact (keep_size (w := w) (g := g) (row := none) (by repeat (first | (with_reducible first | exact HK.out | apply KeepBut.set_ | apply keep_drewN | apply keep_drew | apply keep_alloc) | exact HK.out))) : w.heap.size ≤ gb148)); have n5_ := Aside0.mk ((Nat.le_trans HW0.out (by rw [hg]; exact (keep_size (w := w) (g := g) (row := none) (by repeat (first | (with_reducible first | exact HK.out | apply KeepBut.set_ | apply keep_drewN | apply keep_drew | apply keep_alloc) | exact HK.out))) : w.heap.size ≤ gb148) : w0.heap.size ≤ gb148)); have n6_ := Aside0.mk ((by rw [hg]; exact Nat.ne_of_lt (IsS64.lt (show IsS64 w0 _ g s0_0 s0_1 from by repeat (first | (with_reducible first | exact HI0.out | apply IsS64.alloc | apply IsS64.drewN | apply IsS64.drew | apply IsS64.set_0 | apply IsS64.set_1) | exact HI0.out))) : g ≠ gb148)); have n7_ := Aside0.mk ((by rw [hg]; exact Nat.ne_of_gt (IsS64.lt (show IsS64 w0 _ g s0_0 s0_1 from by repeat (first | (with_reducible first | exact HI0.out | apply IsS64.alloc | apply IsS64.drewN | apply IsS64.drew | apply IsS64.set_0 | apply IsS64.set_1) | exact HI0.out))) : gb148 ≠ g)); clear HI0; clear HK; clear HB; have HI0 := n0_; have HK := n1_; have HB := n2_; have BK148 := n3_; have GW148 := n4_; have GE148 := n5_; have NB0_148 := n6_; have NB148_0 := n7_; clear n0_ n1_ n2_ n3_ n4_ n5_ n6_ n7_; clear hb hbox hg) | ((with_reducible refine gate_callee (f := 32) rfl ?_); refine goesL_ (some 7) rfl rfl Try.func32 (by kernel_rfl) rfl #[.pointer (some ⟨g, 0, none⟩)] rfl (by (try simp only [List.map_toArray, List.map_cons, List.map_nil]); first | done | rfl | (simp only [List.length_drop, List.length_take]; rfl)) ?_; (with_reducible refine (wherryref01_Reader_Byte.calls g s0_0 s0_1 t149 t150 t151 w0 _ ?side1 ?side2 A2.out).mono ?_); (case side1 => repeat (first | (with_reducible first | exact HI0.out | apply IsS64.alloc | apply IsS64.drewN | apply IsS64.drew | apply IsS64.set_0 | apply IsS64.set_1 | refine IsS64.far ?_ NB0_148.out _) | exact HI0.out)); (case side2 => repeat (first | (with_reducible first | exact HB.out | apply below_alloc | apply pw_below_drewN | apply below_drew1 | refine below_set ?_ (IsS64.ge HI0.out) | refine below_set ?_ GE148.out) | exact HB.out)); rintro e w63 ⟨rfl, hi, hb, hk⟩; refine ⟨_, rfl, ?_⟩; have n0_ := Aside0.mk (KeepBut.blk hk (g' := gb148) (o := .cells #[.int .i64 0, .int .i64 0, .string (⟨#[]⟩ : ByteArray)] 50 (0, 0)) (by (with_reducible repeat (first | refine blk_drewN ?_ _ | refine blk_drew ?_ | refine blk_alloc ?_ _)); exact BK148.out) NB148_0.out (by simp)); have n1_ := Aside0.mk (KeepBut.trans (by repeat (first | (with_reducible first | exact HK.out | apply KeepBut.set_ | apply keep_drewN | apply keep_drew | apply keep_alloc | refine keep_far ?_ GW148.out _) | exact HK.out)) hk (.inl rfl)); have n2_ := Aside0.mk (hb); have n3_ := Aside0.mk (hi); clear BK148; clear HK; clear HB; clear HI0; have BK148 := n0_; have HK := n1_; have HB := n2_; have HI0 := n3_; clear n0_ n1_ n2_ n3_; (try clear hb); (try clear hb2); (try clear hk); (try clear hi)) | ((with_reducible refine gate_dst (N := 4) rfl ?_); refine box_event ?hg (N := 4) ?hd (cs := #[.int .i64 0, .int .i64 0, .string (⟨#[]⟩ : ByteArray)]) (t := 50) ?hr ?_; (case hd => rfl); (case hg => rfl); (case hr => first | (go_simp; done) | (go_simp; rfl)); intro gb152 hg w64 hbox hb; have n0_ := Aside0.mk (IsS64.below (by repeat (first | (with_reducible first | exact HI0.out | apply IsS64.alloc | apply IsS64.drewN | apply IsS64.drew | apply IsS64.set_0 | apply IsS64.set_1 | refine IsS64.far ?_ NB0_148.out _) | exact HI0.out)) hb); have n1_ := Aside0.mk (blk_below (g := gb148) (o := .cells #[.int .i64 0, .int .i64 0, .string (⟨#[]⟩ : ByteArray)] 50 (0, 0)) (by (with_reducible repeat (first | refine blk_drewN ?_ _ | refine blk_drew ?_ | refine blk_alloc ?_ _)); exact BK148.out) hb); have n2_ := Aside0.mk (KeepBut.trans (by repeat (first | (with_reducible first | exact HK.out | apply KeepBut.set_ | apply keep_drewN | apply keep_drew | apply keep_alloc | refine keep_far ?_ GW148.out _) | exact HK.out)) (KeepBut.of_below hb g none) (.inl rfl)); have n3_ := Aside0.mk (below_step (by repeat (first | (with_reducible first | exact HB.out | apply below_alloc | apply pw_below_drewN | apply below_drew1 | refine below_set ?_ (IsS64.ge HI0.out) | refine below_set ?_ GE148.out) | exact HB.out)) hb); have n4_ := Aside0.mk (hbox); have n5_ := Aside0.mk ((by rw [hg]; exact (keep_size (w := w) (g := g) (row := none) (by repeat (first | (with_reducible first | exact HK.out | apply KeepBut.set_ | apply keep_drewN | apply keep_drew | apply keep_alloc | refine keep_far ?_ GW148.out _) | exact HK.out))) : w.heap.size ≤ gb152)); have n6_ := Aside0.mk ((Nat.le_trans HW0.out (by rw [hg]; exact (keep_size (w := w) (g := g) (row := none) (by repeat (first | (with_reducible first | exact HK.out | apply KeepBut.set_ | apply keep_drewN | apply keep_drew | apply keep_alloc | refine keep_far ?_ GW148.out _) | exact HK.out))) : w.heap.size ≤ gb152) : w0.heap.size ≤ gb152)); have n7_ := Aside0.mk ((by rw [hg]; exact Nat.ne_of_lt (blk_lt (g := gb148) (o := .cells #[.int .i64 0, .int .i64 0, .string (⟨#[]⟩ : ByteArray)] 50 (0, 0)) (by (with_reducible repeat (first | refine blk_drewN ?_ _ | refine blk_drew ?_ | refine blk_alloc ?_ _)); exact BK148.out)) : gb148 ≠ gb152)); have n8_ := Aside0.mk ((by rw [hg]; exact Nat.ne_of_gt (blk_lt (g := gb148) (o := .cells #[.int .i64 0, .int .i64 0, .string (⟨#[]⟩ : ByteArray)] 50 (0, 0)) (by (with_reducible repeat (first | refine blk_drewN ?_ _ | refine blk_drew ?_ | refine blk_alloc ?_ _)); exact BK148.out)) : gb152 ≠ gb148)); have n9_ := Aside0.mk ((by rw [hg]; exact Nat.ne_of_lt (IsS64.lt (show IsS64 w0 _ g t150 t151 from by repeat (first | (with_reducible first | exact HI0.out | apply IsS64.alloc | apply IsS64.drewN | apply IsS64.drew | apply IsS64.set_0 | apply IsS64.set_1 | refine IsS64.far ?_ NB0_148.out _) | exact HI0.out))) : g ≠ gb152)); have n10_ := Aside0.mk ((by rw [hg]; exact Nat.ne_of_gt (IsS64.lt (show IsS64 w0 _ g t150 t151 from by repeat (first | (with_reducible first | exact HI0.out | apply IsS64.alloc | apply IsS64.drewN | apply IsS64.drew | apply IsS64.set_0 | apply IsS64.set_1 | refine IsS64.far ?_ NB0_148.out _) | exact HI0.out))) : gb152 ≠ g)); clear HI0; clear BK148; clear HK; clear HB; have HI0 := n0_; have BK148 := n1_; have HK := n2_; have HB := n3_; have BK152 := n4_; have GW152 := n5_; have GE152 := n6_; have NB148_152 := n7_; have NB152_148 := n8_; have NB0_152 := n9_; have NB152_0 := n10_; clear n0_ n1_ n2_ n3_ n4_ n5_ n6_ n7_ n8_ n9_ n10_; clear hb hbox hg; have hnb65 := NB152_148.out; have hnc65 := NB148_152.out; have hnb66 := NB152_0.out; have hnc66 := NB0_152.out; have hcz67_0 : w64.cell? ⟨gb152, 0, none⟩ = some (.int .i64 0) := (blk_cell BK152.out 0).trans rfl; have hcz67_1 : w64.cell? ⟨gb152, 1, none⟩ = some (.int .i64 0) := (blk_cell BK152.out 1).trans rfl; have hcz67_2 : w64.cell? ⟨gb152, 2, none⟩ = some (.string (⟨#[]⟩ : ByteArray)) := (blk_cell BK152.out 2).trans rfl; have hfz67_0 := blk_frozen BK152.out 0; have hfz67_1 := blk_frozen BK152.out 1; have hfz67_2 := blk_frozen BK152.out 2) | ((with_reducible refine gate_callee (f := 34) rfl ?_); refine goesL_ (some 17) rfl rfl Try.func34 (by kernel_rfl) rfl #[.pointer (some ⟨g, 0, none⟩)] rfl (by (try simp only [List.map_toArray, List.map_cons, List.map_nil]); first | done | rfl | (simp only [List.length_drop, List.length_take]; rfl)) ?_; (with_reducible refine (wherryref01_Reader_Int.calls g t150 t151 t157 t158 t159 w0 _ ?side1 ?side2 A45.out).mono ?_); (case side1 => repeat (first | (with_reducible first | exact HI0.out | apply IsS64.alloc | apply IsS64.drewN | apply IsS64.drew | apply IsS64.set_0 | apply IsS64.set_1 | refine IsS64.far ?_ NB0_148.out _ | refine IsS64.far ?_ NB0_152.out _) | exact HI0.out)); (case side2 => repeat (first | (with_reducible first | exact HB.out | apply below_alloc | apply pw_below_drewN | apply below_drew1 | refine below_set ?_ (IsS64.ge HI0.out) | refine below_set ?_ GE148.out | refine below_set ?_ GE152.out) | exact HB.out)); rintro e w68 ⟨rfl, hi, hb, hk⟩; refine ⟨_, rfl, ?_⟩; have n0_ := Aside0.mk (KeepBut.blk hk (g' := gb148) (o := .cells #[.int .i64 0, .int .i64 0, .string (⟨#[]⟩ : ByteArray)] 50 (0, 0)) (by (with_reducible repeat (first | refine blk_drewN ?_ _ | refine blk_drew ?_ | refine blk_alloc ?_ _)); refine blk_far ?_ NB148_152.out _; (with_reducible repeat (first | refine blk_drewN ?_ _ | refine blk_drew ?_ | refine blk_alloc ?_ _)); refine blk_far ?_ NB148_152.out _; (with_reducible repeat (first | refine blk_drewN ?_ _ | refine blk_drew ?_ | refine blk_alloc ?_ _)); refine blk_far ?_ NB148_152.out _; (with_reducible repeat (first | refine blk_drewN ?_ _ | refine blk_drew ?_ | refine blk_alloc ?_ _)); exact BK148.out) NB148_0.out (by simp)); have n1_ := Aside0.mk (KeepBut.blk hk (g' := gb152) (o := .cells #[.int .i64 (wrap64 (t149)), .int .i64 0, .string (⟨#[]⟩ : ByteArray)] 50 (0, 0)) (by (with_reducible repeat (first | refine blk_drewN ?_ _ | refine blk_drew ?_ | refine blk_alloc ?_ _)); refine blk_put (cs := #[.int .i64 (wrap64 (t149)), .int .i64 0, .string (⟨#[]⟩ : ByteArray)]) ?_ 2 _ rfl; (with_reducible repeat (first | refine blk_drewN ?_ _ | refine blk_drew ?_ | refine blk_alloc ?_ _)); refine blk_put (cs := #[.int .i64 (wrap64 (t149)), .int .i64 0, .string (⟨#[]⟩ : ByteArray)]) ?_ 1 _ rfl; (with_reducible repeat (first | refine blk_drewN ?_ _ | refine blk_drew ?_ | refine blk_alloc ?_ _)); refine blk_put (cs := #[.int .i64 0, .int .i64 0, .string (⟨#[]⟩ : ByteArray)]) ?_ 0 _ rfl; (with_reducible repeat (first | refine blk_drewN ?_ _ | refine blk_drew ?_ | refine blk_alloc ?_ _)); exact BK152.out) NB152_0.out (by simp)); have n2_ := Aside0.mk (KeepBut.trans (by repeat (first | (with_reducible first | exact HK.out | apply KeepBut.set_ | apply keep_drewN | apply keep_drew | apply keep_alloc | refine keep_far ?_ GW148.out _ | refine keep_far ?_ GW152.out _) | exact HK.out)) hk (.inl rfl)); have n3_ := Aside0.mk (hb); have n4_ := Aside0.mk (hi); clear BK148; clear BK152; clear HK; clear HB; clear HI0; have BK148 := n0_; have BK152 := n1_; have HK := n2_; have HB := n3_; have HI0 := n4_; clear n0_ n1_ n2_ n3_ n4_; (try clear hb); (try clear hb2); (try clear hk); (try clear hi); have hcz69_0 : w68.cell? ⟨gb152, 0, none⟩ = some (.int .i64 (wrap64 (t149))) := (blk_cell BK152.out 0).trans rfl; have hcz69_1 : w68.cell? ⟨gb152, 1, none⟩ = some (.int .i64 0) := (blk_cell BK152.out 1).trans rfl; have hcz69_2 : w68.cell? ⟨gb152, 2, none⟩ = some (.string (⟨#[]⟩ : ByteArray)) := (blk_cell BK152.out 2).trans rfl; have hfz69_0 := blk_frozen BK152.out 0; have hfz69_1 := blk_frozen BK152.out 1; have hfz69_2 := blk_frozen BK152.out 2) | ((with_reducible refine gate_callee (f := 54) rfl ?_); refine goesL_ (some 20) rfl rfl Try.func54 (by kernel_rfl) rfl #[.agg #[.int .i64 (wrap64 (t149)), .int .i64 t157, .string (⟨#[]⟩ : ByteArray)]] rfl (by (try simp only [List.map_toArray, List.map_cons, List.map_nil]); first | done | rfl | (simp only [List.length_drop, List.length_take]; rfl)) ?_; (with_reducible refine (wherryref09_May.calls (wrap64 (t149)) t157 (⟨#[]⟩ : ByteArray) false _ A46.out).mono ?_); rintro e w70 ⟨rfl, hb⟩; refine ⟨_, rfl, ?_⟩; have n0_ := Aside0.mk (IsS64.below (show IsS64 w0 (w68.setCell ⟨gb152, 1, none⟩ (.int .i64 t157)) g t158 t159 from by repeat (first | (with_reducible first | exact HI0.out | apply IsS64.alloc | apply IsS64.drewN | apply IsS64.drew | apply IsS64.set_0 | apply IsS64.set_1 | refine IsS64.far ?_ NB0_148.out _ | refine IsS64.far ?_ NB0_152.out _) | exact HI0.out)) hb); have n1_ := Aside0.mk (blk_below (g := gb148) (o := .cells #[.int .i64 0, .int .i64 0, .string (⟨#[]⟩ : ByteArray)] 50 (0, 0)) (by (with_reducible repeat (first | refine blk_drewN ?_ _ | refine blk_drew ?_ | refine blk_alloc ?_ _)); refine blk_far ?_ NB148_152.out _; (with_reducible repeat (first | refine blk_drewN ?_ _ | refine blk_drew ?_ | refine blk_alloc ?_ _)); exact BK148.out) hb); have n2_ := Aside0.mk (blk_below (g := gb152) (o := .cells #[.int .i64 (wrap64 (t149)), .int .i64 t157, .string (⟨#[]⟩ : ByteArray)] 50 (0, 0)) (by (with_reducible repeat (first | refine blk_drewN ?_ _ | refine blk_drew ?_ | refine blk_alloc ?_ _)); refine blk_put (cs := #[.int .i64 (wrap64 (t149)), .int .i64 0, .string (⟨#[]⟩ : ByteArray)]) ?_ 1 _ rfl; (with_reducible repeat (first | refine blk_drewN ?_ _ | refine blk_drew ?_ | refine blk_alloc ?_ _)); exact BK152.out) hb); have n3_ := Aside0.mk (KeepBut.trans (by repeat (first | (with_reducible first | exact HK.out | apply KeepBut.set_ | apply keep_drewN | apply keep_drew | apply keep_alloc | refine keep_far ?_ GW148.out _ | refine keep_far ?_ GW152.out _) | exact HK.out)) (KeepBut.of_below hb g none) (.inl rfl)); have n4_ := Aside0.mk (below_step (by repeat (first | (with_reducible first | exact HB.out | apply below_alloc | apply pw_below_drewN | apply below_drew1 | refine below_set ?_ (IsS64.ge HI0.out) | refine below_set ?_ GE148.out | refine below_set ?_ GE152.out) | exact HB.out)) hb); clear HI0; clear BK148; clear BK152; clear HK; clear HB; have HI0 := n0_; have BK148 := n1_; have BK152 := n2_; have HK := n3_; have HB := n4_; clear n0_ n1_ n2_ n3_ n4_; (try clear hb); (try clear hb2); (try clear hk); (try clear hi); obtain ⟨HGz71, hgz71⟩ := HI0.out; have hcz71_0 := cellS64_0 HGz71; have hcz71_1 := cellS64_1 HGz71; have hfz71_0 := blk_frozen HGz71 0; have hfz71_1 := blk_frozen HGz71 1; clear HGz71 hgz71; have hnb72 := NB148_0.out; have hnc72 := NB0_148.out; have hcz73_0 : w70.cell? ⟨gb148, 0, none⟩ = some (.int .i64 0) := (blk_cell BK148.out 0).trans rfl; have hcz73_1 : w70.cell? ⟨gb148, 1, none⟩ = some (.int .i64 0) := (blk_cell BK148.out 1).trans rfl; have hcz73_2 : w70.cell? ⟨gb148, 2, none⟩ = some (.string (⟨#[]⟩ : ByteArray)) := (blk_cell BK148.out 2).trans rfl; have hfz73_0 := blk_frozen BK148.out 0; have hfz73_1 := blk_frozen BK148.out 1; have hfz73_2 := blk_frozen BK148.out 2))
        refine bodyPost_ret (results_ct rfl _ _ gb148 50 #[.int .i64 0, .int .i64 0, .string (⟨#[]⟩ : ByteArray)] (0, 0) _ rfl (by (with_reducible repeat (first | refine blk_drewN ?_ _ | refine blk_drew ?_ | refine blk_alloc ?_ _)); refine blk_put (cs := #[.int .i64 0, .int .i64 0, .string (⟨#[]⟩ : ByteArray)]) ?_ 2 _ rfl; (with_reducible repeat (first | refine blk_drewN ?_ _ | refine blk_drew ?_ | refine blk_alloc ?_ _)); refine blk_put (cs := #[.int .i64 0, .int .i64 0, .string (⟨#[]⟩ : ByteArray)]) ?_ 1 _ rfl; (with_reducible repeat (first | refine blk_drewN ?_ _ | refine blk_drew ?_ | refine blk_alloc ?_ _)); refine blk_put (cs := #[.int .i64 0, .int .i64 0, .string (⟨#[]⟩ : ByteArray)]) ?_ 0 _ rfl; (with_reducible repeat (first | refine blk_drewN ?_ _ | refine blk_drew ?_ | refine blk_alloc ?_ _)); exact BK148.out) Try.underlying50 rfl (by kernel_rfl)) rfl ?_
        exact ⟨by first | rfl | (simp [errW_none, errW_some] <;> rfl) | (simp [*, errW_none, errW_some] <;> rfl), by repeat (first | (with_reducible first | exact HI0.out | apply IsS64.alloc | apply IsS64.drewN | apply IsS64.drew | apply IsS64.set_0 | apply IsS64.set_1 | refine IsS64.far ?_ NB0_148.out _ | refine IsS64.far ?_ NB0_152.out _) | exact HI0.out), by repeat (first | (with_reducible first | exact HB.out | apply below_alloc | apply pw_below_drewN | apply below_drew1 | refine below_set ?_ (IsS64.ge HI0.out) | refine below_set ?_ GE148.out | refine below_set ?_ GE152.out) | exact HB.out), by repeat (first | (with_reducible first | exact HK.out | apply KeepBut.set_ | apply keep_drewN | apply keep_drew | apply keep_alloc | refine keep_far ?_ GW148.out _ | refine keep_far ?_ GW152.out _) | exact HK.out)⟩
    · rw [if_neg c47] at H
      have c47b0 : (t159 == 0) = false := beq_eq_false_iff_ne.mpr c47
      have c47b1 : (t159 != 0) = true := bne_iff_ne.mpr c47
      simp only [Option.some.injEq, Prod.mk.injEq] at H
      obtain ⟨rfl, rfl, rfl, rfl, rfl, rfl⟩ := H
      go_enter Try.func67, Try.ntmps67
      go_wp2_with (first | ((with_reducible refine gate_dst (N := 2) rfl ?_); refine box_event ?hg (N := 2) ?hd (cs := #[.int .i64 0, .int .i64 0, .string (⟨#[]⟩ : ByteArray)]) (t := 50) ?hr ?_; (case hd => rfl); (case hg => rfl); (case hr => first | (go_simp; done) | (go_simp; rfl)); intro gb148 hg w74 hbox hb; have n0_ := Aside0.mk (IsS64.below (by repeat (first | (with_reducible first | exact HI0.out | apply IsS64.alloc | apply IsS64.drewN | apply IsS64.drew | apply IsS64.set_0 | apply IsS64.set_1) | exact HI0.out)) hb); have n1_ := Aside0.mk (KeepBut.trans (by repeat (first | (with_reducible first | exact HK.out | apply KeepBut.set_ | apply keep_drewN | apply keep_drew | apply keep_alloc) | exact HK.out)) (KeepBut.of_below hb g none) (.inl rfl)); have n2_ := Aside0.mk (below_step (by repeat (first | (with_reducible first | exact HB.out | apply below_alloc | apply pw_below_drewN | apply below_drew1 | refine below_set ?_ (IsS64.ge HI0.out)) | exact HB.out)) hb); have n3_ := Aside0.mk (hbox); have n4_ := Aside0.mk ((by rw [hg]; exact (keep_size (w := w) (g := g) (row := none) (by repeat (first | (with_reducible first | exact HK.out | apply KeepBut.set_ | apply keep_drewN | apply keep_drew | apply keep_alloc) | exact HK.out))) : w.heap.size ≤ gb148)); have n5_ := Aside0.mk ((Nat.le_trans HW0.out (by rw [hg]; exact (keep_size (w := w) (g := g) (row := none) (by repeat (first | (with_reducible first | exact HK.out | apply KeepBut.set_ | apply keep_drewN | apply keep_drew | apply keep_alloc) | exact HK.out))) : w.heap.size ≤ gb148) : w0.heap.size ≤ gb148)); have n6_ := Aside0.mk ((by rw [hg]; exact Nat.ne_of_lt (IsS64.lt (show IsS64 w0 _ g s0_0 s0_1 from by repeat (first | (with_reducible first | exact HI0.out | apply IsS64.alloc | apply IsS64.drewN | apply IsS64.drew | apply IsS64.set_0 | apply IsS64.set_1) | exact HI0.out))) : g ≠ gb148)); have n7_ := Aside0.mk ((by rw [hg]; exact Nat.ne_of_gt (IsS64.lt (show IsS64 w0 _ g s0_0 s0_1 from by repeat (first | (with_reducible first | exact HI0.out | apply IsS64.alloc | apply IsS64.drewN | apply IsS64.drew | apply IsS64.set_0 | apply IsS64.set_1) | exact HI0.out))) : gb148 ≠ g)); clear HI0; clear HK; clear HB; have HI0 := n0_; have HK := n1_; have HB := n2_; have BK148 := n3_; have GW148 := n4_; have GE148 := n5_; have NB0_148 := n6_; have NB148_0 := n7_; clear n0_ n1_ n2_ n3_ n4_ n5_ n6_ n7_; clear hb hbox hg) | ((with_reducible refine gate_callee (f := 32) rfl ?_); refine goesL_ (some 7) rfl rfl Try.func32 (by kernel_rfl) rfl #[.pointer (some ⟨g, 0, none⟩)] rfl (by (try simp only [List.map_toArray, List.map_cons, List.map_nil]); first | done | rfl | (simp only [List.length_drop, List.length_take]; rfl)) ?_; (with_reducible refine (wherryref01_Reader_Byte.calls g s0_0 s0_1 t149 t150 t151 w0 _ ?side1 ?side2 A2.out).mono ?_); (case side1 => repeat (first | (with_reducible first | exact HI0.out | apply IsS64.alloc | apply IsS64.drewN | apply IsS64.drew | apply IsS64.set_0 | apply IsS64.set_1 | refine IsS64.far ?_ NB0_148.out _) | exact HI0.out)); (case side2 => repeat (first | (with_reducible first | exact HB.out | apply below_alloc | apply pw_below_drewN | apply below_drew1 | refine below_set ?_ (IsS64.ge HI0.out) | refine below_set ?_ GE148.out) | exact HB.out)); rintro e w75 ⟨rfl, hi, hb, hk⟩; refine ⟨_, rfl, ?_⟩; have n0_ := Aside0.mk (KeepBut.blk hk (g' := gb148) (o := .cells #[.int .i64 0, .int .i64 0, .string (⟨#[]⟩ : ByteArray)] 50 (0, 0)) (by (with_reducible repeat (first | refine blk_drewN ?_ _ | refine blk_drew ?_ | refine blk_alloc ?_ _)); exact BK148.out) NB148_0.out (by simp)); have n1_ := Aside0.mk (KeepBut.trans (by repeat (first | (with_reducible first | exact HK.out | apply KeepBut.set_ | apply keep_drewN | apply keep_drew | apply keep_alloc | refine keep_far ?_ GW148.out _) | exact HK.out)) hk (.inl rfl)); have n2_ := Aside0.mk (hb); have n3_ := Aside0.mk (hi); clear BK148; clear HK; clear HB; clear HI0; have BK148 := n0_; have HK := n1_; have HB := n2_; have HI0 := n3_; clear n0_ n1_ n2_ n3_; (try clear hb); (try clear hb2); (try clear hk); (try clear hi)) | ((with_reducible refine gate_dst (N := 4) rfl ?_); refine box_event ?hg (N := 4) ?hd (cs := #[.int .i64 0, .int .i64 0, .string (⟨#[]⟩ : ByteArray)]) (t := 50) ?hr ?_; (case hd => rfl); (case hg => rfl); (case hr => first | (go_simp; done) | (go_simp; rfl)); intro gb152 hg w76 hbox hb; have n0_ := Aside0.mk (IsS64.below (by repeat (first | (with_reducible first | exact HI0.out | apply IsS64.alloc | apply IsS64.drewN | apply IsS64.drew | apply IsS64.set_0 | apply IsS64.set_1 | refine IsS64.far ?_ NB0_148.out _) | exact HI0.out)) hb); have n1_ := Aside0.mk (blk_below (g := gb148) (o := .cells #[.int .i64 0, .int .i64 0, .string (⟨#[]⟩ : ByteArray)] 50 (0, 0)) (by (with_reducible repeat (first | refine blk_drewN ?_ _ | refine blk_drew ?_ | refine blk_alloc ?_ _)); exact BK148.out) hb); have n2_ := Aside0.mk (KeepBut.trans (by repeat (first | (with_reducible first | exact HK.out | apply KeepBut.set_ | apply keep_drewN | apply keep_drew | apply keep_alloc | refine keep_far ?_ GW148.out _) | exact HK.out)) (KeepBut.of_below hb g none) (.inl rfl)); have n3_ := Aside0.mk (below_step (by repeat (first | (with_reducible first | exact HB.out | apply below_alloc | apply pw_below_drewN | apply below_drew1 | refine below_set ?_ (IsS64.ge HI0.out) | refine below_set ?_ GE148.out) | exact HB.out)) hb); have n4_ := Aside0.mk (hbox); have n5_ := Aside0.mk ((by rw [hg]; exact (keep_size (w := w) (g := g) (row := none) (by repeat (first | (with_reducible first | exact HK.out | apply KeepBut.set_ | apply keep_drewN | apply keep_drew | apply keep_alloc | refine keep_far ?_ GW148.out _) | exact HK.out))) : w.heap.size ≤ gb152)); have n6_ := Aside0.mk ((Nat.le_trans HW0.out (by rw [hg]; exact (keep_size (w := w) (g := g) (row := none) (by repeat (first | (with_reducible first | exact HK.out | apply KeepBut.set_ | apply keep_drewN | apply keep_drew | apply keep_alloc | refine keep_far ?_ GW148.out _) | exact HK.out))) : w.heap.size ≤ gb152) : w0.heap.size ≤ gb152)); have n7_ := Aside0.mk ((by rw [hg]; exact Nat.ne_of_lt (blk_lt (g := gb148) (o := .cells #[.int .i64 0, .int .i64 0, .string (⟨#[]⟩ : ByteArray)] 50 (0, 0)) (by (with_reducible repeat (first | refine blk_drewN ?_ _ | refine blk_drew ?_ | refine blk_alloc ?_ _)); exact BK148.out)) : gb148 ≠ gb152)); have n8_ := Aside0.mk ((by rw [hg]; exact Nat.ne_of_gt (blk_lt (g := gb148) (o := .cells #[.int .i64 0, .int .i64 0, .string (⟨#[]⟩ : ByteArray)] 50 (0, 0)) (by (with_reducible repeat (first | refine blk_drewN ?_ _ | refine blk_drew ?_ | refine blk_alloc ?_ _)); exact BK148.out)) : gb152 ≠ gb148)); have n9_ := Aside0.mk ((by rw [hg]; exact Nat.ne_of_lt (IsS64.lt (show IsS64 w0 _ g t150 t151 from by repeat (first | (with_reducible first | exact HI0.out | apply IsS64.alloc | apply IsS64.drewN | apply IsS64.drew | apply IsS64.set_0 | apply IsS64.set_1 | refine IsS64.far ?_ NB0_148.out _) | exact HI0.out))) : g ≠ gb152)); have n10_ := Aside0.mk ((by rw [hg]; exact Nat.ne_of_gt (IsS64.lt (show IsS64 w0 _ g t150 t151 from by repeat (first | (with_reducible first | exact HI0.out | apply IsS64.alloc | apply IsS64.drewN | apply IsS64.drew | apply IsS64.set_0 | apply IsS64.set_1 | refine IsS64.far ?_ NB0_148.out _) | exact HI0.out))) : gb152 ≠ g)); clear HI0; clear BK148; clear HK; clear HB; have HI0 := n0_; have BK148 := n1_; have HK := n2_; have HB := n3_; have BK152 := n4_; have GW152 := n5_; have GE152 := n6_; have NB148_152 := n7_; have NB152_148 := n8_; have NB0_152 := n9_; have NB152_0 := n10_; clear n0_ n1_ n2_ n3_ n4_ n5_ n6_ n7_ n8_ n9_ n10_; clear hb hbox hg; have hnb77 := NB152_148.out; have hnc77 := NB148_152.out; have hnb78 := NB152_0.out; have hnc78 := NB0_152.out; have hcz79_0 : w76.cell? ⟨gb152, 0, none⟩ = some (.int .i64 0) := (blk_cell BK152.out 0).trans rfl; have hcz79_1 : w76.cell? ⟨gb152, 1, none⟩ = some (.int .i64 0) := (blk_cell BK152.out 1).trans rfl; have hcz79_2 : w76.cell? ⟨gb152, 2, none⟩ = some (.string (⟨#[]⟩ : ByteArray)) := (blk_cell BK152.out 2).trans rfl; have hfz79_0 := blk_frozen BK152.out 0; have hfz79_1 := blk_frozen BK152.out 1; have hfz79_2 := blk_frozen BK152.out 2) | ((with_reducible refine gate_callee (f := 34) rfl ?_); refine goesL_ (some 17) rfl rfl Try.func34 (by kernel_rfl) rfl #[.pointer (some ⟨g, 0, none⟩)] rfl (by (try simp only [List.map_toArray, List.map_cons, List.map_nil]); first | done | rfl | (simp only [List.length_drop, List.length_take]; rfl)) ?_; (with_reducible refine (wherryref01_Reader_Int.calls g t150 t151 t157 t158 t159 w0 _ ?side1 ?side2 A45.out).mono ?_); (case side1 => repeat (first | (with_reducible first | exact HI0.out | apply IsS64.alloc | apply IsS64.drewN | apply IsS64.drew | apply IsS64.set_0 | apply IsS64.set_1 | refine IsS64.far ?_ NB0_148.out _ | refine IsS64.far ?_ NB0_152.out _) | exact HI0.out)); (case side2 => repeat (first | (with_reducible first | exact HB.out | apply below_alloc | apply pw_below_drewN | apply below_drew1 | refine below_set ?_ (IsS64.ge HI0.out) | refine below_set ?_ GE148.out | refine below_set ?_ GE152.out) | exact HB.out)); rintro e w80 ⟨rfl, hi, hb, hk⟩; refine ⟨_, rfl, ?_⟩; have n0_ := Aside0.mk (KeepBut.blk hk (g' := gb148) (o := .cells #[.int .i64 0, .int .i64 0, .string (⟨#[]⟩ : ByteArray)] 50 (0, 0)) (by (with_reducible repeat (first | refine blk_drewN ?_ _ | refine blk_drew ?_ | refine blk_alloc ?_ _)); refine blk_far ?_ NB148_152.out _; (with_reducible repeat (first | refine blk_drewN ?_ _ | refine blk_drew ?_ | refine blk_alloc ?_ _)); refine blk_far ?_ NB148_152.out _; (with_reducible repeat (first | refine blk_drewN ?_ _ | refine blk_drew ?_ | refine blk_alloc ?_ _)); refine blk_far ?_ NB148_152.out _; (with_reducible repeat (first | refine blk_drewN ?_ _ | refine blk_drew ?_ | refine blk_alloc ?_ _)); exact BK148.out) NB148_0.out (by simp)); have n1_ := Aside0.mk (KeepBut.blk hk (g' := gb152) (o := .cells #[.int .i64 (wrap64 (t149)), .int .i64 0, .string (⟨#[]⟩ : ByteArray)] 50 (0, 0)) (by (with_reducible repeat (first | refine blk_drewN ?_ _ | refine blk_drew ?_ | refine blk_alloc ?_ _)); refine blk_put (cs := #[.int .i64 (wrap64 (t149)), .int .i64 0, .string (⟨#[]⟩ : ByteArray)]) ?_ 2 _ rfl; (with_reducible repeat (first | refine blk_drewN ?_ _ | refine blk_drew ?_ | refine blk_alloc ?_ _)); refine blk_put (cs := #[.int .i64 (wrap64 (t149)), .int .i64 0, .string (⟨#[]⟩ : ByteArray)]) ?_ 1 _ rfl; (with_reducible repeat (first | refine blk_drewN ?_ _ | refine blk_drew ?_ | refine blk_alloc ?_ _)); refine blk_put (cs := #[.int .i64 0, .int .i64 0, .string (⟨#[]⟩ : ByteArray)]) ?_ 0 _ rfl; (with_reducible repeat (first | refine blk_drewN ?_ _ | refine blk_drew ?_ | refine blk_alloc ?_ _)); exact BK152.out) NB152_0.out (by simp)); have n2_ := Aside0.mk (KeepBut.trans (by repeat (first | (with_reducible first | exact HK.out | apply KeepBut.set_ | apply keep_drewN | apply keep_drew | apply keep_alloc | refine keep_far ?_ GW148.out _ | refine keep_far ?_ GW152.out _) | exact HK.out)) hk (.inl rfl)); have n3_ := Aside0.mk (hb); have n4_ := Aside0.mk (hi); clear BK148; clear BK152; clear HK; clear HB; clear HI0; have BK148 := n0_; have BK152 := n1_; have HK := n2_; have HB := n3_; have HI0 := n4_; clear n0_ n1_ n2_ n3_ n4_; (try clear hb); (try clear hb2); (try clear hk); (try clear hi); have hcz81_0 : w80.cell? ⟨gb152, 0, none⟩ = some (.int .i64 (wrap64 (t149))) := (blk_cell BK152.out 0).trans rfl; have hcz81_1 : w80.cell? ⟨gb152, 1, none⟩ = some (.int .i64 0) := (blk_cell BK152.out 1).trans rfl; have hcz81_2 : w80.cell? ⟨gb152, 2, none⟩ = some (.string (⟨#[]⟩ : ByteArray)) := (blk_cell BK152.out 2).trans rfl; have hfz81_0 := blk_frozen BK152.out 0; have hfz81_1 := blk_frozen BK152.out 1; have hfz81_2 := blk_frozen BK152.out 2) | ((with_reducible refine gate_callee (f := 54) rfl ?_); refine goesL_ (some 20) rfl rfl Try.func54 (by kernel_rfl) rfl #[.agg #[.int .i64 (wrap64 (t149)), .int .i64 t157, .string (⟨#[]⟩ : ByteArray)]] rfl (by (try simp only [List.map_toArray, List.map_cons, List.map_nil]); first | done | rfl | (simp only [List.length_drop, List.length_take]; rfl)) ?_; (with_reducible refine (wherryref09_May.calls (wrap64 (t149)) t157 (⟨#[]⟩ : ByteArray) t160 _ A46.out).mono ?_); rintro e w82 ⟨rfl, hb⟩; refine ⟨_, rfl, ?_⟩; have n0_ := Aside0.mk (IsS64.below (show IsS64 w0 (w80.setCell ⟨gb152, 1, none⟩ (.int .i64 t157)) g t158 t159 from by repeat (first | (with_reducible first | exact HI0.out | apply IsS64.alloc | apply IsS64.drewN | apply IsS64.drew | apply IsS64.set_0 | apply IsS64.set_1 | refine IsS64.far ?_ NB0_148.out _ | refine IsS64.far ?_ NB0_152.out _) | exact HI0.out)) hb); have n1_ := Aside0.mk (blk_below (g := gb148) (o := .cells #[.int .i64 0, .int .i64 0, .string (⟨#[]⟩ : ByteArray)] 50 (0, 0)) (by (with_reducible repeat (first | refine blk_drewN ?_ _ | refine blk_drew ?_ | refine blk_alloc ?_ _)); refine blk_far ?_ NB148_152.out _; (with_reducible repeat (first | refine blk_drewN ?_ _ | refine blk_drew ?_ | refine blk_alloc ?_ _)); exact BK148.out) hb); have n2_ := Aside0.mk (blk_below (g := gb152) (o := .cells #[.int .i64 (wrap64 (t149)), .int .i64 t157, .string (⟨#[]⟩ : ByteArray)] 50 (0, 0)) (by (with_reducible repeat (first | refine blk_drewN ?_ _ | refine blk_drew ?_ | refine blk_alloc ?_ _)); refine blk_put (cs := #[.int .i64 (wrap64 (t149)), .int .i64 0, .string (⟨#[]⟩ : ByteArray)]) ?_ 1 _ rfl; (with_reducible repeat (first | refine blk_drewN ?_ _ | refine blk_drew ?_ | refine blk_alloc ?_ _)); exact BK152.out) hb); have n3_ := Aside0.mk (KeepBut.trans (by repeat (first | (with_reducible first | exact HK.out | apply KeepBut.set_ | apply keep_drewN | apply keep_drew | apply keep_alloc | refine keep_far ?_ GW148.out _ | refine keep_far ?_ GW152.out _) | exact HK.out)) (KeepBut.of_below hb g none) (.inl rfl)); have n4_ := Aside0.mk (below_step (by repeat (first | (with_reducible first | exact HB.out | apply below_alloc | apply pw_below_drewN | apply below_drew1 | refine below_set ?_ (IsS64.ge HI0.out) | refine below_set ?_ GE148.out | refine below_set ?_ GE152.out) | exact HB.out)) hb); clear HI0; clear BK148; clear BK152; clear HK; clear HB; have HI0 := n0_; have BK148 := n1_; have BK152 := n2_; have HK := n3_; have HB := n4_; clear n0_ n1_ n2_ n3_ n4_; (try clear hb); (try clear hb2); (try clear hk); (try clear hi); obtain ⟨HGz83, hgz83⟩ := HI0.out; have hcz83_0 := cellS64_0 HGz83; have hcz83_1 := cellS64_1 HGz83; have hfz83_0 := blk_frozen HGz83 0; have hfz83_1 := blk_frozen HGz83 1; clear HGz83 hgz83; have hnb84 := NB148_0.out; have hnc84 := NB0_148.out; have hcz85_0 : w82.cell? ⟨gb148, 0, none⟩ = some (.int .i64 0) := (blk_cell BK148.out 0).trans rfl; have hcz85_1 : w82.cell? ⟨gb148, 1, none⟩ = some (.int .i64 0) := (blk_cell BK148.out 1).trans rfl; have hcz85_2 : w82.cell? ⟨gb148, 2, none⟩ = some (.string (⟨#[]⟩ : ByteArray)) := (blk_cell BK148.out 2).trans rfl; have hfz85_0 := blk_frozen BK148.out 0; have hfz85_1 := blk_frozen BK148.out 1; have hfz85_2 := blk_frozen BK148.out 2))
      refine bodyPost_ret (results_ct rfl _ _ gb148 50 #[.int .i64 0, .int .i64 0, .string (⟨#[]⟩ : ByteArray)] (0, 0) _ rfl (by (with_reducible repeat (first | refine blk_drewN ?_ _ | refine blk_drew ?_ | refine blk_alloc ?_ _)); refine blk_put (cs := #[.int .i64 0, .int .i64 0, .string (⟨#[]⟩ : ByteArray)]) ?_ 2 _ rfl; (with_reducible repeat (first | refine blk_drewN ?_ _ | refine blk_drew ?_ | refine blk_alloc ?_ _)); refine blk_put (cs := #[.int .i64 0, .int .i64 0, .string (⟨#[]⟩ : ByteArray)]) ?_ 1 _ rfl; (with_reducible repeat (first | refine blk_drewN ?_ _ | refine blk_drew ?_ | refine blk_alloc ?_ _)); refine blk_put (cs := #[.int .i64 0, .int .i64 0, .string (⟨#[]⟩ : ByteArray)]) ?_ 0 _ rfl; (with_reducible repeat (first | refine blk_drewN ?_ _ | refine blk_drew ?_ | refine blk_alloc ?_ _)); exact BK148.out) Try.underlying50 rfl (by kernel_rfl)) rfl ?_
      exact ⟨by first | rfl | (simp [errW_none, errW_some] <;> rfl) | (simp [*, errW_none, errW_some] <;> rfl), by repeat (first | (with_reducible first | exact HI0.out | apply IsS64.alloc | apply IsS64.drewN | apply IsS64.drew | apply IsS64.set_0 | apply IsS64.set_1 | refine IsS64.far ?_ NB0_148.out _ | refine IsS64.far ?_ NB0_152.out _) | exact HI0.out), by repeat (first | (with_reducible first | exact HB.out | apply below_alloc | apply pw_below_drewN | apply below_drew1 | refine below_set ?_ (IsS64.ge HI0.out) | refine below_set ?_ GE148.out | refine below_set ?_ GE152.out) | exact HB.out), by repeat (first | (with_reducible first | exact HK.out | apply KeepBut.set_ | apply keep_drewN | apply keep_drew | apply keep_alloc | refine keep_far ?_ GW148.out _ | refine keep_far ?_ GW152.out _) | exact HK.out)⟩
end Go.Proofs.Ytcfdbdmefdffdaa.GA
/-
  Chapter 9: what the references print, as plain functions: right, same, get.
-/
set_option linter.unusedVariables false
set_option linter.unusedSimpArgs false
namespace Go.Proofs.Ytcfdbdmefdffdaa.GA
open Go.RowKit Go.Proofs.YtcfdbdmefdffdaaW.PrintWords Go.Proofs.YtcfdbdmefdffdaaW.PrintLast Go.Proofs.YtcfdbdmefdffdaaW.PrintMore
theorem rdT {l : List (S52)} {i : Nat} (h : i < l.length) : rd_T52 l (i : Int) = l[i] := by
  unfold rd_T52
  rw [Int.toNat_natCast, List.getD_eq_getElem?_getD, List.getElem?_eq_getElem h]; rfl
def prevN (l : List (S52)) (i : Nat) : Option ByteArray := if i = 0 then none else (l[i - 1]?).map fun x => x.f0
theorem right_l0 (l : List (S52)) (hw : ∀ x ∈ l, x.f0.size ≤ 9223372036854775807) (hl : l.length ≤ 9223372036854775807) : ∀ (d k i : Nat), l.length - i = d → i ≤ l.length → 100 + 2 * d ≤ k → (∀ x, 0 < i → l[i - 1]? = some x → x.f0.size ≤ 32) →
    wherryref09_Right.l0 k l (i : Int) = some (Base.rightFrom (prevN l i) ((l.map toVar).drop i)) := by
  intro d
  induction d with
  | zero =>
    intro k i hd h1 hk _
    obtain ⟨k, rfl⟩ : ∃ m, k = m + 1 := ⟨k - 1, by omega⟩
    simp only [wherryref09_Right.l0]
    rw [if_neg (by omega), List.drop_eq_nil_of_le (by simp; omega)]
    unfold Base.rightFrom; rfl
  | succ d ih =>
    intro k i hd h1 hk hp
    obtain ⟨k, rfl⟩ : ∃ m, k = m + 1 + 1 := ⟨k - 2, by omega⟩
    have hi : i < l.length := by omega
    have hx := hw l[i] (List.getElem_mem hi)
    have hdr : (l.map toVar).drop i = toVar l[i] :: (l.map toVar).drop (i + 1) := by
      rw [List.drop_eq_getElem_cons (by simpa using hi)]; simp
    simp only [wherryref09_Right.l0]
    rw [if_pos (by omega), if_pos (by omega), rdT hi, named_k hx (by omega), may_f, hdr]
    simp only [Option.bind_some]
    have hm : Base.mayV l[i].f1.f0 l[i].f1.f1 l[i].f1.f2 = (toVar l[i]).v.may := rfl
    have hn : Base.named l[i].f0 = Base.named (toVar l[i]).name := rfl
    unfold Base.rightFrom
    rw [hm, hn]
    cases hN : Base.named (toVar l[i]).name with
    | false =>
      simp only [wherryref09_Right.j1, Bool.false_eq_true, if_false]
      rw [if_pos trivial]; rfl
    | true =>
      cases hM : (toVar l[i]).v.may with
      | false =>
        simp only [wherryref09_Right.j1, if_true, Bool.not_false]
        rfl
      | true =>
        have h32 : l[i].f0.size ≤ 32 := (Base.named_size hN).1
        have hgo := ih k (i + 1) (by omega) (by omega) (by omega) (fun x _ hx => by
          rw [Nat.add_sub_cancel, List.getElem?_eq_getElem hi] at hx
          rw [← Option.some.inj hx]; exact h32)
        have hpn : prevN l (i + 1) = some (toVar l[i]).name := by
          unfold prevN; rw [if_neg (by omega), Nat.add_sub_cancel, List.getElem?_eq_getElem hi]; rfl
        rw [hpn] at hgo
        simp only [wherryref09_Right.j1, if_true, Bool.not_true, Bool.false_eq_true, if_false]
        rw [wrap_nat hi hl, hgo]
        by_cases h0 : i = 0
        · rw [if_neg (by omega)]
          unfold prevN; rw [if_pos h0]; simp
        · have h1' : i - 1 < l.length := by omega
          have hw1 : wrap64 ((i : Int) - 1) = ((i - 1 : Nat) : Int) := by unfold wrap64; omega
          rw [if_pos (by omega), hw1, if_pos (by omega), if_pos (by omega), if_pos (by omega), if_pos (by omega), rdT h1', rdT hi]
          have hps := hp l[i - 1] (by omega) (List.getElem?_eq_getElem h1')
          rw [less_k hps (by omega)]
          unfold prevN
          rw [if_neg h0, List.getElem?_eq_getElem h1']
          simp only [Option.bind_some, Option.map_some]
          cases hL : Base.lessS l[i - 1].f0 l[i].f0 with
          | true =>
            have : Base.lessS l[i - 1].f0 (toVar l[i]).name = true := hL
            simp [this]
          | false =>
            have : Base.lessS l[i - 1].f0 (toVar l[i]).name = false := hL
            simp [this]
theorem right_k {l : List (S52)} (hw : ∀ x ∈ l, x.f0.size ≤ 9223372036854775807) {k : Nat} (hk : 200 ≤ k) : wherryref09_Right.f k l = some (Base.rightV (l.map toVar)) := by
  unfold wherryref09_Right.f Base.rightV
  by_cases h16 : l.length ≤ 16
  · rw [if_neg (by omega)]
    have h := right_l0 l hw (by omega) l.length k 0 (by omega) (by omega) (by omega) (fun x h => absurd h (by omega))
    have h' : wherryref09_Right.l0 k l 0 = some (Base.rightFrom none (l.map toVar)) := by simpa [prevN] using h
    rw [h']; simp [h16]
  · rw [if_pos (by omega)]; simp [h16]
noncomputable instance : DecidableEq Base.GVar := fun _ _ => Classical.propDecidable _
end Go.Proofs.Ytcfdbdmefdffdaa.GA
/-
  The reference's Take (chapter 9), as the program's: contract.
-/
set_option linter.unusedVariables false
set_option linter.unusedSimpArgs false
namespace Go.Proofs.Ytcfdbdmefdffdaa.GA
open Go Go.RowKit Go.Proofs.YtcfdbdmefdffdaaW.PrintWords Go.Proofs.YtcfdbdmefdffdaaW.PrintLast Go.Proofs.YtcfdbdmefdffdaaW.PrintMore
open Go.Proofs.Base (rdByte rdInt rdText takeRaw takeOk takeV zeroV Mut)
theorem take_fin (s : ByteArray) (e : Nat) (k n : Int) (t z : ByteArray) (y : Nat) (h : takeRaw s e = (⟨k, n, t⟩, z, y)) :
    (if (y : Int) = 0 then (if Base.mayV k n t = true then (some (k, n, t, true, z, (y : Int))) else (some (0, 0, (⟨#[]⟩ : ByteArray), false, z, (y : Int)))) else (some (0, 0, (⟨#[]⟩ : ByteArray), false, z, (y : Int)))) = some ((takeV s e).k, (takeV s e).n, (takeV s e).s, takeOk s e, (takeRaw s e).2.1, ((takeRaw s e).2.2 : Int)) := by
  have hm : (⟨k, n, t⟩ : Base.GVal).may = Base.mayV k n t := rfl
  have hz : (zeroV.k, zeroV.n, zeroV.s) = ((0 : Int), (0 : Int), (⟨#[]⟩ : ByteArray)) := rfl
  unfold takeV takeOk
  rw [h]
  by_cases hy : y = 0
  · subst hy
    rw [if_pos (show ((0 : Nat) : Int) = 0 from rfl)]
    cases hq : Base.mayV k n t with
    | true =>
      rw [if_pos rfl, if_pos (by simp [hm, hq])]
      simp [hm, hq]
    | false =>
      rw [if_neg Bool.false_ne_true, if_neg (by simp [hm, hq])]
      simp only [Prod.mk.injEq] at hz
      simp [hm, hq, hz]
  · rw [if_neg (by omega), if_neg (by simp [hy])]
    simp only [Prod.mk.injEq] at hz
    simp [hy, hz]
theorem take_fT {s : ByteArray} {e : Nat} (h3 : (rdByte s e).1 = 3) : takeRaw s e = (⟨((3 : Nat) : Int), 0, (rdText 1024 (rdByte s e).2.1 (rdByte s e).2.2).1⟩, (rdText 1024 (rdByte s e).2.1 (rdByte s e).2.2).2.1, (rdText 1024 (rdByte s e).2.1 (rdByte s e).2.2).2.2) := by
  unfold takeRaw
  rw [if_pos h3]
  generalize rdText 1024 (rdByte s e).2.1 (rdByte s e).2.2 = q
  obtain ⟨q1, q2, q3⟩ := q
  exact rfl
theorem take_fI {s : ByteArray} {e : Nat} (h3 : ¬ (rdByte s e).1 = 3) : takeRaw s e = (⟨((rdByte s e).1 : Int), (rdInt (rdByte s e).2.1 (rdByte s e).2.2).1, (⟨#[]⟩ : ByteArray)⟩, (rdInt (rdByte s e).2.1 (rdByte s e).2.2).2.1, (rdInt (rdByte s e).2.1 (rdByte s e).2.2).2.2) := by
  unfold takeRaw
  rw [if_neg h3]
  generalize rdInt (rdByte s e).2.1 (rdByte s e).2.2 = q
  obtain ⟨q1, q2, q3⟩ := q
  exact rfl
theorem byte_g {s : ByteArray} {e : Nat} (hs : s.size ≤ 9223372036854775807) : wherryref01_Reader_Byte.f s (e : Int) = some (((rdByte s e).1 : Int), (rdByte s e).2.1, ((rdByte s e).2.2 : Int)) := by
  unfold wherryref01_Reader_Byte.f
  rw [if_pos ⟨Int.natCast_nonneg e, hs⟩, Int.toNat_natCast]
theorem int_g {s : ByteArray} {e : Nat} (hs : s.size ≤ 9223372036854775807) : wherryref01_Reader_Int.f s (e : Int) = some ((rdInt s e).1, (rdInt s e).2.1, ((rdInt s e).2.2 : Int)) := by
  unfold wherryref01_Reader_Int.f
  rw [if_pos ⟨Int.natCast_nonneg e, hs⟩, Int.toNat_natCast]
theorem text_g {s : ByteArray} {e : Nat} {a : Int} (ha : Base.i64 a) (hs : s.size ≤ 9223372036854775807) : wherryref01_Reader_Text.f s (e : Int) a = some ((rdText a s e).1, (rdText a s e).2.1, ((rdText a s e).2.2 : Int)) := by
  unfold wherryref01_Reader_Text.f
  rw [if_pos ⟨Int.natCast_nonneg e, hs, ha.1, ha.2⟩, Int.toNat_natCast]
theorem wrap_byte {n : Nat} (h : n < 256) : wrap64 (n : Int) = (n : Int) := by unfold wrap64; omega
theorem take_f {s : ByteArray} {e : Nat} (hs : s.size ≤ 9223372036854775807) : wherryref09_Take.f s (e : Int) = some ((takeV s e).k, (takeV s e).n, (takeV s e).s, takeOk s e, (takeRaw s e).2.1, ((takeRaw s e).2.2 : Int)) := by
  have hs1 : (rdByte s e).2.1.size ≤ 9223372036854775807 := Nat.le_trans (Base.rdByte_size s e) hs
  unfold wherryref09_Take.f
  rw [byte_g hs, Option.bind_some]
  dsimp only
  rw [wrap_byte (Base.rdByte_lt s e)]
  by_cases h3 : (rdByte s e).1 = 3
  · rw [h3, if_pos (show ((3 : Nat) : Int) = 3 from rfl), text_g (show Base.i64 1024 from ⟨by decide, by decide⟩) hs1, Option.bind_some]
    dsimp only
    rw [may_f, Option.bind_some]
    exact take_fin s e _ _ _ _ _ (take_fT h3)
  · rw [if_neg (fun x : ((rdByte s e).1 : Int) = 3 => h3 (by omega)), int_g hs1, Option.bind_some]
    dsimp only
    rw [may_f, Option.bind_some]
    exact take_fin s e _ _ _ _ _ (take_fI h3)
theorem elder (w : World) (g : Nat) (h : g < w.heap.size) : ∃ w0 : World, w0.heap.size = g ∧ Below w0.heap.size w0 w := by
  refine ⟨{ w with heap := w.heap.extract 0 g }, by simp; omega, rfl, rfl, rfl, by simp; omega, fun k hk => ?_⟩
  have hk' : k < g := by simp at hk; omega
  have hk2 : k < w.heap.size := by omega
  simp [Array.getElem?_extract, hk']
  omega
theorem ref_Take (g : Nat) (s : ByteArray) (e0 : Nat) (w : World) (hr : RdrR w g s e0) (hs : s.size ≤ 9223372036854775807) :
    Calls Try.prog 67 #[.pointer (some ⟨g, 0, none⟩)] w fun e w' => e = .returned (.tuple #[.agg #[.int .i64 (takeV s e0).k, .int .i64 (takeV s e0).n, .string (takeV s e0).s], .bool (takeOk s e0)]) ∧ RdrR w' g (takeRaw s e0).2.1 (takeRaw s e0).2.2 ∧ Mut (fun b => b = g) w w' := by
  obtain ⟨w0, h0, hB⟩ := elder w g hr.facts.2.2.2.2
  refine (wherryref09_Take.calls g s e0 _ _ _ _ _ _ w0 w ⟨hr, by omega⟩ hB (take_f hs)).mono ?_
  rintro e w' ⟨rfl, hI, hB', hK⟩
  exact ⟨rfl, hI.1, hB'.os.trans hB.os.symm, hB'.tape.trans hB.tape.symm, hB'.output.trans hB.output.symm, hK.1, fun b hb hn => hK.2 b hb hn (by simp)⟩
end Go.Proofs.Ytcfdbdmefdffdaa.GA
/-
  The reference's TakeVars (chapter 9): it takes what the program takes.
-/
set_option linter.unusedVariables false
set_option linter.unusedSimpArgs false
namespace Go.Proofs.Ytcfdbdmefdffdaa.GA
open Go Go.RowKit Go.Proofs.YtcfdbdmefdffdaaW.PrintWords
open Go.Proofs.Base (Mut Row varCells GVar GVal rightV takeVars takeGo takeFin takeV takeOk takeRaw rdUint rdText rdUint_size rdText_size rdText_res takeRaw_size takeV_wf own_nil bne_t bne_f wp_app varCells_append block_below)
theorem blk_old1 {w : World} {b : Nat} {o' : Obj} (o : Obj) (h : w.heap[b]? = some o') : (w.alloc o).heap[b]? = some o' := by
  have hb : b < w.heap.size := by
    rw [Array.getElem?_eq_some_iff] at h
    exact h.1
  simp only [World.alloc]
  rw [Array.getElem?_push_lt hb, ← h, Array.getElem?_eq_getElem hb]
theorem ref_Right {S : Nat → Prop} (A : Option Addr) (c : Nat) (l : List GVar) (w : World) (hrow : Row w S 4 l.length (.slice A l.length c) (varCells l)) (hc : l.length ≤ c) (hW : ∀ x ∈ l, x.wf) :
    Calls Try.prog 21 #[.slice A l.length c] w fun e w' => e = .returned (.bool (rightV l)) ∧ Below w.heap.size w w' := by
  have h := right_k (l := l.map ofVar) (fun x hx => by
    obtain ⟨y, hy, rfl⟩ := List.mem_map.1 hx
    exact Nat.le_trans (hW y hy).1 (by omega)) (Nat.le_refl 200)
  rw [map_to_of] at h
  have h2 := wherryref09_Right.calls 200 A c (l.map ofVar) (rightV l) w (C_of_row hrow) (by rw [List.length_map]; exact hc) h
  rw [List.length_map] at h2
  refine h2.mono ?_
  rintro e w' ⟨rfl, hd⟩
  exact ⟨rfl, by first | exact hd | (obtain ⟨q, rfl⟩ := hd.out; exact Base.below_drewN (Below.refl _ _) q)⟩
theorem own_below {w w1 : World} {base : Nat} {e : TypeId} {sz n : Nat} {v : Value} {xs : List Value} (h : w.ownsRow base e sz v n xs) (hb : Below w.heap.size w w1) : w1.ownsRow base e sz v n xs := h.kept (Base.grown_of_below hb none) (by cases v.ownBlock <;> simp)
def RefTVPost (w : World) (g : Nat) (r : Option (List GVar) × ByteArray × Nat) (e : Ending) (w' : World) : Prop :=
  ∃ v, e = .returned (.tuple #[v, .bool r.1.isSome]) ∧ w'.ownsRow w.heap.size 52 4 v (r.1.getD []).length (varCells (r.1.getD [])) ∧ RdrR w' g r.2.1 r.2.2 ∧ Mut (fun b => b = g) w w'
theorem rdUint_err {s : ByteArray} {e : Nat} (h : (rdUint s e).2.2 ≠ 0) : (rdUint s e).1 = 0 := by
  unfold rdUint at *
  by_cases he : e ≠ 0
  · rw [Base.takeM_wrong he]
  · obtain rfl : e = 0 := by omega
    by_cases hx : (Base.numM (Base.toL s)).2.2 ≠ 0
    · rw [Base.takeM_bad hx]
    · rw [Base.takeM_ok (by omega)] at h; exact absurd rfl h
set_option maxRecDepth 100000 in
set_option maxHeartbeats 2000000 in
theorem ref_TakeVars (g : Nat) (s : ByteArray) (e0 : Nat) (w : World) (hr : RdrR w g s e0) (hs : s.size ≤ 140737488351232) :
    Calls Try.prog 36 #[.pointer (some ⟨g, 0, none⟩)] w (RefTVPost w g (takeVars s e0)) := by
  have hg := hr.facts.2.2.2.2
  have hu := rdUint_size s e0
  have hue := @rdUint_err s e0
  have hU := refrd_Uint g s e0 w hr (by omega)
  have HU := Lib.hid hU
  have hulen := Base.rdUint_lt s e0
  clear hU
  by_cases h16 : 16 < (rdUint s e0).1
  · have hv : takeVars s e0 = (none, (rdUint s e0).2) := by unfold takeVars; rw [if_pos h16]
    have HV := Lib.hid hv
    have h16' : (16 : Int) < ((rdUint s e0).1 : Int) := by omega
    clear hv h16 hue
    generalize rdUint s e0 = q at *
    obtain ⟨n, s1, e1⟩ := q
    go_enter Try.func36, Try.ntmps36
    go_wp2_with (go_at_call 33; refine HU.out.mono ?_; rintro e w1 ⟨rfl, hq1, hm1⟩; have d1 := hq1.facts.2.1; have HQ1 := Lib.hid hq1; have HM1 := Lib.hid hm1; clear hq1 hm1)
    go_ret2
    rw [HV.out]
    exact ⟨_, rfl, Base.own_nil _ _ _ _, HQ1.out, HM1.out⟩
  · have hv : takeVars s e0 = takeFin (takeGo (rdUint s e0).1 (rdUint s e0).2.1 (rdUint s e0).2.2 []) := by unfold takeVars; rw [if_neg h16]
    have h16' : ((rdUint s e0).1 : Int) ≤ 16 := by omega
    have h16n : ¬ (16 : Int) < ((rdUint s e0).1 : Int) := by omega
    generalize rdUint s e0 = q at *
    obtain ⟨n, s1, e1⟩ := q
    by_cases he1 : e1 = 0
    · subst he1
      have HV := Lib.hid hv
      clear hv hue hr
      go_enter Try.func36, Try.ntmps36
      go_wp2_with (go_at_call 33; refine HU.out.mono ?_; rintro e w1 ⟨rfl, hq1, hm1⟩; have d1 := hq1.facts.2.1)
      clear d1
      go_loopw [5, 6, 7, 8, 9] (fun v i _ _ _ wr => ∃ (k m : Nat) (acc : List GVar) (s2 : ByteArray), i = .int .u64 k ∧ k + m = n ∧ acc.length = k ∧ wr.ownsRow w.heap.size 52 4 v acc.length (varCells acc) ∧ RdrR wr g s2 0 ∧ s2.size ≤ s.size ∧ Mut (fun b => b = g) w wr ∧ Hid (∀ x ∈ acc, x.wf) ∧ Hid (takeVars s e0 = takeFin (takeGo m s2 0 acc))) (fun _ i _ _ _ _ => n - (intOf i).toNat)
      case atStart => exact ⟨0, n, [], s1, rfl, by omega, rfl, Base.own_nil _ _ _ _, hq1, hu, hm1, Lib.hid (fun x hx => by cases hx), HV⟩
      case round =>
        clear hq1 hm1 HV
        obtain ⟨k, m, acc, s2, rfl, hkm, hacc, hown, hq, hs2, hm, HW, HV⟩ := hrel
        cases m with
        | zero =>
          have Hkm := Lib.hid hkm
          have hkn : ¬ k < n := by omega
          have Hacc := Lib.hid hacc
          have HQ := Lib.hid hq
          have hv := HV.out
          unfold takeGo at hv
          rw [takeFin_some] at hv
          have HVV := Lib.hid hv
          have HO := Lib.hid hown
          have hrow := Row.of_own hown
          obtain ⟨A, c, hvs, hac, _⟩ := hrow.open_
          subst hvs
          have HR2 := Lib.hid (ref_Right A c acc wr hrow hac HW.out)
          have HM := Lib.hid hm
          clear hkm hacc HV hv hown hrow hac hm
          by_cases hri : rightV acc = true
          · have hf : takeVars s e0 = (some acc, s2, 0) := by rw [HVV.out, if_pos ⟨rfl, hri⟩]
            have HF := Lib.hid hf
            have hR2 := HR2.out
            rw [hri] at hR2
            have HR3 := Lib.hid hR2
            clear hf hri hR2
            go_wp2_with (go_at_call 21; refine HR3.out.mono ?_; rintro e w3 ⟨rfl, hb3⟩)
            go_ret2
            rw [HF.out]
            exact ⟨_, rfl, own_below HO.out hb3, block_below hb3 HQ.out, HM.out.trans (Mut.of_below hb3 (fun _ => False)) (fun _ _ h => h.elim)⟩
          · have hri : rightV acc = false := by simpa using hri
            have hf : takeVars s e0 = (none, s2, 0) := by rw [HVV.out, if_neg (by simp [hri])]
            have HF := Lib.hid hf
            have hR2 := HR2.out
            rw [hri] at hR2
            have HR3 := Lib.hid hR2
            clear hf hri hR2
            go_wp2_with (go_at_call 21; refine HR3.out.mono ?_; rintro e w3 ⟨rfl, hb3⟩)
            go_ret2
            rw [HF.out]
            exact ⟨_, rfl, Base.own_nil _ _ _ _, block_below hb3 HQ.out, HM.out.trans (Mut.of_below hb3 (fun _ => False)) (fun _ _ h => h.elim)⟩
        | succ m =>
          have hkn : k < n := by omega
          have hv := HV.out
          unfold takeGo at hv
          have hsz := rdText_size 32 s2 0
          have hrs := rdText_res 32 s2 0
          have hT := refrd_Text g s2 0 32 wr hq (by omega) (by omega) (by omega)
          have HT := Lib.hid hT
          generalize rdText 32 s2 0 = q at *
          obtain ⟨nm, s3, e3⟩ := q
          have HV2 := Lib.hid hv
          have Hkm := Lib.hid hkm
          have Hacc := Lib.hid hacc
          have HM := Lib.hid hm
          have HO := Lib.hid hown
          clear hT HV hv hkm hacc hm hq hown
          go_wp2_with (go_at_call 35; refine HT.out.mono ?_; rintro e w3 ⟨rfl, hq3, hm3⟩)
          refine (ref_Take g s3 e3 w3 hq3 (by omega)).mono ?_
          rintro e w4 ⟨rfl, hq4, hm4⟩
          have hwf := takeV_wf (s := s3) (e := e3) (by omega)
          have hz4 := takeRaw_size s3 e3
          have ho4 := own_mut (own_mut HO.out hm3 hg) hm4 hg
          have HO4 := Lib.hid ho4
          have hM4 : Mut (fun b => b = g) w w4 := (HM.out.trans hm3 (fun _ _ h => h)).trans hm4 (fun _ _ h => h)
          have HM4 := Lib.hid hM4
          have HQ4 := Lib.hid hq4
          have hv5 := HV2.out
          have hw4 : w.heap.size ≤ w4.heap.size := hM4.size
          have hok0 : takeOk s3 e3 = true → (takeRaw s3 e3).2.2 = 0 := fun h => by
            unfold takeOk at h
            simp only [Bool.and_eq_true, decide_eq_true_eq] at h
            exact h.1
          clear HV2 HM HO hq3 hq4 hm3 hm4 HT ho4 hM4
          generalize takeRaw s3 e3 = raw at *
          obtain ⟨rv, s4, e4⟩ := raw
          generalize takeV s3 e3 = tv at *
          by_cases hok : takeOk s3 e3 = true
          · rw [if_pos hok] at hv5
            obtain rfl : e4 = 0 := hok0 hok
            simp only [hok]
            have HV5 := Lib.hid hv5
            have HW5 : Hid (∀ x ∈ acc ++ [(⟨nm, tv⟩ : GVar)], x.wf) := Lib.hid (fun x hx => by
              rcases List.mem_append.1 hx with h | h
              · exact HW.out x h
              · rw [List.mem_singleton.1 h]; exact ⟨Nat.le_trans hrs (Nat.le_trans hs2 hs), hwf⟩)
            clear hv5 hok hwf HW hok0
            have hb4 : Below w.heap.size (w4.alloc (.cells #[.int .i64 tv.k, .int .i64 tv.n, .string tv.s] 50)) (w4.alloc (.cells #[.int .i64 tv.k, .int .i64 tv.n, .string tv.s] 50)) := Below.refl _ _
            have ho5 := HO4.out.alloc (.cells #[.int .i64 tv.k, .int .i64 tv.n, .string tv.s] 50)
            have hsz5 : w.heap.size ≤ (w4.alloc (.cells #[.int .i64 tv.k, .int .i64 tv.n, .string tv.s] 50)).heap.size := by simp; omega
            have ha16 : acc.length ≤ 16 := by have := Hacc.out; omega
            have HB4 := Lib.hid hb4
            have HO5 := Lib.hid ho5
            have HS5 := Lib.hid hsz5
            clear hb4 ho5 hsz5
            go_wp2_with (at_builtin; refine wp_app elVar (by decide) rfl (.tmp 36) (.tmp 40) rfl w.heap.size _ acc.length (varCells acc) [_, _, _, _] rfl (by rw [World.size_alloc]; rfl) rfl (by simp [Value.oneCell']) HO5.out HB4.out HS5.out (by omega) (by omega) ?_; intro v1 w5 HO6 HB6 hg6 hat6)
            go_roundw
            case rel =>
              have hl5 := Hkm.out
              have hc : varCells acc ++ [.string nm, .int .i64 tv.k, .int .i64 tv.n, .string tv.s] = varCells (acc ++ [(⟨nm, tv⟩ : GVar)]) := by rw [varCells_append]; rfl
              rw [hc] at HO6
              have hgr := (World.grownBy_alloc w4 (.cells #[.int .i64 tv.k, .int .i64 tv.n, .string tv.s] 50) u5.ownBlock).trans ((World.grownBy_alloc _ _ _).trans hg6)
              refine ⟨k + 1, m, acc ++ [⟨nm, tv⟩], s4, by go_num, by omega, by rw [List.length_append, Hacc.out]; rfl, by rw [List.length_append]; exact HO6, ?_, Nat.le_trans hz4 (Nat.le_trans hsz hs2), ?_, HW5, HV5⟩
              · refine Mut.blk (T := fun b => u5.ownBlock = some b) (Mut.grown hgr (fun b h => h)) HQ4.out (fun h => ?_)
                have := (HO4.out.lt g h).1
                omega
              · exact HM4.out.trans (Mut.grown (T := fun b => u5.ownBlock = some b) hgr (fun b h => h)) (fun b hb h => absurd hb (by have := (HO4.out.lt b h).1; omega))
            case measure => have := Hkm.out; simp [intOf]; omega
          · have hok : takeOk s3 e3 = false := by simpa using hok
            rw [if_neg (by simp [hok])] at hv5
            simp only [hok]
            have HV5 := Lib.hid hv5
            clear hv5 hok hok0
            go_wp2_with fail
            go_ret2
            rw [HV5.out]
            exact ⟨_, rfl, Base.own_nil _ _ _ _, blk_old1 _ HQ4.out, HM4.out.alloc _⟩
    · obtain rfl : n = 0 := hue he1
      have hf : takeVars s e0 = (none, s1, e1) := by
        rw [hv]; unfold takeGo; rw [takeFin_some, if_neg (by simp [he1])]
      have HV := Lib.hid hf
      have b1 : ((e1 : Int) != 0) = true := by rw [bne_iff_ne]; omega
      clear hv hf hue hr he1
      go_enter Try.func36, Try.ntmps36
      go_wp2_with (go_at_call 33; refine HU.out.mono ?_; rintro e w1 ⟨rfl, hq1, hm1⟩; have d1 := hq1.facts.2.1; have HQ1 := Lib.hid hq1; have HM1 := Lib.hid hm1; clear hq1 hm1)
      go_ret2
      rw [HV.out]
      exact ⟨_, rfl, Base.own_nil _ _ _ _, HQ1.out, HM1.out⟩
end Go.Proofs.Ytcfdbdmefdffdaa.GA
/-
  Chapter 9: what the references print, as plain functions: bytes of values and variables.
-/
set_option linter.unusedVariables false
set_option linter.unusedSimpArgs false
namespace Go.Proofs.Ytcfdbdmefdffdaa.GA
open Go.RowKit Go.Proofs.YtcfdbdmefdffdaaW.PrintWords Go.Proofs.YtcfdbdmefdffdaaW.PrintLast Go.Proofs.YtcfdbdmefdffdaaW.PrintMore
open Go.Proofs.Base (toL ofL ofN toL_inj toL_append ofN_size app_size)
theorem str1 {x : Int} {n : Nat} (h : x % 256 = (n : Int)) : strOfNums [x % 256] = ofN [n] := by
  rw [h]
  rfl
theorem bytes_f {k n : Int} {s : ByteArray} (hn : Base.i64 n) (hs : Base.okS s) : wherryref09_Bytes.f k n s = some (Base.valB k n s) := by
  unfold wherryref09_Bytes.f Base.valB
  rw [may_f]
  simp only [Option.bind_some]
  cases hm : Base.mayV k n s with
  | false => rw [if_neg Bool.false_ne_true, if_neg Bool.false_ne_true]; rfl
  | true =>
    obtain ⟨hk, h1024⟩ := Base.mayV_k hm
    rw [if_pos rfl, if_pos rfl]
    by_cases h3 : k = 3
    · subst h3
      have hsz := Base.textB_size (s := s) hs
      unfold wherryref01_Text.f
      rw [if_pos rfl, if_pos (show s.size ≤ 140737488351232 from hs)]
      simp only [Option.bind_some]
      rw [if_pos (by omega), if_pos trivial]
      rfl
    · have hsz := Base.intB_size hn.1 hn.2
      unfold wherryref01_Int.f
      rw [if_neg h3, if_neg h3, if_pos (show -9223372036854775808 ≤ n ∧ n ≤ 9223372036854775807 from hn)]
      simp only [Option.bind_some]
      rw [str1 (n := k.toNat) (by omega), if_pos (by rw [ofN_size]; simp; omega)]
theorem vars_l0 (l : List (S52)) (hw : wfL l) (hm : ∀ x ∈ l, Base.named x.f0 = true ∧ (toVar x).v.may = true) (h16 : l.length ≤ 16) : ∀ (d k i : Nat) (acc : ByteArray), l.length - i = d → i ≤ l.length → d + 1 ≤ k → acc.size + 2000 * d ≤ 1000000 →
    wherryref09_VarsBytes.l0 k l acc (i : Int) = some (acc ++ Base.varsCat ((l.map toVar).drop i)) := by
  intro d
  induction d with
  | zero =>
    intro k i acc hd h1 hk hsz
    obtain ⟨k, rfl⟩ : ∃ m, k = m + 1 := ⟨k - 1, by omega⟩
    simp only [wherryref09_VarsBytes.l0]
    rw [if_neg (by omega), List.drop_eq_nil_of_le (by simp; omega)]
    exact congrArg some (Base.app_empty _).symm
  | succ d ih =>
    intro k i acc hd h1 hk hsz
    obtain ⟨k, rfl⟩ : ∃ m, k = m + 1 := ⟨k - 1, by omega⟩
    have hi : i < l.length := by omega
    obtain ⟨w1, w2, w3, w4⟩ := hw l[i] (List.getElem_mem hi)
    obtain ⟨m1, m2⟩ := hm l[i] (List.getElem_mem hi)
    have hdr : (l.map toVar).drop i = toVar l[i] :: (l.map toVar).drop (i + 1) := by
      rw [List.drop_eq_getElem_cons (by simpa using hi)]; simp
    have ht := Base.textB_size (s := l[i].f0) w1
    have h32 := (Base.named_size m1).1
    have hv := Base.valB_size (k := l[i].f1.f0) (n := l[i].f1.f1) (s := l[i].f1.f2) w3 m2
    simp only [wherryref09_VarsBytes.l0]
    rw [if_pos (by omega), if_pos (by omega), rdT hi]
    unfold wherryref01_Text.f
    rw [if_pos (show l[i].f0.size ≤ 140737488351232 from w1)]
    simp only [Option.bind_some]
    rw [if_pos (by omega), bytes_f (k := l[i].f1.f0) (n := l[i].f1.f1) (s := l[i].f1.f2) w3 w4]
    simp only [Option.bind_some]
    rw [if_pos (by rw [app_size]; omega), wrap_nat hi (by omega), ih k (i + 1) _ (by omega) (by omega) (by omega) (by rw [app_size, app_size]; omega), hdr]
    show some _ = some (acc ++ ((Base.textB l[i].f0 ++ Base.valB l[i].f1.f0 l[i].f1.f1 l[i].f1.f2) ++ Base.varsCat _))
    rw [Base.app_assoc, Base.app_assoc, Base.app_assoc]
theorem vars_k {l : List (S52)} (hw : wfL l) {k : Nat} (hk : 200 ≤ k) : wherryref09_VarsBytes.f k l = some (Base.varsB (l.map toVar)) := by
  unfold wherryref09_VarsBytes.f Base.varsB
  rw [right_k (fun x hx => by have := (hw x hx).1; unfold Base.okS at this; show x.f0.size ≤ _; exact Nat.le_trans this (by omega)) hk]
  simp only [Option.bind_some]
  cases hr : Base.rightV (l.map toVar) with
  | false => rw [if_neg Bool.false_ne_true, if_neg Bool.false_ne_true]; rfl
  | true =>
    obtain ⟨h16, hall⟩ := Base.rightV_all hr
    rw [List.length_map] at h16
    rw [if_pos rfl, if_pos rfl]
    have hwr : IntKind.u64.wrap (l.length : Int) = (l.length : Int) := by
      have : IntKind.u64.wrap (l.length : Int) = (l.length : Int) % 18446744073709551616 := by simp [IntKind.wrap, IntKind.bits, IntKind.signed]
      omega
    have hu := Base.uintB_size (v := l.length) (by omega)
    unfold wherryref01_Uint.f
    rw [hwr, if_pos (by omega)]
    simp only [Option.bind_some]
    have h := vars_l0 l hw (fun x hx => hall (toVar x) (List.mem_map_of_mem hx)) h16 l.length k 0 (Base.uintB l.length) (by omega) (by omega) (by omega) (by omega)
    rw [Int.toNat_natCast]
    rw [List.length_map]
    simpa using h
end Go.Proofs.Ytcfdbdmefdffdaa.GA
/-
  Chapter 12: what the reference prints, as plain functions: text, may, bytes.
-/
set_option linter.unusedVariables false
set_option linter.unusedSimpArgs false
namespace Go.Proofs.Ytcfdbdmefdffdaa.GA
open Go Go.RowKit Go.Proofs.YtcfdbdmefdffdaaW.PrintWords Go.Proofs.YtcfdbdmefdffdaaW.PrintLast Go.Proofs.YtcfdbdmefdffdaaW.PrintMore
open Go.Proofs.Base (GRec recText recMay recMayP recB aMost bMost kindsM rightV ofN ofN_size app_size toL_inj toL_append)
theorem wfL_vars {r : GRec} (h : r.wf) : wfL (r.vars.map ofVar) := by
  intro x hx
  obtain ⟨y, hy, rfl⟩ := List.mem_map.1 hx
  exact h.2.2.2.2.2.2.2.2.2.2.2.2 y hy
theorem str2 (a b : Int) : strOfNums [a % 256, b % 256] = ofN [(a % 256).toNat, (b % 256).toNat] := rfl
theorem text_f {r : GRec} (h : r.wf) {k : Nat} (hk : 200 ≤ k) : wherryref12_text.f k r.cls r.kind r.frm r.time r.key r.key2 r.key3 r.n r.m r.a r.b r.c (r.vars.map ofVar) = some (recText r) := by
  have hv := vars_k (wfL_vars h) hk
  rw [map_to_of] at hv
  have hvs := Base.varsB_size h.2.2.2.2.2.2.2.2.2.2.2.2
  obtain ⟨h1, h2, h3, h4, h5, h6, h7, h8, h9, h10, h11, h12, h13⟩ := h
  have s0 : (ofN [(r.cls % 256).toNat, (r.kind % 256).toNat]).size = 2 := by rw [ofN_size]; rfl
  have s1 := Base.uintB_size (Base.u64_toNat h3)
  have s2 := Base.intB_size h4.1 h4.2
  have s3 := Base.uintB_size (Base.u64_toNat h5)
  have s4 := Base.uintB_size (Base.u64_toNat h6)
  have s5 := Base.uintB_size (Base.u64_toNat h7)
  have s6 := Base.intB_size h8.1 h8.2
  have s7 := Base.intB_size h9.1 h9.2
  have s8 := Base.textB_size h10
  have s9 := Base.textB_size h11
  have s10 := Base.textB_size h12
  unfold Base.okS at h10 h11 h12
  have e1 : wherryref01_Uint.f r.frm = some (Base.uintB r.frm.toNat) := by unfold wherryref01_Uint.f; rw [if_pos (show 0 ≤ r.frm ∧ r.frm ≤ 18446744073709551615 from h3)]
  have e2 : wherryref01_Int.f r.time = some (Base.intB r.time) := by unfold wherryref01_Int.f; rw [if_pos (show -9223372036854775808 ≤ r.time ∧ r.time ≤ 9223372036854775807 from h4)]
  have e3 : wherryref01_Uint.f r.key = some (Base.uintB r.key.toNat) := by unfold wherryref01_Uint.f; rw [if_pos (show 0 ≤ r.key ∧ r.key ≤ 18446744073709551615 from h5)]
  have e4 : wherryref01_Uint.f r.key2 = some (Base.uintB r.key2.toNat) := by unfold wherryref01_Uint.f; rw [if_pos (show 0 ≤ r.key2 ∧ r.key2 ≤ 18446744073709551615 from h6)]
  have e5 : wherryref01_Uint.f r.key3 = some (Base.uintB r.key3.toNat) := by unfold wherryref01_Uint.f; rw [if_pos (show 0 ≤ r.key3 ∧ r.key3 ≤ 18446744073709551615 from h7)]
  have e6 : wherryref01_Int.f r.n = some (Base.intB r.n) := by unfold wherryref01_Int.f; rw [if_pos (show -9223372036854775808 ≤ r.n ∧ r.n ≤ 9223372036854775807 from h8)]
  have e7 : wherryref01_Int.f r.m = some (Base.intB r.m) := by unfold wherryref01_Int.f; rw [if_pos (show -9223372036854775808 ≤ r.m ∧ r.m ≤ 9223372036854775807 from h9)]
  have e8 : wherryref01_Text.f r.a = some (Base.textB r.a) := by unfold wherryref01_Text.f; rw [if_pos h10]
  have e9 : wherryref01_Text.f r.b = some (Base.textB r.b) := by unfold wherryref01_Text.f; rw [if_pos h11]
  have e10 : wherryref01_Text.f r.c = some (Base.textB r.c) := by unfold wherryref01_Text.f; rw [if_pos h12]
  unfold wherryref12_text.f
  rw [Option.bind_some, str2, e1]
  simp only [Option.bind_some]
  rw [if_pos (by omega)]
  rw [e2]
  simp only [Option.bind_some]
  rw [if_pos (by simp only [app_size]; omega)]
  rw [e3]
  simp only [Option.bind_some]
  rw [if_pos (by simp only [app_size]; omega)]
  rw [e4]
  simp only [Option.bind_some]
  rw [if_pos (by simp only [app_size]; omega)]
  rw [e5]
  simp only [Option.bind_some]
  rw [if_pos (by simp only [app_size]; omega)]
  rw [e6]
  simp only [Option.bind_some]
  rw [if_pos (by simp only [app_size]; omega)]
  rw [e7]
  simp only [Option.bind_some]
  rw [if_pos (by simp only [app_size]; omega)]
  rw [e8]
  simp only [Option.bind_some]
  rw [if_pos (by simp only [app_size]; omega)]
  rw [e9]
  simp only [Option.bind_some]
  rw [if_pos (by simp only [app_size]; omega)]
  rw [e10]
  simp only [Option.bind_some]
  rw [if_pos (by simp only [app_size]; omega)]
  rw [hv]
  simp only [Option.bind_some]
  rw [if_pos (by simp only [app_size]; omega)]
  refine congrArg some ?_
  show _ = recText r
  unfold recText Base.recAcc Base.recAcc Base.recAcc Base.recAcc Base.recAcc Base.recAcc Base.recPiece Base.recHead
  simp only [Base.app_assoc]
def dM (r : GRec) : Bool := decide ((r.a.size : Int) ≤ aMost r.cls r.kind ∧ (r.b.size : Int) ≤ bMost r.cls r.kind ∧ r.c.size ≤ 32 ∧ rightV r.vars = true ∧ (recText r).size ≤ 4096)
theorem j5_f {r : GRec} (h : r.wf) {k : Nat} (hk : 201 ≤ k) (A B : Int) : wherryref12_May.j5 k A B r.cls r.kind r.frm r.time r.key r.key2 r.key3 r.n r.m r.a r.b r.c (r.vars.map ofVar) = some (decide ((r.a.size : Int) ≤ A ∧ (r.b.size : Int) ≤ B ∧ r.c.size ≤ 32 ∧ rightV r.vars = true ∧ (recText r).size ≤ 4096)) := by
  obtain ⟨k, rfl⟩ : ∃ m, k = m + 1 := ⟨k - 1, by omega⟩
  have hr := right_k (l := r.vars.map ofVar) (fun x hx => by
    have := (wfL_vars h x hx).1
    unfold Base.okS at this
    exact Nat.le_trans (show x.f0.size ≤ _ from this) (by omega)) (show 200 ≤ k by omega)
  rw [map_to_of] at hr
  simp only [wherryref12_May.j5]
  rw [hr]
  simp only [Option.bind_some]
  by_cases c1 : (r.a.size : Int) ≤ A
  · rw [if_neg (by omega)]
    by_cases c2 : (r.b.size : Int) ≤ B
    · rw [if_neg (by omega)]
      by_cases c3 : r.c.size ≤ 32
      · rw [if_neg (by omega)]
        cases c4 : rightV r.vars with
        | true =>
          rw [if_pos rfl, text_f h (by omega)]
          simp only [Option.bind_some]
          refine congrArg some ?_
          rw [Bool.eq_iff_iff]
          simp [c1, c2, c3]
          omega
        | false => rw [if_neg Bool.false_ne_true]; simp
      · rw [if_pos (by omega)]; simp [c3]
    · rw [if_pos (by omega)]; simp [c2]
  · rw [if_pos (by omega)]; simp [c1]
theorem j4_f {r : GRec} (h : r.wf) {k : Nat} (hk : 202 ≤ k) (A B : Int) (f : Bool) : wherryref12_May.j4 k A B f r.cls r.kind r.frm r.time r.key r.key2 r.key3 r.n r.m r.a r.b r.c (r.vars.map ofVar) = some (decide ((r.a.size : Int) ≤ A ∧ (r.b.size : Int) ≤ (if f then 8192 else B) ∧ r.c.size ≤ 32 ∧ rightV r.vars = true ∧ (recText r).size ≤ 4096)) := by
  obtain ⟨k, rfl⟩ : ∃ m, k = m + 1 := ⟨k - 1, by omega⟩
  simp only [wherryref12_May.j4]
  cases f
  · rw [if_neg Bool.false_ne_true]; exact j5_f h (by omega) _ _
  · rw [if_pos rfl]; exact j5_f h (by omega) _ _
theorem j3_f {r : GRec} (h : r.wf) {k : Nat} (hk : 203 ≤ k) (A : Int) : wherryref12_May.j3 k A r.cls r.kind r.frm r.time r.key r.key2 r.key3 r.n r.m r.a r.b r.c (r.vars.map ofVar) = some (decide ((r.a.size : Int) ≤ A ∧ (r.b.size : Int) ≤ bMost r.cls r.kind ∧ r.c.size ≤ 32 ∧ rightV r.vars = true ∧ (recText r).size ≤ 4096)) := by
  obtain ⟨k, rfl⟩ : ∃ m, k = m + 1 := ⟨k - 1, by omega⟩
  simp only [wherryref12_May.j3]
  by_cases hc : r.cls = 2
  · rw [if_pos hc, j4_f h (by omega)]
    have e : (if (r.kind == 1) = true then (8192 : Int) else 1024) = bMost r.cls r.kind := by
      unfold bMost
      by_cases hk1 : r.kind = 1
      · rw [if_pos (by simpa using hk1), if_pos ⟨hc, hk1⟩]
      · rw [if_neg (by simpa using hk1), if_neg (fun x => hk1 x.2)]
    rw [e]
  · rw [if_neg hc, j4_f h (by omega)]
    have e : (if false = true then (8192 : Int) else 1024) = bMost r.cls r.kind := by
      unfold bMost
      rw [if_neg Bool.false_ne_true, if_neg (fun x => hc x.1)]
    rw [e]
theorem j2_f {r : GRec} (h : r.wf) {k : Nat} (hk : 204 ≤ k) (f : Bool) (hf : (if f then (8192 : Int) else 32) = aMost r.cls r.kind) : wherryref12_May.j2 k 32 f r.cls r.kind r.frm r.time r.key r.key2 r.key3 r.n r.m r.a r.b r.c (r.vars.map ofVar) = some (dM r) := by
  obtain ⟨k, rfl⟩ : ∃ m, k = m + 1 := ⟨k - 1, by omega⟩
  simp only [wherryref12_May.j2]
  unfold dM
  cases f
  · rw [if_neg Bool.false_ne_true] at hf ⊢; rw [j3_f h (by omega), hf]
  · rw [if_pos rfl] at hf ⊢; rw [j3_f h (by omega), hf]
theorem j1_f {r : GRec} (h : r.wf) {k : Nat} (hk : 205 ≤ k) (f : Bool) : wherryref12_May.j1 k f r.cls r.kind r.frm r.time r.key r.key2 r.key3 r.n r.m r.a r.b r.c (r.vars.map ofVar) = some (!f && dM r) := by
  obtain ⟨k, rfl⟩ : ∃ m, k = m + 1 := ⟨k - 1, by omega⟩
  simp only [wherryref12_May.j1]
  cases f
  · rw [if_neg Bool.false_ne_true]
    by_cases hc : r.cls = 1
    · rw [if_pos hc, j2_f h (by omega) _ (by
        unfold aMost
        by_cases hk1 : r.kind = 1
        · rw [if_pos (by simpa using hk1), if_pos ⟨hc, hk1⟩]
        · rw [if_neg (by simpa using hk1), if_neg (fun x => hk1 x.2)])]
      rfl
    · rw [if_neg hc, j2_f h (by omega) _ (by
        unfold aMost
        rw [if_neg Bool.false_ne_true, if_neg (fun x => hc x.1)])]
      rfl
  · rw [if_pos rfl]; rfl
theorem j0_f {r : GRec} (h : r.wf) {k : Nat} (hk : 206 ≤ k) (f : Bool) : wherryref12_May.j0 k f r.cls r.kind r.frm r.time r.key r.key2 r.key3 r.n r.m r.a r.b r.c (r.vars.map ofVar) = some (!f && (decide ((r.cls = 1 ↔ r.frm = 0) ∧ 0 ≤ r.time ∧ r.time ≤ 1099511627776) && dM r)) := by
  obtain ⟨k, rfl⟩ : ∃ m, k = m + 1 := ⟨k - 1, by omega⟩
  simp only [wherryref12_May.j0]
  cases f
  · rw [if_neg Bool.false_ne_true]
    simp only [j1_f h (show 205 ≤ k by omega)]
    by_cases hc : r.cls = 1 <;> by_cases hf : r.frm = 0 <;> by_cases ht : r.time < 0 <;> by_cases hm : r.time ≤ 1099511627776 <;> simp [hc, hf, ht, hm] <;> (try omega) <;> (try (rw [decide_eq_false (show ¬ 1099511627776 < r.time by omega), decide_eq_true (show 0 ≤ r.time by omega)]; rfl)) <;> (try (cases dM r <;> simp <;> omega))
  · rw [if_pos rfl]; rfl
theorem may12_f {r : GRec} (h : r.wf) {k : Nat} (hk : 206 ≤ k) : wherryref12_May.f k r.cls r.kind r.frm r.time r.key r.key2 r.key3 r.n r.m r.a r.b r.c (r.vars.map ofVar) = some (recMay r) := by
  unfold wherryref12_May.f
  simp only [j0_f h hk]
  have e : recMay r = (decide (1 ≤ r.cls ∧ r.cls ≤ 3 ∧ 1 ≤ r.kind ∧ r.kind ≤ kindsM r.cls) && (decide ((r.cls = 1 ↔ r.frm = 0) ∧ 0 ≤ r.time ∧ r.time ≤ 1099511627776) && dM r)) := by
    unfold recMay dM
    rw [Bool.eq_iff_iff, Bool.and_eq_true, Bool.and_eq_true, decide_eq_true_iff, decide_eq_true_iff, decide_eq_true_iff, decide_eq_true_iff]
    unfold recMayP
    constructor
    · rintro ⟨a1, a2, a3, a4, a5, a6, a7, a8, a9, a10, a11, a12⟩
      exact ⟨⟨a1, a2, a3, a4⟩, ⟨a5, a6, a7⟩, a8, a9, a10, a11, a12⟩
    · rintro ⟨⟨a1, a2, a3, a4⟩, ⟨a5, a6, a7⟩, a8, a9, a10, a11, a12⟩
      exact ⟨a1, a2, a3, a4, a5, a6, a7, a8, a9, a10, a11, a12⟩
  rw [e]
  generalize (decide ((r.cls = 1 ↔ r.frm = 0) ∧ 0 ≤ r.time ∧ r.time ≤ 1099511627776) && dM r) = Z
  unfold kindsM
  by_cases c1 : r.cls < 1
  · rw [if_pos c1, decide_eq_false (fun x => by omega)]; rfl
  rw [if_neg c1]
  by_cases c2 : r.cls > 3
  · rw [if_pos c2, decide_eq_false (fun x => by omega)]; rfl
  rw [if_neg c2]
  by_cases c3 : r.kind < 1
  · rw [if_pos c3, decide_eq_false (fun x => by omega)]; rfl
  rw [if_neg c3]
  by_cases c4 : r.kind > 24
  · rw [if_pos c4, decide_eq_false (fun x => by have := x.2.2.2; split at this <;> omega)]; rfl
  rw [if_neg c4]
  by_cases c5 : r.cls = 2
  · rw [if_pos c5, decide_eq_true ⟨by omega, by omega, by omega, by rw [if_pos c5]; omega⟩]; rfl
  · rw [if_neg c5]
    by_cases c6 : r.kind > 16
    · rw [decide_eq_true c6, decide_eq_false (fun x => by have := x.2.2.2; rw [if_neg c5] at this; omega)]; rfl
    · rw [decide_eq_false c6, decide_eq_true ⟨by omega, by omega, by omega, by rw [if_neg c5]; omega⟩]; rfl
end Go.Proofs.Ytcfdbdmefdffdaa.GA
/-
  Chapter 12: the reference's May and Bytes, over a record's list as the program holds it.
-/
set_option linter.unusedVariables false
set_option linter.unusedSimpArgs false
namespace Go.Proofs.Ytcfdbdmefdffdaa.GA
open Go Go.RowKit Go.Proofs.YtcfdbdmefdffdaaW.PrintWords Go.Proofs.YtcfdbdmefdffdaaW.PrintLast Go.Proofs.YtcfdbdmefdffdaaW.PrintMore
open Go.Proofs.Base (GRec recText recMay recB Row varCells)
theorem ref12_May (r : GRec) (vv : Value) (S : Nat → Prop) (w : World) (hrow : Row w S 4 r.vars.length vv (varCells r.vars)) (hw : r.wf) :
    Calls Try.prog 12 #[.agg #[.int .i64 r.cls, .int .i64 r.kind, .int .u64 r.frm, .int .i64 r.time, .int .u64 r.key, .int .u64 r.key2, .int .u64 r.key3, .int .i64 r.n, .int .i64 r.m, .string r.a, .string r.b, .string r.c, vv]] w fun e w' => e = .returned (.bool (recMay r)) ∧ Below w.heap.size w w' := by
  obtain ⟨A, c, rfl, hc, _⟩ := hrow.open_
  have h := wherryref12_May.calls 206 r.cls r.kind r.frm r.time r.key r.key2 r.key3 r.n r.m r.a r.b r.c A c (r.vars.map ofVar) (recMay r) w (C_of_row hrow) (by rw [List.length_map]; exact hc) (may12_f hw (Nat.le_refl 206))
  rw [List.length_map] at h
  exact h
end Go.Proofs.Ytcfdbdmefdffdaa.GA
/-
  The reference's Take of chapter 12: what stands while it takes; the readers' contracts. Printed by gentakeref.py.
-/
set_option linter.unusedVariables false
set_option linter.unusedSimpArgs false
namespace Go.Proofs.Ytcfdbdmefdffdaa
open Go Go.RowKit Go.Proofs.Base
open Go.Sort (grow)
structure RTakeAt (w W : World) (g b2 b5 : Nat) (s : ByteArray) (e : Nat) (cs : Array Value) : Prop where
  rdr : RdrR W g s e
  res : W.heap[b2]? = some (.cells #[.int .i64 0, .int .i64 0, .int .u64 0, .int .i64 0, .int .u64 0, .int .u64 0, .int .u64 0, .int .i64 0, .int .i64 0, .string ⟨#[]⟩, .string ⟨#[]⟩, .string ⟨#[]⟩, .slice none 0 0] 25 (0, 0))
  rcd : W.heap[b5]? = some (.cells cs 25 (0, 0))
  low : Below w.heap.size w W
  n2 : w.heap.size ≤ b2
  ng : b2 < g
  n5 : g < b5
theorem RTakeAt.call {w W W' : World} {g b2 b5 : Nat} {s s' : ByteArray} {e e' : Nat} {cs : Array Value} (h : RTakeAt w W g b2 b5 s e cs) (hq : RdrR W' g s' e') (hm : Mut (fun b => b = g) W W') : RTakeAt w W' g b2 b5 s' e' cs :=
  ⟨hq, hm.blk h.res (by have := h.ng; omega), hm.blk h.rcd (by have := h.n5; omega), ⟨hm.os.trans h.low.os, hm.tape.trans h.low.tape, hm.output.trans h.low.output, Nat.le_trans h.low.size hm.size, fun k hk => (hm.block k (Nat.lt_of_lt_of_le hk h.low.size) (by have := h.ng; have := h.n2; omega)).trans (h.low.block k hk)⟩, h.n2, h.ng, h.n5⟩
theorem RTakeAt.set {w W : World} {g b2 b5 : Nat} {s : ByteArray} {e : Nat} {cs : Array Value} (h : RTakeAt w W g b2 b5 s e cs) (j : Nat) (v : Value) : RTakeAt w (W.setCell ⟨b5, j, none⟩ v) g b2 b5 s e (cs.setIfInBounds j v) := by
  have h2 := h.n2; have hg := h.ng; have h5 := h.n5
  refine ⟨?_, ?_, set_blk h.rcd v, h.low.setCell (show w.heap.size ≤ b5 by omega) v, h2, hg, h5⟩
  · unfold RdrR
    rw [Below.heap_setCell _ _ _ _ (show g ≠ b5 by omega)]
    exact h.rdr
  · rw [Below.heap_setCell _ _ _ _ (show b2 ≠ b5 by omega)]
    exact h.res
theorem RTakeAt.below {w W W' : World} {g b2 b5 : Nat} {s : ByteArray} {e : Nat} {cs : Array Value} (h : RTakeAt w W g b2 b5 s e cs) (hb : Below W.heap.size W W') : RTakeAt w W' g b2 b5 s e cs :=
  ⟨block_below hb h.rdr, block_below hb h.res, block_below hb h.rcd, below2 h.low hb, h.n2, h.ng, h.n5⟩
theorem row_finR {w W : World} {g b2 b5 B n e : Nat} {s : ByteArray} {v : Value} {cs : List Value} {ct : Array Value} (T : RTakeAt w W g b2 b5 s e ct) (h : Row W (fun b => B ≤ b) 4 n v cs) (hB : b5 < B) {y0 y1 y2 y3 y4 y5 y6 y7 y8 y9 y10 y11 y12 : Value} : Row (((((((((((((W.setCell ⟨b2, 0, none⟩ y0).setCell ⟨b2, 1, none⟩ y1).setCell ⟨b2, 2, none⟩ y2).setCell ⟨b2, 3, none⟩ y3).setCell ⟨b2, 4, none⟩ y4).setCell ⟨b2, 5, none⟩ y5).setCell ⟨b2, 6, none⟩ y6).setCell ⟨b2, 7, none⟩ y7).setCell ⟨b2, 8, none⟩ y8).setCell ⟨b2, 9, none⟩ y9).setCell ⟨b2, 10, none⟩ y10).setCell ⟨b2, 11, none⟩ y11).setCell ⟨b2, 12, none⟩ y12) (fun b => w.heap.size ≤ b) 4 n v cs := by
  have h2 := T.n2; have hg := T.ng; have h5 := T.n5
  have h0 := row_fin1 (row_fin1 (row_fin1 (row_fin1 (row_fin1 (row_fin1 (row_fin1 (row_fin1 (row_fin1 (row_fin1 (row_fin1 (row_fin1 (row_fin1 h (show b2 < B by omega) 0 y0) (show b2 < B by omega) 1 y1) (show b2 < B by omega) 2 y2) (show b2 < B by omega) 3 y3) (show b2 < B by omega) 4 y4) (show b2 < B by omega) 5 y5) (show b2 < B by omega) 6 y6) (show b2 < B by omega) 7 y7) (show b2 < B by omega) 8 y8) (show b2 < B by omega) 9 y9) (show b2 < B by omega) 10 y10) (show b2 < B by omega) 11 y11) (show b2 < B by omega) 12 y12
  exact h0.weaken (fun b _ hS => by have : B ≤ b := hS; omega)
theorem rrd_Byte (g : Nat) (s : ByteArray) (e0 : Nat) (x : Nat) (s' : ByteArray) (e' : Nat) (w : World) (hr : RdrR w g s e0) (hs : s.size ≤ 140737488351232) (h : rdByte s e0 = (x, s', e')) :
    Calls Try.prog 32 #[.pointer (some ⟨g, 0, none⟩)] w fun e w' => e = .returned (.int .u8 x) ∧ RdrR w' g s' e' ∧ Mut (fun b => b = g) w w' := by
  have hc := refrd_Byte g s e0 w hr (by omega)
  rw [h] at hc
  exact hc
theorem rrd_Uint (g : Nat) (s : ByteArray) (e0 : Nat) (x : Nat) (s' : ByteArray) (e' : Nat) (w : World) (hr : RdrR w g s e0) (hs : s.size ≤ 140737488351232) (h : rdUint s e0 = (x, s', e')) :
    Calls Try.prog 33 #[.pointer (some ⟨g, 0, none⟩)] w fun e w' => e = .returned (.int .u64 x) ∧ RdrR w' g s' e' ∧ Mut (fun b => b = g) w w' := by
  have hc := refrd_Uint g s e0 w hr (by omega)
  rw [h] at hc
  exact hc
theorem rrd_Int (g : Nat) (s : ByteArray) (e0 : Nat) (x : Int) (s' : ByteArray) (e' : Nat) (w : World) (hr : RdrR w g s e0) (hs : s.size ≤ 140737488351232) (h : rdInt s e0 = (x, s', e')) :
    Calls Try.prog 34 #[.pointer (some ⟨g, 0, none⟩)] w fun e w' => e = .returned (.int .i64 x) ∧ RdrR w' g s' e' ∧ Mut (fun b => b = g) w w' := by
  have hc := refrd_Int g s e0 w hr (by omega)
  rw [h] at hc
  exact hc
theorem rrd_Text (g : Nat) (s : ByteArray) (e0 : Nat) (most : Int) (x s' : ByteArray) (e' : Nat) (w : World) (hr : RdrR w g s e0) (hs : s.size ≤ 140737488351232) (h0 : 0 ≤ most) (h1 : most ≤ 8192) (h : rdText most s e0 = (x, s', e')) :
    Calls Try.prog 35 #[.pointer (some ⟨g, 0, none⟩), .int .i64 most] w fun e w' => e = .returned (.string x) ∧ RdrR w' g s' e' ∧ Mut (fun b => b = g) w w' := by
  have hc := refrd_Text g s e0 most w hr (by omega) (by omega) (by omega)
  rw [h] at hc
  exact hc
theorem rrd_End (g : Nat) (s : ByteArray) (e0 n : Nat) (w : World) (hr : RdrR w g s e0) (hs : s.size ≤ 140737488351232) (h : rdEnd s e0 = n) :
    Calls Try.prog 37 #[.pointer (some ⟨g, 0, none⟩)] w fun e w' => e = .returned (.int .i64 n) ∧ w = w' := by
  have hc := refrd_End g s e0 w hr (by omega)
  rw [h] at hc
  exact hc
theorem rTakeVars (g : Nat) (s : ByteArray) (e0 : Nat) (ov : Option (List GVar)) (l : List GVar) (b : Bool) (s' : ByteArray) (e' : Nat) (w : World) (hr : RdrR w g s e0) (hs : s.size ≤ 140737488351232) (h : takeVars s e0 = (ov, s', e')) (hb : ov.isSome = b) (hl : ov.getD [] = l) :
    Calls Try.prog 36 #[.pointer (some ⟨g, 0, none⟩)] w fun e w' => ∃ A c, e = .returned (.tuple #[.slice A l.length c, .bool b]) ∧ Row w' (fun b => w.heap.size ≤ b) 4 l.length (.slice A l.length c) (varCells l) ∧ RdrR w' g s' e' ∧ Mut (fun b => b = g) w w' := by
  refine (GA.ref_TakeVars g s e0 w hr hs).mono ?_
  rw [h]
  subst hb hl
  rintro e w' ⟨v, rfl, ho, hq, hm⟩
  have hrow := Row.of_own ho
  obtain ⟨A, c, rfl, _, _⟩ := hrow.open_
  exact ⟨A, c, rfl, hrow.weaken (fun b _ hS => hS.1), hq, hm⟩
theorem rMay (r : GRec) (b : Bool) (vv : Value) (S : Nat → Prop) (w : World) (hrow : Row w S 4 r.vars.length vv (varCells r.vars)) (hw : r.wf) (h : recMay r = b) :
    Calls Try.prog 12 #[.agg #[.int .i64 r.cls, .int .i64 r.kind, .int .u64 r.frm, .int .i64 r.time, .int .u64 r.key, .int .u64 r.key2, .int .u64 r.key3, .int .i64 r.n, .int .i64 r.m, .string r.a, .string r.b, .string r.c, vv]] w fun e w' => e = .returned (.bool b) ∧ Below w.heap.size w w' := by
  have hc := GA.ref12_May r vv S w hrow hw
  rw [h] at hc
  exact hc
theorem rtake_start (s : ByteArray) (w : World) : RTakeAt w (((w.alloc (.cells #[.int .i64 0, .int .i64 0, .int .u64 0, .int .i64 0, .int .u64 0, .int .u64 0, .int .u64 0, .int .i64 0, .int .i64 0, .string ⟨#[]⟩, .string ⟨#[]⟩, .string ⟨#[]⟩, .slice none 0 0] 25)).alloc (.cells #[.string s, .int .i64 0] 64)).alloc (.cells #[.int .i64 0, .int .i64 0, .int .u64 0, .int .i64 0, .int .u64 0, .int .u64 0, .int .u64 0, .int .i64 0, .int .i64 0, .string ⟨#[]⟩, .string ⟨#[]⟩, .string ⟨#[]⟩, .slice none 0 0] 25)) (w.heap.size + 1) w.heap.size (w.heap.size + 1 + 1) s 0 #[.int .i64 0, .int .i64 0, .int .u64 0, .int .i64 0, .int .u64 0, .int .u64 0, .int .u64 0, .int .i64 0, .int .i64 0, .string ⟨#[]⟩, .string ⟨#[]⟩, .string ⟨#[]⟩, .slice none 0 0] :=
  ⟨blk_old _ (blk_new _ _ (by simp)), blk_old _ (blk_old _ (blk_new _ _ rfl)), blk_new _ _ (by simp), below_alloc (below_alloc (below_alloc (Below.refl _ _) _) _) _, Nat.le_refl _, by omega, by omega⟩
end Go.Proofs.Ytcfdbdmefdffdaa
/-
  The reference's Take of chapter 12: one of the ways of its walk. Printed by gentakeref.py.
-/
set_option linter.unusedVariables false
set_option linter.unusedSimpArgs false
namespace Go.Proofs.Ytcfdbdmefdffdaa
open Go Go.RowKit Go.Proofs.Base
open Go.Sort (grow)
set_option maxRecDepth 100000 in
set_option maxHeartbeats 8000000 in
theorem ref12_Take_a (s : ByteArray) (w : World) (x0 : Nat) (s1 : ByteArray) (e1 : Nat) (x1 : Nat) (s2 : ByteArray) (e2 : Nat) (x2 : Nat) (s3 : ByteArray) (e3 : Nat) (x3 : Int) (s4 : ByteArray) (e4 : Nat) (x4 : Nat) (s5 : ByteArray) (e5 : Nat) (x5 : Nat) (s6 : ByteArray) (e6 : Nat) (x6 : Nat) (s7 : ByteArray) (e7 : Nat) (x7 : Int) (s8 : ByteArray) (e8 : Nat) (x8 : Int) (s9 : ByteArray) (e9 : Nat) (x9 : ByteArray) (s10 : ByteArray) (e10 : Nat) (x10 : ByteArray) (s11 : ByteArray) (e11 : Nat) (x11 : ByteArray) (s12 : ByteArray) (e12 : Nat) (s13 : ByteArray) (e13 : Nat) (hs : s.size ≤ 140737488351232) (hx0 : (x0 : Int) ≤ 255) (hx1 : (x1 : Int) ≤ 255) (h0 : rdByte s 0 = (x0, s1, e1)) (h1 : rdByte s1 e1 = (x1, s2, e2)) (h2 : rdUint s2 e2 = (x2, s3, e3)) (h3 : rdInt s3 e3 = (x3, s4, e4)) (h4 : rdUint s4 e4 = (x4, s5, e5)) (h5 : rdUint s5 e5 = (x5, s6, e6)) (h6 : rdUint s6 e6 = (x6, s7, e7)) (h7 : rdInt s7 e7 = (x7, s8, e8)) (h8 : rdInt s8 e8 = (x8, s9, e9)) (h9 : rdText 8192 s9 e9 = (x9, s10, e10)) (h10 : rdText 8192 s10 e10 = (x10, s11, e11)) (h11 : rdText 32 s11 e11 = (x11, s12, e12)) (hz1 : s1.size ≤ 140737488351232) (hz2 : s2.size ≤ 140737488351232) (hz3 : s3.size ≤ 140737488351232) (hz4 : s4.size ≤ 140737488351232) (hz5 : s5.size ≤ 140737488351232) (hz6 : s6.size ≤ 140737488351232) (hz7 : s7.size ≤ 140737488351232) (hz8 : s8.size ≤ 140737488351232) (hz9 : s9.size ≤ 140737488351232) (hz10 : s10.size ≤ 140737488351232) (hz11 : s11.size ≤ 140737488351232) (hz12 : s12.size ≤ 140737488351232) (h12 : takeVars s12 e12 = (none, s13, e13)) (MB : Bool) (hwf : (⟨(x0 : Int), (x1 : Int), (x2 : Int), x3, (x4 : Int), (x5 : Int), (x6 : Int), x7, x8, x9, x10, x11, ([] : List GVar)⟩ : GRec).wf) (hM : recMay ⟨(x0 : Int), (x1 : Int), (x2 : Int), x3, (x4 : Int), (x5 : Int), (x6 : Int), x7, x8, x9, x10, x11, ([] : List GVar)⟩ = MB) (hz13 : s13.size ≤ 140737488351232) :
    Calls Try.prog 16 #[.string s] w fun e w' => e = .returned (.tuple #[.agg #[.int .i64 0, .int .i64 0, .int .u64 0, .int .i64 0, .int .u64 0, .int .u64 0, .int .u64 0, .int .i64 0, .int .i64 0, .string ⟨#[]⟩, .string ⟨#[]⟩, .string ⟨#[]⟩, .slice none 0 0], .int .i64 3]) ∧ Below w.heap.size w w' := by
  have HZ0 := Lib.hid hs
  have HZ1 := Lib.hid hz1
  have HZ2 := Lib.hid hz2
  have HZ3 := Lib.hid hz3
  have HZ4 := Lib.hid hz4
  have HZ5 := Lib.hid hz5
  have HZ6 := Lib.hid hz6
  have HZ7 := Lib.hid hz7
  have HZ8 := Lib.hid hz8
  have HZ9 := Lib.hid hz9
  have HZ10 := Lib.hid hz10
  have HZ11 := Lib.hid hz11
  have HZ12 := Lib.hid hz12
  have H0 := Lib.hid h0
  have H1 := Lib.hid h1
  have H2 := Lib.hid h2
  have H3 := Lib.hid h3
  have H4 := Lib.hid h4
  have H5 := Lib.hid h5
  have H6 := Lib.hid h6
  have H7 := Lib.hid h7
  have H8 := Lib.hid h8
  have H9 := Lib.hid h9
  have H10 := Lib.hid h10
  have H11 := Lib.hid h11
  have H12 := Lib.hid h12
  clear hs hz1 hz2 hz3 hz4 hz5 hz6 hz7 hz8 hz9 hz10 hz11 hz12 h0 h1 h2 h3 h4 h5 h6 h7 h8 h9 h10 h11 h12
  have HWF := Lib.hid hwf
  have HM := Lib.hid hM
  clear hwf hM
  have HZ13 := Lib.hid hz13
  clear hz13
  have n5a : w.heap.size ≠ w.heap.size + 1 + 1 := (by omega)
  have n5b : w.heap.size + 1 + 1 ≠ w.heap.size := (by omega)
  go_enter Try.func16, Try.ntmps16
  go_wp2_with (first | (go_at_call 32; refine (rrd_Byte (w.heap.size + 1) s 0 x0 s1 e1 _ (rtake_start s w).rdr HZ0.out H0.out).mono ?_; rintro e W1 ⟨rfl, hq, hm⟩; have T1 : Hid (RTakeAt w W1 (w.heap.size + 1) w.heap.size (w.heap.size + 1 + 1) s1 e1 #[.int .i64 0, .int .i64 0, .int .u64 0, .int .i64 0, .int .u64 0, .int .u64 0, .int .u64 0, .int .i64 0, .int .i64 0, .string ⟨#[]⟩, .string ⟨#[]⟩, .string ⟨#[]⟩, .slice none 0 0]) := Lib.hid ((rtake_start s w).call hq hm); clear hq hm; have bb := T1.out.rcd; have c0 := (cell_of_blk bb 0).trans (rfl : _ = some (Value.int .i64 0)); have f0 := frozen_of_blk bb 0; clear bb) | (go_at_call 32; refine (rrd_Byte (w.heap.size + 1) s1 e1 x1 s2 e2 _ (T1.out.set 0 (.int .i64 (x0 : Int))).rdr HZ1.out H1.out).mono ?_; rintro e W2 ⟨rfl, hq, hm⟩; have T2 : Hid (RTakeAt w W2 (w.heap.size + 1) w.heap.size (w.heap.size + 1 + 1) s2 e2 #[.int .i64 (x0 : Int), .int .i64 0, .int .u64 0, .int .i64 0, .int .u64 0, .int .u64 0, .int .u64 0, .int .i64 0, .int .i64 0, .string ⟨#[]⟩, .string ⟨#[]⟩, .string ⟨#[]⟩, .slice none 0 0]) := Lib.hid ((T1.out.set 0 (.int .i64 (x0 : Int))).call hq hm); clear hq hm T1 c0 f0; have bb := T2.out.rcd; have c1 := (cell_of_blk bb 1).trans (rfl : _ = some (Value.int .i64 0)); have f1 := frozen_of_blk bb 1; clear bb) | (go_at_call 33; refine (rrd_Uint (w.heap.size + 1) s2 e2 x2 s3 e3 _ (T2.out.set 1 (.int .i64 (x1 : Int))).rdr HZ2.out H2.out).mono ?_; rintro e W3 ⟨rfl, hq, hm⟩; have T3 : Hid (RTakeAt w W3 (w.heap.size + 1) w.heap.size (w.heap.size + 1 + 1) s3 e3 #[.int .i64 (x0 : Int), .int .i64 (x1 : Int), .int .u64 0, .int .i64 0, .int .u64 0, .int .u64 0, .int .u64 0, .int .i64 0, .int .i64 0, .string ⟨#[]⟩, .string ⟨#[]⟩, .string ⟨#[]⟩, .slice none 0 0]) := Lib.hid ((T2.out.set 1 (.int .i64 (x1 : Int))).call hq hm); clear hq hm T2 c1 f1; have bb := T3.out.rcd; have c2 := (cell_of_blk bb 2).trans (rfl : _ = some (Value.int .u64 0)); have f2 := frozen_of_blk bb 2; clear bb) | (go_at_call 34; refine (rrd_Int (w.heap.size + 1) s3 e3 x3 s4 e4 _ (T3.out.set 2 (.int .u64 (x2 : Int))).rdr HZ3.out H3.out).mono ?_; rintro e W4 ⟨rfl, hq, hm⟩; have T4 : Hid (RTakeAt w W4 (w.heap.size + 1) w.heap.size (w.heap.size + 1 + 1) s4 e4 #[.int .i64 (x0 : Int), .int .i64 (x1 : Int), .int .u64 (x2 : Int), .int .i64 0, .int .u64 0, .int .u64 0, .int .u64 0, .int .i64 0, .int .i64 0, .string ⟨#[]⟩, .string ⟨#[]⟩, .string ⟨#[]⟩, .slice none 0 0]) := Lib.hid ((T3.out.set 2 (.int .u64 (x2 : Int))).call hq hm); clear hq hm T3 c2 f2; have bb := T4.out.rcd; have c3 := (cell_of_blk bb 3).trans (rfl : _ = some (Value.int .i64 0)); have f3 := frozen_of_blk bb 3; clear bb) | (go_at_call 33; refine (rrd_Uint (w.heap.size + 1) s4 e4 x4 s5 e5 _ (T4.out.set 3 (.int .i64 x3)).rdr HZ4.out H4.out).mono ?_; rintro e W5 ⟨rfl, hq, hm⟩; have T5 : Hid (RTakeAt w W5 (w.heap.size + 1) w.heap.size (w.heap.size + 1 + 1) s5 e5 #[.int .i64 (x0 : Int), .int .i64 (x1 : Int), .int .u64 (x2 : Int), .int .i64 x3, .int .u64 0, .int .u64 0, .int .u64 0, .int .i64 0, .int .i64 0, .string ⟨#[]⟩, .string ⟨#[]⟩, .string ⟨#[]⟩, .slice none 0 0]) := Lib.hid ((T4.out.set 3 (.int .i64 x3)).call hq hm); clear hq hm T4 c3 f3; have bb := T5.out.rcd; have c4 := (cell_of_blk bb 4).trans (rfl : _ = some (Value.int .u64 0)); have f4 := frozen_of_blk bb 4; clear bb) | (go_at_call 33; refine (rrd_Uint (w.heap.size + 1) s5 e5 x5 s6 e6 _ (T5.out.set 4 (.int .u64 (x4 : Int))).rdr HZ5.out H5.out).mono ?_; rintro e W6 ⟨rfl, hq, hm⟩; have T6 : Hid (RTakeAt w W6 (w.heap.size + 1) w.heap.size (w.heap.size + 1 + 1) s6 e6 #[.int .i64 (x0 : Int), .int .i64 (x1 : Int), .int .u64 (x2 : Int), .int .i64 x3, .int .u64 (x4 : Int), .int .u64 0, .int .u64 0, .int .i64 0, .int .i64 0, .string ⟨#[]⟩, .string ⟨#[]⟩, .string ⟨#[]⟩, .slice none 0 0]) := Lib.hid ((T5.out.set 4 (.int .u64 (x4 : Int))).call hq hm); clear hq hm T5 c4 f4; have bb := T6.out.rcd; have c5 := (cell_of_blk bb 5).trans (rfl : _ = some (Value.int .u64 0)); have f5 := frozen_of_blk bb 5; clear bb) | (go_at_call 33; refine (rrd_Uint (w.heap.size + 1) s6 e6 x6 s7 e7 _ (T6.out.set 5 (.int .u64 (x5 : Int))).rdr HZ6.out H6.out).mono ?_; rintro e W7 ⟨rfl, hq, hm⟩; have T7 : Hid (RTakeAt w W7 (w.heap.size + 1) w.heap.size (w.heap.size + 1 + 1) s7 e7 #[.int .i64 (x0 : Int), .int .i64 (x1 : Int), .int .u64 (x2 : Int), .int .i64 x3, .int .u64 (x4 : Int), .int .u64 (x5 : Int), .int .u64 0, .int .i64 0, .int .i64 0, .string ⟨#[]⟩, .string ⟨#[]⟩, .string ⟨#[]⟩, .slice none 0 0]) := Lib.hid ((T6.out.set 5 (.int .u64 (x5 : Int))).call hq hm); clear hq hm T6 c5 f5; have bb := T7.out.rcd; have c6 := (cell_of_blk bb 6).trans (rfl : _ = some (Value.int .u64 0)); have f6 := frozen_of_blk bb 6; clear bb) | (go_at_call 34; refine (rrd_Int (w.heap.size + 1) s7 e7 x7 s8 e8 _ (T7.out.set 6 (.int .u64 (x6 : Int))).rdr HZ7.out H7.out).mono ?_; rintro e W8 ⟨rfl, hq, hm⟩; have T8 : Hid (RTakeAt w W8 (w.heap.size + 1) w.heap.size (w.heap.size + 1 + 1) s8 e8 #[.int .i64 (x0 : Int), .int .i64 (x1 : Int), .int .u64 (x2 : Int), .int .i64 x3, .int .u64 (x4 : Int), .int .u64 (x5 : Int), .int .u64 (x6 : Int), .int .i64 0, .int .i64 0, .string ⟨#[]⟩, .string ⟨#[]⟩, .string ⟨#[]⟩, .slice none 0 0]) := Lib.hid ((T7.out.set 6 (.int .u64 (x6 : Int))).call hq hm); clear hq hm T7 c6 f6; have bb := T8.out.rcd; have c7 := (cell_of_blk bb 7).trans (rfl : _ = some (Value.int .i64 0)); have f7 := frozen_of_blk bb 7; clear bb) | (go_at_call 34; refine (rrd_Int (w.heap.size + 1) s8 e8 x8 s9 e9 _ (T8.out.set 7 (.int .i64 x7)).rdr HZ8.out H8.out).mono ?_; rintro e W9 ⟨rfl, hq, hm⟩; have T9 : Hid (RTakeAt w W9 (w.heap.size + 1) w.heap.size (w.heap.size + 1 + 1) s9 e9 #[.int .i64 (x0 : Int), .int .i64 (x1 : Int), .int .u64 (x2 : Int), .int .i64 x3, .int .u64 (x4 : Int), .int .u64 (x5 : Int), .int .u64 (x6 : Int), .int .i64 x7, .int .i64 0, .string ⟨#[]⟩, .string ⟨#[]⟩, .string ⟨#[]⟩, .slice none 0 0]) := Lib.hid ((T8.out.set 7 (.int .i64 x7)).call hq hm); clear hq hm T8 c7 f7; have bb := T9.out.rcd; have c8 := (cell_of_blk bb 8).trans (rfl : _ = some (Value.int .i64 0)); have f8 := frozen_of_blk bb 8; clear bb) | (go_at_call 35; refine (rrd_Text (w.heap.size + 1) s9 e9 8192 x9 s10 e10 _ (T9.out.set 8 (.int .i64 x8)).rdr HZ9.out (by decide) (by decide) H9.out).mono ?_; rintro e W10 ⟨rfl, hq, hm⟩; have T10 : Hid (RTakeAt w W10 (w.heap.size + 1) w.heap.size (w.heap.size + 1 + 1) s10 e10 #[.int .i64 (x0 : Int), .int .i64 (x1 : Int), .int .u64 (x2 : Int), .int .i64 x3, .int .u64 (x4 : Int), .int .u64 (x5 : Int), .int .u64 (x6 : Int), .int .i64 x7, .int .i64 x8, .string ⟨#[]⟩, .string ⟨#[]⟩, .string ⟨#[]⟩, .slice none 0 0]) := Lib.hid ((T9.out.set 8 (.int .i64 x8)).call hq hm); clear hq hm T9 c8 f8; have bb := T10.out.rcd; have c9 := (cell_of_blk bb 9).trans (rfl : _ = some (Value.string ⟨#[]⟩)); have f9 := frozen_of_blk bb 9; clear bb) | (go_at_call 35; refine (rrd_Text (w.heap.size + 1) s10 e10 8192 x10 s11 e11 _ (T10.out.set 9 (.string x9)).rdr HZ10.out (by decide) (by decide) H10.out).mono ?_; rintro e W11 ⟨rfl, hq, hm⟩; have T11 : Hid (RTakeAt w W11 (w.heap.size + 1) w.heap.size (w.heap.size + 1 + 1) s11 e11 #[.int .i64 (x0 : Int), .int .i64 (x1 : Int), .int .u64 (x2 : Int), .int .i64 x3, .int .u64 (x4 : Int), .int .u64 (x5 : Int), .int .u64 (x6 : Int), .int .i64 x7, .int .i64 x8, .string x9, .string ⟨#[]⟩, .string ⟨#[]⟩, .slice none 0 0]) := Lib.hid ((T10.out.set 9 (.string x9)).call hq hm); clear hq hm T10 c9 f9; have bb := T11.out.rcd; have c10 := (cell_of_blk bb 10).trans (rfl : _ = some (Value.string ⟨#[]⟩)); have f10 := frozen_of_blk bb 10; clear bb) | (go_at_call 35; refine (rrd_Text (w.heap.size + 1) s11 e11 32 x11 s12 e12 _ (T11.out.set 10 (.string x10)).rdr HZ11.out (by decide) (by decide) H11.out).mono ?_; rintro e W12 ⟨rfl, hq, hm⟩; have T12 : Hid (RTakeAt w W12 (w.heap.size + 1) w.heap.size (w.heap.size + 1 + 1) s12 e12 #[.int .i64 (x0 : Int), .int .i64 (x1 : Int), .int .u64 (x2 : Int), .int .i64 x3, .int .u64 (x4 : Int), .int .u64 (x5 : Int), .int .u64 (x6 : Int), .int .i64 x7, .int .i64 x8, .string x9, .string x10, .string ⟨#[]⟩, .slice none 0 0]) := Lib.hid ((T11.out.set 10 (.string x10)).call hq hm); clear hq hm T11 c10 f10; have bb := T12.out.rcd; have c11 := (cell_of_blk bb 11).trans (rfl : _ = some (Value.string ⟨#[]⟩)); have f11 := frozen_of_blk bb 11; clear bb) | (go_at_call 36; refine (rTakeVars (w.heap.size + 1) s12 e12 (none) (([] : List GVar)) false s13 e13 _ (T12.out.set 11 (.string x11)).rdr HZ12.out H12.out rfl rfl).mono ?_; rintro e W13 ⟨A, c, rfl, hrow, hq, hm⟩; have T13 : Hid (RTakeAt w W13 (w.heap.size + 1) w.heap.size (w.heap.size + 1 + 1) s13 e13 #[.int .i64 (x0 : Int), .int .i64 (x1 : Int), .int .u64 (x2 : Int), .int .i64 x3, .int .u64 (x4 : Int), .int .u64 (x5 : Int), .int .u64 (x6 : Int), .int .i64 x7, .int .i64 x8, .string x9, .string x10, .string x11, .slice none 0 0]) := Lib.hid ((T12.out.set 11 (.string x11)).call hq hm); have hlt := lt_of_blk (T12.out.set 11 (.string x11)).rcd; have HLT := Lib.hid hlt; have HR13 := Lib.hid (row_set (w := W13) hrow hlt (.slice A (([] : List GVar)).length c)); clear hq hm hrow hlt T12 c11 f11; have bb := T13.out.rcd; have d0 := (cell_of_blk bb 0).trans (rfl : _ = some (Value.int .i64 (x0 : Int))); have d1 := (cell_of_blk bb 1).trans (rfl : _ = some (Value.int .i64 (x1 : Int))); have d2 := (cell_of_blk bb 2).trans (rfl : _ = some (Value.int .u64 (x2 : Int))); have d3 := (cell_of_blk bb 3).trans (rfl : _ = some (Value.int .i64 x3)); have d4 := (cell_of_blk bb 4).trans (rfl : _ = some (Value.int .u64 (x4 : Int))); have d5 := (cell_of_blk bb 5).trans (rfl : _ = some (Value.int .u64 (x5 : Int))); have d6 := (cell_of_blk bb 6).trans (rfl : _ = some (Value.int .u64 (x6 : Int))); have d7 := (cell_of_blk bb 7).trans (rfl : _ = some (Value.int .i64 x7)); have d8 := (cell_of_blk bb 8).trans (rfl : _ = some (Value.int .i64 x8)); have d9 := (cell_of_blk bb 9).trans (rfl : _ = some (Value.string x9)); have d10 := (cell_of_blk bb 10).trans (rfl : _ = some (Value.string x10)); have d11 := (cell_of_blk bb 11).trans (rfl : _ = some (Value.string x11)); have d12 := (cell_of_blk bb 12).trans (rfl : _ = some (Value.slice none 0 0)); have df12 := frozen_of_blk bb 12; clear bb) | (go_at_call 12; refine (rMay ⟨(x0 : Int), (x1 : Int), (x2 : Int), x3, (x4 : Int), (x5 : Int), (x6 : Int), x7, x8, x9, x10, x11, ([] : List GVar)⟩ MB (.slice A (([] : List GVar)).length c) _ _ HR13.out HWF.out HM.out).mono ?_; rintro e W15 ⟨rfl, hb15⟩; have T15 := Lib.hid (((T13.out.set 12 (.slice A (([] : List GVar)).length c)).below hb15) : RTakeAt w W15 (w.heap.size + 1) w.heap.size (w.heap.size + 1 + 1) s13 e13 #[.int .i64 (x0 : Int), .int .i64 (x1 : Int), .int .u64 (x2 : Int), .int .i64 x3, .int .u64 (x4 : Int), .int .u64 (x5 : Int), .int .u64 (x6 : Int), .int .i64 x7, .int .i64 x8, .string x9, .string x10, .string x11, .slice A (([] : List GVar)).length c]); have HR15 := Lib.hid (HR13.out.below hb15); clear hb15 d0 d1 d2 d3 d4 d5 d6 d7 d8 d9 d10 d11 d12 df12; have bb := T15.out.rcd; have d0 := (cell_of_blk bb 0).trans (rfl : _ = some (Value.int .i64 (x0 : Int))); have d1 := (cell_of_blk bb 1).trans (rfl : _ = some (Value.int .i64 (x1 : Int))); have d2 := (cell_of_blk bb 2).trans (rfl : _ = some (Value.int .u64 (x2 : Int))); have d3 := (cell_of_blk bb 3).trans (rfl : _ = some (Value.int .i64 x3)); have d4 := (cell_of_blk bb 4).trans (rfl : _ = some (Value.int .u64 (x4 : Int))); have d5 := (cell_of_blk bb 5).trans (rfl : _ = some (Value.int .u64 (x5 : Int))); have d6 := (cell_of_blk bb 6).trans (rfl : _ = some (Value.int .u64 (x6 : Int))); have d7 := (cell_of_blk bb 7).trans (rfl : _ = some (Value.int .i64 x7)); have d8 := (cell_of_blk bb 8).trans (rfl : _ = some (Value.int .i64 x8)); have d9 := (cell_of_blk bb 9).trans (rfl : _ = some (Value.string x9)); have d10 := (cell_of_blk bb 10).trans (rfl : _ = some (Value.string x10)); have d11 := (cell_of_blk bb 11).trans (rfl : _ = some (Value.string x11)); have d12 := (cell_of_blk bb 12).trans (rfl : _ = some (Value.slice A (([] : List GVar)).length c)); have br := T15.out.res; have z0 := (cell_of_blk br 0).trans (rfl : _ = some (Value.int .i64 0)); have z1 := (cell_of_blk br 1).trans (rfl : _ = some (Value.int .i64 0)); have z2 := (cell_of_blk br 2).trans (rfl : _ = some (Value.int .u64 0)); have z3 := (cell_of_blk br 3).trans (rfl : _ = some (Value.int .i64 0)); have z4 := (cell_of_blk br 4).trans (rfl : _ = some (Value.int .u64 0)); have z5 := (cell_of_blk br 5).trans (rfl : _ = some (Value.int .u64 0)); have z6 := (cell_of_blk br 6).trans (rfl : _ = some (Value.int .u64 0)); have z7 := (cell_of_blk br 7).trans (rfl : _ = some (Value.int .i64 0)); have z8 := (cell_of_blk br 8).trans (rfl : _ = some (Value.int .i64 0)); have z9 := (cell_of_blk br 9).trans (rfl : _ = some (Value.string ⟨#[]⟩)); have z10 := (cell_of_blk br 10).trans (rfl : _ = some (Value.string ⟨#[]⟩)); have z11 := (cell_of_blk br 11).trans (rfl : _ = some (Value.string ⟨#[]⟩)); have z12 := (cell_of_blk br 12).trans (rfl : _ = some (Value.slice none 0 0)); have zf0 := frozen_of_blk br 0; have zf1 := frozen_of_blk br 1; have zf2 := frozen_of_blk br 2; have zf3 := frozen_of_blk br 3; have zf4 := frozen_of_blk br 4; have zf5 := frozen_of_blk br 5; have zf6 := frozen_of_blk br 6; have zf7 := frozen_of_blk br 7; have zf8 := frozen_of_blk br 8; have zf9 := frozen_of_blk br 9; have zf10 := frozen_of_blk br 10; have zf11 := frozen_of_blk br 11; have zf12 := frozen_of_blk br 12; clear bb br))
  have hfin := set_blk13 T15.out.res (.int .i64 0) (.int .i64 0) (.int .u64 0) (.int .i64 0) (.int .u64 0) (.int .u64 0) (.int .u64 0) (.int .i64 0) (.int .i64 0) (.string ⟨#[]⟩) (.string ⟨#[]⟩) (.string ⟨#[]⟩) (.slice none 0 0)
  have hbel := (((((((((((((T15.out.low.setCell (p := ⟨w.heap.size, 0, none⟩) (Nat.le_refl _) (.int .i64 0)).setCell (p := ⟨w.heap.size, 1, none⟩) (Nat.le_refl _) (.int .i64 0)).setCell (p := ⟨w.heap.size, 2, none⟩) (Nat.le_refl _) (.int .u64 0)).setCell (p := ⟨w.heap.size, 3, none⟩) (Nat.le_refl _) (.int .i64 0)).setCell (p := ⟨w.heap.size, 4, none⟩) (Nat.le_refl _) (.int .u64 0)).setCell (p := ⟨w.heap.size, 5, none⟩) (Nat.le_refl _) (.int .u64 0)).setCell (p := ⟨w.heap.size, 6, none⟩) (Nat.le_refl _) (.int .u64 0)).setCell (p := ⟨w.heap.size, 7, none⟩) (Nat.le_refl _) (.int .i64 0)).setCell (p := ⟨w.heap.size, 8, none⟩) (Nat.le_refl _) (.int .i64 0)).setCell (p := ⟨w.heap.size, 9, none⟩) (Nat.le_refl _) (.string ⟨#[]⟩)).setCell (p := ⟨w.heap.size, 10, none⟩) (Nat.le_refl _) (.string ⟨#[]⟩)).setCell (p := ⟨w.heap.size, 11, none⟩) (Nat.le_refl _) (.string ⟨#[]⟩)).setCell (p := ⟨w.heap.size, 12, none⟩) (Nat.le_refl _) (.slice none 0 0))
  generalize (((((((((((((W15.setCell ⟨w.heap.size, 0, none⟩ (.int .i64 0)).setCell ⟨w.heap.size, 1, none⟩ (.int .i64 0)).setCell ⟨w.heap.size, 2, none⟩ (.int .u64 0)).setCell ⟨w.heap.size, 3, none⟩ (.int .i64 0)).setCell ⟨w.heap.size, 4, none⟩ (.int .u64 0)).setCell ⟨w.heap.size, 5, none⟩ (.int .u64 0)).setCell ⟨w.heap.size, 6, none⟩ (.int .u64 0)).setCell ⟨w.heap.size, 7, none⟩ (.int .i64 0)).setCell ⟨w.heap.size, 8, none⟩ (.int .i64 0)).setCell ⟨w.heap.size, 9, none⟩ (.string ⟨#[]⟩)).setCell ⟨w.heap.size, 10, none⟩ (.string ⟨#[]⟩)).setCell ⟨w.heap.size, 11, none⟩ (.string ⟨#[]⟩)).setCell ⟨w.heap.size, 12, none⟩ (.slice none 0 0)) = Fw at *
  have r0 := (cell_of_blk hfin 0).trans (rfl : _ = some (Value.int .i64 0))
  have r1 := (cell_of_blk hfin 1).trans (rfl : _ = some (Value.int .i64 0))
  have r2 := (cell_of_blk hfin 2).trans (rfl : _ = some (Value.int .u64 0))
  have r3 := (cell_of_blk hfin 3).trans (rfl : _ = some (Value.int .i64 0))
  have r4 := (cell_of_blk hfin 4).trans (rfl : _ = some (Value.int .u64 0))
  have r5 := (cell_of_blk hfin 5).trans (rfl : _ = some (Value.int .u64 0))
  have r6 := (cell_of_blk hfin 6).trans (rfl : _ = some (Value.int .u64 0))
  have r7 := (cell_of_blk hfin 7).trans (rfl : _ = some (Value.int .i64 0))
  have r8 := (cell_of_blk hfin 8).trans (rfl : _ = some (Value.int .i64 0))
  have r9 := (cell_of_blk hfin 9).trans (rfl : _ = some (Value.string ⟨#[]⟩))
  have r10 := (cell_of_blk hfin 10).trans (rfl : _ = some (Value.string ⟨#[]⟩))
  have r11 := (cell_of_blk hfin 11).trans (rfl : _ = some (Value.string ⟨#[]⟩))
  have r12 := (cell_of_blk hfin 12).trans (rfl : _ = some (Value.slice none 0 0))
  clear hfin
  refine bodyPost_ret (v := .tuple #[.agg #[.int .i64 0, .int .i64 0, .int .u64 0, .int .i64 0, .int .u64 0, .int .u64 0, .int .u64 0, .int .i64 0, .int .i64 0, .string ⟨#[]⟩, .string ⟨#[]⟩, .string ⟨#[]⟩, .slice none 0 0], .int .i64 3]) (by simp [results, Try.results16, go_sem, r0, r1, r2, r3, r4, r5, r6, r7, r8, r9, r10, r11, r12]) rfl ?_
  exact ⟨rfl, hbel⟩
end Go.Proofs.Ytcfdbdmefdffdaa
