/-
  Merged from GAx15, RefTk, ValC, ValD, ValE, RefTV, LawA, TakesA, ValTakes, Open.
-/
import Derived.Test.YthhgfdejadbigaaDoorGAx6
import Derived.Test.YthhgfdejadbigaaDoorLawC
import Derived.Test.YthhgfdejadbigaaDoorClone
import Derived.Test.YthhgfdejadbigaaDoorRows
import Derived.Deep.Slices
import Derived.Deep.Fields
import Derived.SizedLaws
import Derived.OpenShut
namespace Go.Proofs.YthhgfdejadbigaaDoor.GA
open Go.RowKit Go.Proofs.YthhgfdejadbigaaDoorW.PrintWords Go.Proofs.YthhgfdejadbigaaDoorW.PrintLast Go.Proofs.YthhgfdejadbigaaDoorW.PrintMore
attribute [local go_sem] max2_int min2_int max_two min_two max_three min_three max_four min_four   -- for this text's walks alone
set_option linter.unusedVariables false
set_option linter.unusedSimpArgs false
def IsS53 (w0 W : World) (g : Nat) (f0 : ByteArray) (f1 : Int) : Prop := W.heap[g]? = some (.cells #[.string f0, .int .i64 f1] 53 (0, 0)) ∧ w0.heap.size ≤ g
theorem IsS53.grown {w0 W : World} {g : Nat} {f0 : ByteArray} {f1 : Int} {W1 : World} {row : Option Nat} (h : IsS53 w0 W g f0 f1) (hw : W.grownBy W1 row) (hne : some g ≠ row) : IsS53 w0 W1 g f0 f1 := by
  obtain ⟨hb, hg⟩ := h
  exact ⟨blk_grown hb hw hne, hg⟩
theorem IsS53.own_neN {w0 W : World} {g : Nat} {f0 : ByteArray} {f1 : Int} {α : Type} {d : Kd α} {e : Nat} {base : Nat} {ok : Nat → Prop} {v : Value} {xs : List α} (h : IsS53 w0 W g f0 f1) (ho : Kd.N d e W base ok v xs) (ht : e ≠ 53) : some g ≠ v.ownBlock := by
  obtain ⟨hb, hg⟩ := h
  exact Kd.N_ne ho hb ht
theorem IsS53.fresh {w0 W : World} {g : Nat} {f0 : ByteArray} {f1 : Int} (h : IsS53 w0 W g f0 f1) : ∀ k, W.heap.size ≤ k → k ≠ g := by
  obtain ⟨hb, hg⟩ := h
  exact Kd.freshB hb
theorem IsS53.kept {w0 W : World} {g : Nat} {f0 : ByteArray} {f1 : Int} {W1 : World} {S : Nat → Prop} (h : IsS53 w0 W g f0 f1) (hk : Kept W W1 S) (hne : ¬ S g) : IsS53 w0 W1 g f0 f1 := by
  obtain ⟨hb, hg⟩ := h
  exact ⟨blk_kept hb hk hne, hg⟩
theorem IsS53.below {w0 W : World} {g : Nat} {f0 : ByteArray} {f1 : Int} {W1 : World} (h : IsS53 w0 W g f0 f1) (hw : Below W.heap.size W W1) : IsS53 w0 W1 g f0 f1 := h.grown (grown_of_below hw none) (by simp)
theorem IsS53.alloc {w0 W : World} {g : Nat} {f0 : ByteArray} {f1 : Int} (h : IsS53 w0 W g f0 f1) (o : Obj) : IsS53 w0 (W.alloc o) g f0 f1 := h.below (below_alloc (Below.refl _ _) o)
theorem IsS53.drewN {w0 W : World} {g : Nat} {f0 : ByteArray} {f1 : Int} (h : IsS53 w0 W g f0 f1) (m : Nat) : IsS53 w0 (W.drewN m) g f0 f1 := h
theorem IsS53.drew {w0 W : World} {g : Nat} {f0 : ByteArray} {f1 : Int} (h : IsS53 w0 W g f0 f1) : IsS53 w0 W.drew g f0 f1 := h
theorem IsS53.at_ {w0 W : World} {g : Nat} {f0 : ByteArray} {f1 : Int} {w' : World} {m : Nat} (hq : W.drewN m = w') (h : IsS53 w0 W g f0 f1) : IsS53 w0 w' g f0 f1 := by subst hq; exact IsS53.drewN h m
theorem IsS53.apart {w0 W : World} {g : Nat} {f0 : ByteArray} {f1 : Int} {α : Type} {d : Kd α} {e : Nat} {base : Nat} {ok : Nat → Prop} {v : Value} {xs : List α} (h : IsS53 w0 W g f0 f1) (ho : d.R e W base ok v xs) (ht : ∀ q, q ∈ e :: d.E → q ≠ 53) : d.R e W base (fun k => ok k ∧ k ≠ g) v xs := by
  obtain ⟨hb, hg⟩ := h
  exact Kd.R_types ho hb ht
theorem IsS53.own_ne {w0 W : World} {g : Nat} {f0 : ByteArray} {f1 : Int} {α : Type} {d : Kd α} {e : Nat} {base : Nat} {ok : Nat → Prop} {v : Value} {xs : List α} (h : IsS53 w0 W g f0 f1) (ho : d.R e W base ok v xs) (ht : e ≠ 53) : some g ≠ v.ownBlock := by
  obtain ⟨hb, hg⟩ := h
  exact Kd.R_ne ho hb ht
theorem IsS53.apartQ {w0 W : World} {g : Nat} {f0 : ByteArray} {f1 : Int} {α : Type} {d : Kd α} {e : Nat} {base : Nat} {ok : Nat → Prop} {v : Value} {xs : List α} (h : IsS53 w0 W g f0 f1) (ho : d.Q e W base ok v xs) (ht : ∀ q, q ∈ e :: d.E → q ≠ 53) : d.Q e W base (fun k => ok k ∧ k ≠ g) v xs := by
  obtain ⟨hb, hg⟩ := h
  exact Kd.Q_types ho hb ht
theorem IsS53.own_neQ {w0 W : World} {g : Nat} {f0 : ByteArray} {f1 : Int} {α : Type} {d : Kd α} {e : Nat} {base : Nat} {ok : Nat → Prop} {v : Value} {xs : List α} (h : IsS53 w0 W g f0 f1) (ho : d.Q e W base ok v xs) (ht : e ≠ 53) : some g ≠ v.ownBlock := by
  obtain ⟨hb, hg⟩ := h
  exact Kd.Q_ne ho hb ht
theorem IsS53.apartS {w0 W : World} {g : Nat} {f0 : ByteArray} {f1 : Int} {α : Type} {d : Kd α} {e : Nat} {base : Nat} {ok : Nat → Prop} {v : Value} {xs : List α} (h : IsS53 w0 W g f0 f1) (ho : d.S e W base ok v xs) (ht : ∀ q, q ∈ e :: d.E → q ≠ 53) : d.S e W base (fun k => ok k ∧ k ≠ g) v xs := by
  obtain ⟨hb, hg⟩ := h
  exact Kd.S_types ho hb ht
theorem IsS53.own_neS {w0 W : World} {g : Nat} {f0 : ByteArray} {f1 : Int} {α : Type} {d : Kd α} {e : Nat} {base : Nat} {ok : Nat → Prop} {v : Value} {xs : List α} (h : IsS53 w0 W g f0 f1) (ho : d.S e W base ok v xs) (ht : e ≠ 53) : some g ≠ v.ownBlock := by
  obtain ⟨hb, hg⟩ := h
  exact Kd.S_ne ho hb ht
theorem IsS53.lt {w0 W : World} {g : Nat} {f0 : ByteArray} {f1 : Int} (h : IsS53 w0 W g f0 f1) : g < W.heap.size := by
  obtain ⟨hb, hg⟩ := h
  exact blk_lt hb
theorem IsS53.ge {w0 W : World} {g : Nat} {f0 : ByteArray} {f1 : Int} (h : IsS53 w0 W g f0 f1) : w0.heap.size ≤ g := by
  obtain ⟨hb, hg⟩ := h
  exact hg
theorem IsS53.ne_blk {w0 W : World} {g : Nat} {f0 : ByteArray} {f1 : Int} {a : Nat} {cs : Array Value} {t : TypeId} {fr : Nat × Nat} (h : IsS53 w0 W g f0 f1) (hb2 : W.heap[a]? = some (.cells cs t fr)) (ht : t ≠ 53) : g ≠ a := by
  obtain ⟨hb, hg⟩ := h
  rintro rfl
  rw [hb] at hb2
  injection hb2 with hb2
  injection hb2 with _ ht2
  exact ht ht2.symm
theorem IsS53.far {w0 W : World} {g : Nat} {f0 : ByteArray} {f1 : Int} {p : Addr} (h : IsS53 w0 W g f0 f1) (hne : g ≠ p.block) (u : Value) : IsS53 w0 (W.setCell p u) g f0 f1 := by
  obtain ⟨hb, hg⟩ := h
  exact ⟨blk_far hb hne u, hg⟩
theorem cellS53_0 {W : World} {g : Nat} {f0 : ByteArray} {f1 : Int} (h : W.heap[g]? = some (.cells #[.string f0, .int .i64 f1] 53 (0, 0))) : W.cell? ⟨g, 0, none⟩ = some (.string f0) := (blk_cell h 0).trans rfl
theorem IsS53.set_0 {w0 W : World} {g : Nat} {f0 : ByteArray} {f1 : Int} (h : IsS53 w0 W g f0 f1) (x : ByteArray) : IsS53 w0 (W.setCell ⟨g, 0, none⟩ (.string x)) g x f1 := by
  obtain ⟨hb, hg⟩ := h
  exact ⟨by simpa using blk_set hb 0 (.string x), hg⟩
theorem cellS53_1 {W : World} {g : Nat} {f0 : ByteArray} {f1 : Int} (h : W.heap[g]? = some (.cells #[.string f0, .int .i64 f1] 53 (0, 0))) : W.cell? ⟨g, 1, none⟩ = some (.int .i64 f1) := (blk_cell h 1).trans rfl
theorem IsS53.set_1 {w0 W : World} {g : Nat} {f0 : ByteArray} {f1 : Int} (h : IsS53 w0 W g f0 f1) (x : Int) : IsS53 w0 (W.setCell ⟨g, 1, none⟩ (.int .i64 x)) g f0 x := by
  obtain ⟨hb, hg⟩ := h
  exact ⟨by simpa using blk_set hb 1 (.int .i64 x), hg⟩
theorem IsS53.new (w0 W : World) (f0 : ByteArray) (f1 : Int) (hB : Below w0.heap.size w0 W) : IsS53 w0 (W.alloc (.cells #[.string f0, .int .i64 f1] 53)) W.heap.size f0 f1 := ⟨by simpa using heap_alloc_new W _, hB.size⟩
def wherryref01_Reader_Byte.f (s0_0 : ByteArray) (s0_1 : Int) : Option (Int × ByteArray × Int) := if 0 ≤ s0_1 ∧ s0_0.size ≤ 9223372036854775807 then some (((Base.rdByte s0_0 s0_1.toNat).1 : Int), (Base.rdByte s0_0 s0_1.toNat).2.1, ((Base.rdByte s0_0 s0_1.toNat).2.2 : Int)) else none
theorem wherryref01_Reader_Byte.calls (g : Nat) (s0_0 : ByteArray) (s0_1 : Int) (r1 : Int) (r2 : ByteArray) (r3 : Int) (w0 w : World) (hI : IsS53 w0 w g s0_0 s0_1) (hB : Below w0.heap.size w0 w) (h : wherryref01_Reader_Byte.f s0_0 s0_1 = some (r1, r2, r3)) :
    Calls Tryd.prog 61 #[.pointer (some ⟨g, 0, none⟩)] w fun e w' => e = .returned (.int .u8 r1) ∧ IsS53 w0 w' g r2 r3 ∧ Below w0.heap.size w0 w' ∧ KeepBut w w' g none := by
  unfold wherryref01_Reader_Byte.f at h
  split at h
  · rename_i hw
    simp only [Option.some.injEq, Prod.mk.injEq] at h
    obtain ⟨rfl, rfl, rfl⟩ := h
    have hr : RdrR w g s0_0 s0_1.toNat := by unfold RdrR; rw [Int.toNat_of_nonneg hw.1]; exact hI.1
    refine (refrd_Byte g s0_0 s0_1.toNat w hr hw.2).mono ?_
    rintro e w' ⟨rfl, hr', hm⟩
    exact ⟨rfl, ⟨hr', hI.2⟩, below_mut hB hm hI.2, keep_mut hm⟩
  · cases h
def wherryref01_Reader_Text.f (s0_0 : ByteArray) (s0_1 : Int) (a1 : Int) : Option (ByteArray × ByteArray × Int) := if 0 ≤ s0_1 ∧ s0_0.size ≤ 9223372036854775807 ∧ -9223372036854775808 ≤ a1 ∧ a1 ≤ 9223372036854775807 then some (((Base.rdText a1 s0_0 s0_1.toNat).1), (Base.rdText a1 s0_0 s0_1.toNat).2.1, ((Base.rdText a1 s0_0 s0_1.toNat).2.2 : Int)) else none
theorem wherryref01_Reader_Text.calls (g : Nat) (s0_0 : ByteArray) (s0_1 : Int) (a1 : Int) (r1 : ByteArray) (r2 : ByteArray) (r3 : Int) (w0 w : World) (hI : IsS53 w0 w g s0_0 s0_1) (hB : Below w0.heap.size w0 w) (h : wherryref01_Reader_Text.f s0_0 s0_1 a1 = some (r1, r2, r3)) :
    Calls Tryd.prog 62 #[.pointer (some ⟨g, 0, none⟩), .int .i64 a1] w fun e w' => e = .returned (.string r1) ∧ IsS53 w0 w' g r2 r3 ∧ Below w0.heap.size w0 w' ∧ KeepBut w w' g none := by
  unfold wherryref01_Reader_Text.f at h
  split at h
  · rename_i hw
    simp only [Option.some.injEq, Prod.mk.injEq] at h
    obtain ⟨rfl, rfl, rfl⟩ := h
    have hr : RdrR w g s0_0 s0_1.toNat := by unfold RdrR; rw [Int.toNat_of_nonneg hw.1]; exact hI.1
    refine (refrd_Text g s0_0 s0_1.toNat a1 w hr hw.2.1 hw.2.2.1 hw.2.2.2).mono ?_
    rintro e w' ⟨rfl, hr', hm⟩
    exact ⟨rfl, ⟨hr', hI.2⟩, below_mut hB hm hI.2, keep_mut hm⟩
  · cases h
def wherryref01_Reader_Int.f (s0_0 : ByteArray) (s0_1 : Int) : Option (Int × ByteArray × Int) := if 0 ≤ s0_1 ∧ s0_0.size ≤ 9223372036854775807 then some (((Base.rdInt s0_0 s0_1.toNat).1), (Base.rdInt s0_0 s0_1.toNat).2.1, ((Base.rdInt s0_0 s0_1.toNat).2.2 : Int)) else none
theorem wherryref01_Reader_Int.calls (g : Nat) (s0_0 : ByteArray) (s0_1 : Int) (r1 : Int) (r2 : ByteArray) (r3 : Int) (w0 w : World) (hI : IsS53 w0 w g s0_0 s0_1) (hB : Below w0.heap.size w0 w) (h : wherryref01_Reader_Int.f s0_0 s0_1 = some (r1, r2, r3)) :
    Calls Tryd.prog 63 #[.pointer (some ⟨g, 0, none⟩)] w fun e w' => e = .returned (.int .i64 r1) ∧ IsS53 w0 w' g r2 r3 ∧ Below w0.heap.size w0 w' ∧ KeepBut w w' g none := by
  unfold wherryref01_Reader_Int.f at h
  split at h
  · rename_i hw
    simp only [Option.some.injEq, Prod.mk.injEq] at h
    obtain ⟨rfl, rfl, rfl⟩ := h
    have hr : RdrR w g s0_0 s0_1.toNat := by unfold RdrR; rw [Int.toNat_of_nonneg hw.1]; exact hI.1
    refine (refrd_Int g s0_0 s0_1.toNat w hr hw.2).mono ?_
    rintro e w' ⟨rfl, hr', hm⟩
    exact ⟨rfl, ⟨hr', hI.2⟩, below_mut hB hm hI.2, keep_mut hm⟩
  · cases h
def wherryref09_Take.f (s0_0 : ByteArray) (s0_1 : Int) : Option (Int × Int × ByteArray × Bool × ByteArray × Int) := (wherryref01_Reader_Byte.f s0_0 s0_1).bind fun bt260 => (if (wrap64 (bt260.1)) = 3 then ((wherryref01_Reader_Text.f bt260.2.1 bt260.2.2 1024).bind fun bt264 => ((wherryref09_May.f (wrap64 (bt260.1)) 0 bt264.1).bind fun t267 => (if bt264.2.2 = 0 then (if t267 = true then (some (wrap64 (bt260.1), 0, bt264.1, true, bt264.2.1, bt264.2.2)) else (some (0, 0, (⟨#[]⟩ : ByteArray), false, bt264.2.1, bt264.2.2))) else (some (0, 0, (⟨#[]⟩ : ByteArray), false, bt264.2.1, bt264.2.2))))) else ((wherryref01_Reader_Int.f bt260.2.1 bt260.2.2).bind fun bt268 => ((wherryref09_May.f (wrap64 (bt260.1)) bt268.1 (⟨#[]⟩ : ByteArray)).bind fun t271 => (if bt268.2.2 = 0 then (if t271 = true then (some (wrap64 (bt260.1), bt268.1, (⟨#[]⟩ : ByteArray), true, bt268.2.1, bt268.2.2)) else (some (0, 0, (⟨#[]⟩ : ByteArray), false, bt268.2.1, bt268.2.2))) else (some (0, 0, (⟨#[]⟩ : ByteArray), false, bt268.2.1, bt268.2.2))))))
set_option maxHeartbeats 8000000 in
set_option maxRecDepth 100000 in
theorem wherryref09_Take.calls (g : Nat) (s0_0 : ByteArray) (s0_1 : Int) (r1 : Int) (r2 : Int) (r3 : ByteArray) (r4 : Bool) (r5 : ByteArray) (r6 : Int) (w0 w : World) (hI : IsS53 w0 w g s0_0 s0_1) (hB : Below w0.heap.size w0 w) (h : wherryref09_Take.f s0_0 s0_1 = some (r1, r2, r3, r4, r5, r6)) :
    Calls Tryd.prog 32 #[.pointer (some ⟨g, 0, none⟩)] w fun e w' => e = .returned (.tuple #[.agg #[.int .i64 r1, .int .i64 r2, .string r3], .bool r4]) ∧ IsS53 w0 w' g r5 r6 ∧ Below w0.heap.size w0 w' ∧ KeepBut w w' g none := by
  have hu23 := Tryd.underlying23
  have HI0 := Aside0.mk hI
  have HK := Aside0.mk (KeepBut.refl w g none)
  have HL := Aside0.mk hB.size
  clear hI
  have HW0 := Aside0.mk hB.size
  have HB := Aside0.mk hB
  clear hB
  have H : ((wherryref01_Reader_Byte.f s0_0 s0_1).bind fun bt260 => (if (wrap64 (bt260.1)) = 3 then ((wherryref01_Reader_Text.f bt260.2.1 bt260.2.2 1024).bind fun bt264 => ((wherryref09_May.f (wrap64 (bt260.1)) 0 bt264.1).bind fun t267 => (if bt264.2.2 = 0 then (if t267 = true then (some (wrap64 (bt260.1), 0, bt264.1, true, bt264.2.1, bt264.2.2)) else (some (0, 0, (⟨#[]⟩ : ByteArray), false, bt264.2.1, bt264.2.2))) else (some (0, 0, (⟨#[]⟩ : ByteArray), false, bt264.2.1, bt264.2.2))))) else ((wherryref01_Reader_Int.f bt260.2.1 bt260.2.2).bind fun bt268 => ((wherryref09_May.f (wrap64 (bt260.1)) bt268.1 (⟨#[]⟩ : ByteArray)).bind fun t271 => (if bt268.2.2 = 0 then (if t271 = true then (some (wrap64 (bt260.1), bt268.1, (⟨#[]⟩ : ByteArray), true, bt268.2.1, bt268.2.2)) else (some (0, 0, (⟨#[]⟩ : ByteArray), false, bt268.2.1, bt268.2.2))) else (some (0, 0, (⟨#[]⟩ : ByteArray), false, bt268.2.1, bt268.2.2))))))) = some (r1, r2, r3, r4, r5, r6) := h
  clear h
  replace H := Option.bind_eq_some_iff.mp H
  obtain ⟨⟨t260, t261, t262⟩, A20, H⟩ := H
  replace H : (if (wrap64 (t260)) = 3 then ((wherryref01_Reader_Text.f t261 t262 1024).bind fun bt264 => ((wherryref09_May.f (wrap64 (t260)) 0 bt264.1).bind fun t267 => (if bt264.2.2 = 0 then (if t267 = true then (some (wrap64 (t260), 0, bt264.1, true, bt264.2.1, bt264.2.2)) else (some (0, 0, (⟨#[]⟩ : ByteArray), false, bt264.2.1, bt264.2.2))) else (some (0, 0, (⟨#[]⟩ : ByteArray), false, bt264.2.1, bt264.2.2))))) else ((wherryref01_Reader_Int.f t261 t262).bind fun bt268 => ((wherryref09_May.f (wrap64 (t260)) bt268.1 (⟨#[]⟩ : ByteArray)).bind fun t271 => (if bt268.2.2 = 0 then (if t271 = true then (some (wrap64 (t260), bt268.1, (⟨#[]⟩ : ByteArray), true, bt268.2.1, bt268.2.2)) else (some (0, 0, (⟨#[]⟩ : ByteArray), false, bt268.2.1, bt268.2.2))) else (some (0, 0, (⟨#[]⟩ : ByteArray), false, bt268.2.1, bt268.2.2)))))) = some (r1, r2, r3, r4, r5, r6) := H
  have A2 := Aside0.mk A20
  clear A20
  by_cases c3 : (wrap64 (t260)) = 3
  · rw [if_pos c3] at H
    have c3b0 : ((wrap64 (t260)) == 3) = true := beq_iff_eq.mpr c3
    have c3b1 : ((wrap64 (t260)) != 3) = false := bne_eq_false_iff_eq.mpr c3
    clear c3
    replace H := Option.bind_eq_some_iff.mp H
    obtain ⟨⟨t264, t265, t266⟩, A40, H⟩ := H
    replace H : ((wherryref09_May.f (wrap64 (t260)) 0 t264).bind fun t267 => (if t266 = 0 then (if t267 = true then (some (wrap64 (t260), 0, t264, true, t265, t266)) else (some (0, 0, (⟨#[]⟩ : ByteArray), false, t265, t266))) else (some (0, 0, (⟨#[]⟩ : ByteArray), false, t265, t266)))) = some (r1, r2, r3, r4, r5, r6) := H
    have A4 := Aside0.mk A40
    clear A40
    replace H := Option.bind_eq_some_iff.mp H
    obtain ⟨t267, A50, H⟩ := H
    replace H : (if t266 = 0 then (if t267 = true then (some (wrap64 (t260), 0, t264, true, t265, t266)) else (some (0, 0, (⟨#[]⟩ : ByteArray), false, t265, t266))) else (some (0, 0, (⟨#[]⟩ : ByteArray), false, t265, t266))) = some (r1, r2, r3, r4, r5, r6) := H
    have A5 := Aside0.mk A50
    clear A50
    by_cases c6 : t266 = 0
    · rw [if_pos c6] at H
      have c6b0 : (t266 == 0) = true := beq_iff_eq.mpr c6
      have c6b1 : (t266 != 0) = false := bne_eq_false_iff_eq.mpr c6
      clear c6
      by_cases c7 : t267 = true
      · subst c7
        have H1 : (some (wrap64 (t260), 0, t264, true, t265, t266)) = some (r1, r2, r3, r4, r5, r6) := by rw [if_pos rfl] at H; exact H
        clear H
        have H := H1
        clear H1
        simp only [Option.some.injEq, Prod.mk.injEq] at H
        obtain ⟨rfl, rfl, rfl, rfl, rfl, rfl⟩ := H
        go_enter Tryd.func32, Tryd.ntmps32
        go_wp2_with (first | ((with_reducible refine gate_dst (N := 2) rfl ?_); refine box_event ?hg (N := 2) ?hd (cs := #[.int .i64 0, .int .i64 0, .string (⟨#[]⟩ : ByteArray)]) (t := 23) ?hr ?_; (case hd => rfl); (case hg => rfl); (case hr => first | (go_simp; done) | (go_simp; rfl)); intro gb259 hg w8 hbox hb; have n0_ := Aside0.mk (IsS53.below (by repeat (first | (with_reducible first | exact HI0.out | apply IsS53.alloc | apply IsS53.drewN | apply IsS53.drew | apply IsS53.set_0 | apply IsS53.set_1) | exact HI0.out)) hb); have n1_ := Aside0.mk (KeepBut.trans (by repeat (first | (with_reducible first | exact HK.out | apply KeepBut.set_ | apply keep_drewN | apply keep_drew | apply keep_alloc) | exact HK.out)) (KeepBut.of_below hb g none) (.inl rfl)); have n2_ := Aside0.mk (below_step (by repeat (first | (with_reducible first | exact HB.out | apply below_alloc | apply pw_below_drewN | apply below_drew1 | refine below_set ?_ (IsS53.ge HI0.out)) | exact HB.out)) hb); have n3_ := Aside0.mk (hbox); have n4_ := Aside0.mk ((by rw [hg]; exact (keep_size (w := w) (g := g) (row := none) (by repeat (first | (with_reducible first | exact HK.out | apply KeepBut.set_ | apply keep_drewN | apply keep_drew | apply keep_alloc) | exact HK.out))) : w.heap.size ≤ gb259)); have n5_ := Aside0.mk ((Nat.le_trans HW0.out (by rw [hg]; exact (keep_size (w := w) (g := g) (row := none) (by repeat (first | (with_reducible first | exact HK.out | apply KeepBut.set_ | apply keep_drewN | apply keep_drew | apply keep_alloc) | exact HK.out))) : w.heap.size ≤ gb259) : w0.heap.size ≤ gb259)); have n6_ := Aside0.mk ((by rw [hg]; exact Nat.ne_of_lt (IsS53.lt (show IsS53 w0 _ g s0_0 s0_1 from by repeat (first | (with_reducible first | exact HI0.out | apply IsS53.alloc | apply IsS53.drewN | apply IsS53.drew | apply IsS53.set_0 | apply IsS53.set_1) | exact HI0.out))) : g ≠ gb259)); have n7_ := Aside0.mk ((by rw [hg]; exact Nat.ne_of_gt (IsS53.lt (show IsS53 w0 _ g s0_0 s0_1 from by repeat (first | (with_reducible first | exact HI0.out | apply IsS53.alloc | apply IsS53.drewN | apply IsS53.drew | apply IsS53.set_0 | apply IsS53.set_1) | exact HI0.out))) : gb259 ≠ g)); clear HI0; clear HK; clear HB; have HI0 := n0_; have HK := n1_; have HB := n2_; have BK259 := n3_; have GW259 := n4_; have GE259 := n5_; have NB0_259 := n6_; have NB259_0 := n7_; clear n0_ n1_ n2_ n3_ n4_ n5_ n6_ n7_; clear hb hbox hg) | ((with_reducible refine gate_callee (f := 61) rfl ?_); refine goesL_ (some 7) rfl rfl Tryd.func61 (by kernel_rfl) rfl #[.pointer (some ⟨g, 0, none⟩)] rfl (by (try simp only [List.map_toArray, List.map_cons, List.map_nil]); first | done | rfl | (simp only [List.length_drop, List.length_take]; rfl)) ?_; (with_reducible refine (wherryref01_Reader_Byte.calls g s0_0 s0_1 t260 t261 t262 w0 _ ?side1 ?side2 A2.out).mono ?_); (case side1 => repeat (first | (with_reducible first | exact HI0.out | apply IsS53.alloc | apply IsS53.drewN | apply IsS53.drew | apply IsS53.set_0 | apply IsS53.set_1 | refine IsS53.far ?_ NB0_259.out _) | exact HI0.out)); (case side2 => repeat (first | (with_reducible first | exact HB.out | apply below_alloc | apply pw_below_drewN | apply below_drew1 | refine below_set ?_ (IsS53.ge HI0.out) | refine below_set ?_ GE259.out) | exact HB.out)); rintro e w9 ⟨rfl, hi, hb, hk⟩; refine ⟨_, rfl, ?_⟩; have n0_ := Aside0.mk (KeepBut.blk hk (g' := gb259) (o := .cells #[.int .i64 0, .int .i64 0, .string (⟨#[]⟩ : ByteArray)] 23 (0, 0)) (by (with_reducible repeat (first | refine blk_drewN ?_ _ | refine blk_drew ?_ | refine blk_alloc ?_ _)); exact BK259.out) NB259_0.out (by simp)); have n1_ := Aside0.mk (KeepBut.trans (by repeat (first | (with_reducible first | exact HK.out | apply KeepBut.set_ | apply keep_drewN | apply keep_drew | apply keep_alloc | refine keep_far ?_ GW259.out _) | exact HK.out)) hk (.inl rfl)); have n2_ := Aside0.mk (hb); have n3_ := Aside0.mk (hi); clear BK259; clear HK; clear HB; clear HI0; have BK259 := n0_; have HK := n1_; have HB := n2_; have HI0 := n3_; clear n0_ n1_ n2_ n3_; (try clear hb); (try clear hb2); (try clear hk); (try clear hi)) | ((with_reducible refine gate_dst (N := 4) rfl ?_); refine box_event ?hg (N := 4) ?hd (cs := #[.int .i64 0, .int .i64 0, .string (⟨#[]⟩ : ByteArray)]) (t := 23) ?hr ?_; (case hd => rfl); (case hg => rfl); (case hr => first | (go_simp; done) | (go_simp; rfl)); intro gb263 hg w10 hbox hb; have n0_ := Aside0.mk (IsS53.below (by repeat (first | (with_reducible first | exact HI0.out | apply IsS53.alloc | apply IsS53.drewN | apply IsS53.drew | apply IsS53.set_0 | apply IsS53.set_1 | refine IsS53.far ?_ NB0_259.out _) | exact HI0.out)) hb); have n1_ := Aside0.mk (blk_below (g := gb259) (o := .cells #[.int .i64 0, .int .i64 0, .string (⟨#[]⟩ : ByteArray)] 23 (0, 0)) (by (with_reducible repeat (first | refine blk_drewN ?_ _ | refine blk_drew ?_ | refine blk_alloc ?_ _)); exact BK259.out) hb); have n2_ := Aside0.mk (KeepBut.trans (by repeat (first | (with_reducible first | exact HK.out | apply KeepBut.set_ | apply keep_drewN | apply keep_drew | apply keep_alloc | refine keep_far ?_ GW259.out _) | exact HK.out)) (KeepBut.of_below hb g none) (.inl rfl)); have n3_ := Aside0.mk (below_step (by repeat (first | (with_reducible first | exact HB.out | apply below_alloc | apply pw_below_drewN | apply below_drew1 | refine below_set ?_ (IsS53.ge HI0.out) | refine below_set ?_ GE259.out) | exact HB.out)) hb); have n4_ := Aside0.mk (hbox); have n5_ := Aside0.mk ((by rw [hg]; exact (keep_size (w := w) (g := g) (row := none) (by repeat (first | (with_reducible first | exact HK.out | apply KeepBut.set_ | apply keep_drewN | apply keep_drew | apply keep_alloc | refine keep_far ?_ GW259.out _) | exact HK.out))) : w.heap.size ≤ gb263)); have n6_ := Aside0.mk ((Nat.le_trans HW0.out (by rw [hg]; exact (keep_size (w := w) (g := g) (row := none) (by repeat (first | (with_reducible first | exact HK.out | apply KeepBut.set_ | apply keep_drewN | apply keep_drew | apply keep_alloc | refine keep_far ?_ GW259.out _) | exact HK.out))) : w.heap.size ≤ gb263) : w0.heap.size ≤ gb263)); have n7_ := Aside0.mk ((by rw [hg]; exact Nat.ne_of_lt (blk_lt (g := gb259) (o := .cells #[.int .i64 0, .int .i64 0, .string (⟨#[]⟩ : ByteArray)] 23 (0, 0)) (by (with_reducible repeat (first | refine blk_drewN ?_ _ | refine blk_drew ?_ | refine blk_alloc ?_ _)); exact BK259.out)) : gb259 ≠ gb263)); have n8_ := Aside0.mk ((by rw [hg]; exact Nat.ne_of_gt (blk_lt (g := gb259) (o := .cells #[.int .i64 0, .int .i64 0, .string (⟨#[]⟩ : ByteArray)] 23 (0, 0)) (by (with_reducible repeat (first | refine blk_drewN ?_ _ | refine blk_drew ?_ | refine blk_alloc ?_ _)); exact BK259.out)) : gb263 ≠ gb259)); have n9_ := Aside0.mk ((by rw [hg]; exact Nat.ne_of_lt (IsS53.lt (show IsS53 w0 _ g t261 t262 from by repeat (first | (with_reducible first | exact HI0.out | apply IsS53.alloc | apply IsS53.drewN | apply IsS53.drew | apply IsS53.set_0 | apply IsS53.set_1 | refine IsS53.far ?_ NB0_259.out _) | exact HI0.out))) : g ≠ gb263)); have n10_ := Aside0.mk ((by rw [hg]; exact Nat.ne_of_gt (IsS53.lt (show IsS53 w0 _ g t261 t262 from by repeat (first | (with_reducible first | exact HI0.out | apply IsS53.alloc | apply IsS53.drewN | apply IsS53.drew | apply IsS53.set_0 | apply IsS53.set_1 | refine IsS53.far ?_ NB0_259.out _) | exact HI0.out))) : gb263 ≠ g)); clear HI0; clear BK259; clear HK; clear HB; have HI0 := n0_; have BK259 := n1_; have HK := n2_; have HB := n3_; have BK263 := n4_; have GW263 := n5_; have GE263 := n6_; have NB259_263 := n7_; have NB263_259 := n8_; have NB0_263 := n9_; have NB263_0 := n10_; clear n0_ n1_ n2_ n3_ n4_ n5_ n6_ n7_ n8_ n9_ n10_; clear hb hbox hg; have hnb11 := NB263_259.out; have hnc11 := NB259_263.out; have hnb12 := NB263_0.out; have hnc12 := NB0_263.out; have hcz13_0 : w10.cell? ⟨gb263, 0, none⟩ = some (.int .i64 0) := (blk_cell BK263.out 0).trans rfl; have hcz13_1 : w10.cell? ⟨gb263, 1, none⟩ = some (.int .i64 0) := (blk_cell BK263.out 1).trans rfl; have hcz13_2 : w10.cell? ⟨gb263, 2, none⟩ = some (.string (⟨#[]⟩ : ByteArray)) := (blk_cell BK263.out 2).trans rfl; have hfz13_0 := blk_frozen BK263.out 0; have hfz13_1 := blk_frozen BK263.out 1; have hfz13_2 := blk_frozen BK263.out 2) | ((with_reducible refine gate_callee (f := 62) rfl ?_); refine goesL_ (some 14) rfl rfl Tryd.func62 (by kernel_rfl) rfl #[.pointer (some ⟨g, 0, none⟩), .int .i64 1024] rfl (by (try simp only [List.map_toArray, List.map_cons, List.map_nil]); first | done | rfl | (simp only [List.length_drop, List.length_take]; rfl)) ?_; (with_reducible refine (wherryref01_Reader_Text.calls g t261 t262 1024 t264 t265 t266 w0 _ ?side1 ?side2 A4.out).mono ?_); (case side1 => repeat (first | (with_reducible first | exact HI0.out | apply IsS53.alloc | apply IsS53.drewN | apply IsS53.drew | apply IsS53.set_0 | apply IsS53.set_1 | refine IsS53.far ?_ NB0_259.out _ | refine IsS53.far ?_ NB0_263.out _) | exact HI0.out)); (case side2 => repeat (first | (with_reducible first | exact HB.out | apply below_alloc | apply pw_below_drewN | apply below_drew1 | refine below_set ?_ (IsS53.ge HI0.out) | refine below_set ?_ GE259.out | refine below_set ?_ GE263.out) | exact HB.out)); rintro e w14 ⟨rfl, hi, hb, hk⟩; refine ⟨_, rfl, ?_⟩; have n0_ := Aside0.mk (KeepBut.blk hk (g' := gb259) (o := .cells #[.int .i64 0, .int .i64 0, .string (⟨#[]⟩ : ByteArray)] 23 (0, 0)) (by (with_reducible repeat (first | refine blk_drewN ?_ _ | refine blk_drew ?_ | refine blk_alloc ?_ _)); refine blk_far ?_ NB259_263.out _; (with_reducible repeat (first | refine blk_drewN ?_ _ | refine blk_drew ?_ | refine blk_alloc ?_ _)); refine blk_far ?_ NB259_263.out _; (with_reducible repeat (first | refine blk_drewN ?_ _ | refine blk_drew ?_ | refine blk_alloc ?_ _)); refine blk_far ?_ NB259_263.out _; (with_reducible repeat (first | refine blk_drewN ?_ _ | refine blk_drew ?_ | refine blk_alloc ?_ _)); exact BK259.out) NB259_0.out (by simp)); have n1_ := Aside0.mk (KeepBut.blk hk (g' := gb263) (o := .cells #[.int .i64 (wrap64 (t260)), .int .i64 0, .string (⟨#[]⟩ : ByteArray)] 23 (0, 0)) (by (with_reducible repeat (first | refine blk_drewN ?_ _ | refine blk_drew ?_ | refine blk_alloc ?_ _)); refine blk_put (cs := #[.int .i64 (wrap64 (t260)), .int .i64 0, .string (⟨#[]⟩ : ByteArray)]) ?_ 2 _ rfl; (with_reducible repeat (first | refine blk_drewN ?_ _ | refine blk_drew ?_ | refine blk_alloc ?_ _)); refine blk_put (cs := #[.int .i64 (wrap64 (t260)), .int .i64 0, .string (⟨#[]⟩ : ByteArray)]) ?_ 1 _ rfl; (with_reducible repeat (first | refine blk_drewN ?_ _ | refine blk_drew ?_ | refine blk_alloc ?_ _)); refine blk_put (cs := #[.int .i64 0, .int .i64 0, .string (⟨#[]⟩ : ByteArray)]) ?_ 0 _ rfl; (with_reducible repeat (first | refine blk_drewN ?_ _ | refine blk_drew ?_ | refine blk_alloc ?_ _)); exact BK263.out) NB263_0.out (by simp)); have n2_ := Aside0.mk (KeepBut.trans (by repeat (first | (with_reducible first | exact HK.out | apply KeepBut.set_ | apply keep_drewN | apply keep_drew | apply keep_alloc | refine keep_far ?_ GW259.out _ | refine keep_far ?_ GW263.out _) | exact HK.out)) hk (.inl rfl)); have n3_ := Aside0.mk (hb); have n4_ := Aside0.mk (hi); clear BK259; clear BK263; clear HK; clear HB; clear HI0; have BK259 := n0_; have BK263 := n1_; have HK := n2_; have HB := n3_; have HI0 := n4_; clear n0_ n1_ n2_ n3_ n4_; (try clear hb); (try clear hb2); (try clear hk); (try clear hi); have hcz15_0 : w14.cell? ⟨gb263, 0, none⟩ = some (.int .i64 (wrap64 (t260))) := (blk_cell BK263.out 0).trans rfl; have hcz15_1 : w14.cell? ⟨gb263, 1, none⟩ = some (.int .i64 0) := (blk_cell BK263.out 1).trans rfl; have hcz15_2 : w14.cell? ⟨gb263, 2, none⟩ = some (.string (⟨#[]⟩ : ByteArray)) := (blk_cell BK263.out 2).trans rfl; have hfz15_0 := blk_frozen BK263.out 0; have hfz15_1 := blk_frozen BK263.out 1; have hfz15_2 := blk_frozen BK263.out 2) | ((with_reducible refine gate_callee (f := 11) rfl ?_); refine goesL_ (some 20) rfl rfl Tryd.func11 (by kernel_rfl) rfl #[.agg #[.int .i64 (wrap64 (t260)), .int .i64 0, .string t264]] rfl (by (try simp only [List.map_toArray, List.map_cons, List.map_nil]); first | done | rfl | (simp only [List.length_drop, List.length_take]; rfl)) ?_; (with_reducible refine (wherryref09_May.calls (wrap64 (t260)) 0 t264 true _ A5.out).mono ?_); rintro e w16 ⟨rfl, hb⟩; refine ⟨_, rfl, ?_⟩; have n0_ := Aside0.mk (IsS53.below (show IsS53 w0 (w14.setCell ⟨gb263, 2, none⟩ (.string t264)) g t265 t266 from by repeat (first | (with_reducible first | exact HI0.out | apply IsS53.alloc | apply IsS53.drewN | apply IsS53.drew | apply IsS53.set_0 | apply IsS53.set_1 | refine IsS53.far ?_ NB0_259.out _ | refine IsS53.far ?_ NB0_263.out _) | exact HI0.out)) hb); have n1_ := Aside0.mk (blk_below (g := gb259) (o := .cells #[.int .i64 0, .int .i64 0, .string (⟨#[]⟩ : ByteArray)] 23 (0, 0)) (by (with_reducible repeat (first | refine blk_drewN ?_ _ | refine blk_drew ?_ | refine blk_alloc ?_ _)); refine blk_far ?_ NB259_263.out _; (with_reducible repeat (first | refine blk_drewN ?_ _ | refine blk_drew ?_ | refine blk_alloc ?_ _)); exact BK259.out) hb); have n2_ := Aside0.mk (blk_below (g := gb263) (o := .cells #[.int .i64 (wrap64 (t260)), .int .i64 0, .string t264] 23 (0, 0)) (by (with_reducible repeat (first | refine blk_drewN ?_ _ | refine blk_drew ?_ | refine blk_alloc ?_ _)); refine blk_put (cs := #[.int .i64 (wrap64 (t260)), .int .i64 0, .string (⟨#[]⟩ : ByteArray)]) ?_ 2 _ rfl; (with_reducible repeat (first | refine blk_drewN ?_ _ | refine blk_drew ?_ | refine blk_alloc ?_ _)); exact BK263.out) hb); have n3_ := Aside0.mk (KeepBut.trans (by repeat (first | (with_reducible first | exact HK.out | apply KeepBut.set_ | apply keep_drewN | apply keep_drew | apply keep_alloc | refine keep_far ?_ GW259.out _ | refine keep_far ?_ GW263.out _) | exact HK.out)) (KeepBut.of_below hb g none) (.inl rfl)); have n4_ := Aside0.mk (below_step (by repeat (first | (with_reducible first | exact HB.out | apply below_alloc | apply pw_below_drewN | apply below_drew1 | refine below_set ?_ (IsS53.ge HI0.out) | refine below_set ?_ GE259.out | refine below_set ?_ GE263.out) | exact HB.out)) hb); clear HI0; clear BK259; clear BK263; clear HK; clear HB; have HI0 := n0_; have BK259 := n1_; have BK263 := n2_; have HK := n3_; have HB := n4_; clear n0_ n1_ n2_ n3_ n4_; (try clear hb); (try clear hb2); (try clear hk); (try clear hi); obtain ⟨HGz17, hgz17⟩ := HI0.out; have hcz17_0 := cellS53_0 HGz17; have hcz17_1 := cellS53_1 HGz17; have hfz17_0 := blk_frozen HGz17 0; have hfz17_1 := blk_frozen HGz17 1; clear HGz17 hgz17; have hcz18_0 : w16.cell? ⟨gb263, 0, none⟩ = some (.int .i64 (wrap64 (t260))) := (blk_cell BK263.out 0).trans rfl; have hcz18_1 : w16.cell? ⟨gb263, 1, none⟩ = some (.int .i64 0) := (blk_cell BK263.out 1).trans rfl; have hcz18_2 : w16.cell? ⟨gb263, 2, none⟩ = some (.string t264) := (blk_cell BK263.out 2).trans rfl; have hfz18_0 := blk_frozen BK263.out 0; have hfz18_1 := blk_frozen BK263.out 1; have hfz18_2 := blk_frozen BK263.out 2; have hnb19 := NB259_0.out; have hnc19 := NB0_259.out; have hcz20_0 : w16.cell? ⟨gb259, 0, none⟩ = some (.int .i64 0) := (blk_cell BK259.out 0).trans rfl; have hcz20_1 : w16.cell? ⟨gb259, 1, none⟩ = some (.int .i64 0) := (blk_cell BK259.out 1).trans rfl; have hcz20_2 : w16.cell? ⟨gb259, 2, none⟩ = some (.string (⟨#[]⟩ : ByteArray)) := (blk_cell BK259.out 2).trans rfl; have hfz20_0 := blk_frozen BK259.out 0; have hfz20_1 := blk_frozen BK259.out 1; have hfz20_2 := blk_frozen BK259.out 2))
        refine bodyPost_ret (results_ct rfl _ _ gb259 23 #[.int .i64 (wrap64 (t260)), .int .i64 0, .string t264] (0, 0) _ rfl (by (with_reducible repeat (first | refine blk_drewN ?_ _ | refine blk_drew ?_ | refine blk_alloc ?_ _)); refine blk_put (cs := #[.int .i64 (wrap64 (t260)), .int .i64 0, .string (⟨#[]⟩ : ByteArray)]) ?_ 2 _ rfl; (with_reducible repeat (first | refine blk_drewN ?_ _ | refine blk_drew ?_ | refine blk_alloc ?_ _)); refine blk_put (cs := #[.int .i64 (wrap64 (t260)), .int .i64 0, .string (⟨#[]⟩ : ByteArray)]) ?_ 1 _ rfl; (with_reducible repeat (first | refine blk_drewN ?_ _ | refine blk_drew ?_ | refine blk_alloc ?_ _)); refine blk_put (cs := #[.int .i64 0, .int .i64 0, .string (⟨#[]⟩ : ByteArray)]) ?_ 0 _ rfl; (with_reducible repeat (first | refine blk_drewN ?_ _ | refine blk_drew ?_ | refine blk_alloc ?_ _)); exact BK259.out) Tryd.underlying23 rfl (by kernel_rfl)) rfl ?_
        exact ⟨by first | rfl | (simp [errW_none, errW_some] <;> rfl) | (simp [*, errW_none, errW_some] <;> rfl), by repeat (first | (with_reducible first | exact HI0.out | apply IsS53.alloc | apply IsS53.drewN | apply IsS53.drew | apply IsS53.set_0 | apply IsS53.set_1 | refine IsS53.far ?_ NB0_259.out _ | refine IsS53.far ?_ NB0_263.out _) | exact HI0.out), by repeat (first | (with_reducible first | exact HB.out | apply below_alloc | apply pw_below_drewN | apply below_drew1 | refine below_set ?_ (IsS53.ge HI0.out) | refine below_set ?_ GE259.out | refine below_set ?_ GE263.out) | exact HB.out), by repeat (first | (with_reducible first | exact HK.out | apply KeepBut.set_ | apply keep_drewN | apply keep_drew | apply keep_alloc | refine keep_far ?_ GW259.out _ | refine keep_far ?_ GW263.out _) | exact HK.out)⟩
      · replace c7 := Bool.eq_false_iff.mpr c7
        subst c7
        have H1 : (some (0, 0, (⟨#[]⟩ : ByteArray), false, t265, t266)) = some (r1, r2, r3, r4, r5, r6) := by rw [if_neg (show ¬ (false = true) by decide)] at H; exact H
        clear H
        have H := H1
        clear H1
        simp only [Option.some.injEq, Prod.mk.injEq] at H
        obtain ⟨rfl, rfl, rfl, rfl, rfl, rfl⟩ := H
        go_enter Tryd.func32, Tryd.ntmps32
        go_wp2_with (first | ((with_reducible refine gate_dst (N := 2) rfl ?_); refine box_event ?hg (N := 2) ?hd (cs := #[.int .i64 0, .int .i64 0, .string (⟨#[]⟩ : ByteArray)]) (t := 23) ?hr ?_; (case hd => rfl); (case hg => rfl); (case hr => first | (go_simp; done) | (go_simp; rfl)); intro gb259 hg w21 hbox hb; have n0_ := Aside0.mk (IsS53.below (by repeat (first | (with_reducible first | exact HI0.out | apply IsS53.alloc | apply IsS53.drewN | apply IsS53.drew | apply IsS53.set_0 | apply IsS53.set_1) | exact HI0.out)) hb); have n1_ := Aside0.mk (KeepBut.trans (by repeat (first | (with_reducible first | exact HK.out | apply KeepBut.set_ | apply keep_drewN | apply keep_drew | apply keep_alloc) | exact HK.out)) (KeepBut.of_below hb g none) (.inl rfl)); have n2_ := Aside0.mk (below_step (by repeat (first | (with_reducible first | exact HB.out | apply below_alloc | apply pw_below_drewN | apply below_drew1 | refine below_set ?_ (IsS53.ge HI0.out)) | exact HB.out)) hb); have n3_ := Aside0.mk (hbox); have n4_ := Aside0.mk ((by rw [hg]; exact (keep_size (w := w) (g := g) (row := none) (by repeat (first | (with_reducible first | exact HK.out | apply KeepBut.set_ | apply keep_drewN | apply keep_drew | apply keep_alloc) | exact HK.out))) : w.heap.size ≤ gb259)); have n5_ := Aside0.mk ((Nat.le_trans HW0.out (by rw [hg]; exact (keep_size (w := w) (g := g) (row := none) (by repeat (first | (with_reducible first | exact HK.out | apply KeepBut.set_ | apply keep_drewN | apply keep_drew | apply keep_alloc) | exact HK.out))) : w.heap.size ≤ gb259) : w0.heap.size ≤ gb259)); have n6_ := Aside0.mk ((by rw [hg]; exact Nat.ne_of_lt (IsS53.lt (show IsS53 w0 _ g s0_0 s0_1 from by repeat (first | (with_reducible first | exact HI0.out | apply IsS53.alloc | apply IsS53.drewN | apply IsS53.drew | apply IsS53.set_0 | apply IsS53.set_1) | exact HI0.out))) : g ≠ gb259)); have n7_ := Aside0.mk ((by rw [hg]; exact Nat.ne_of_gt (IsS53.lt (show IsS53 w0 _ g s0_0 s0_1 from by repeat (first | (with_reducible first | exact HI0.out | apply IsS53.alloc | apply IsS53.drewN | apply IsS53.drew | apply IsS53.set_0 | apply IsS53.set_1) | exact HI0.out))) : gb259 ≠ g)); clear HI0; clear HK; clear HB; have HI0 := n0_; have HK := n1_; have HB := n2_; have BK259 := n3_; have GW259 := n4_; have GE259 := n5_; have NB0_259 := n6_; have NB259_0 := n7_; clear n0_ n1_ n2_ n3_ n4_ n5_ n6_ n7_; clear hb hbox hg) | ((with_reducible refine gate_callee (f := 61) rfl ?_); refine goesL_ (some 7) rfl rfl Tryd.func61 (by kernel_rfl) rfl #[.pointer (some ⟨g, 0, none⟩)] rfl (by (try simp only [List.map_toArray, List.map_cons, List.map_nil]); first | done | rfl | (simp only [List.length_drop, List.length_take]; rfl)) ?_; (with_reducible refine (wherryref01_Reader_Byte.calls g s0_0 s0_1 t260 t261 t262 w0 _ ?side1 ?side2 A2.out).mono ?_); (case side1 => repeat (first | (with_reducible first | exact HI0.out | apply IsS53.alloc | apply IsS53.drewN | apply IsS53.drew | apply IsS53.set_0 | apply IsS53.set_1 | refine IsS53.far ?_ NB0_259.out _) | exact HI0.out)); (case side2 => repeat (first | (with_reducible first | exact HB.out | apply below_alloc | apply pw_below_drewN | apply below_drew1 | refine below_set ?_ (IsS53.ge HI0.out) | refine below_set ?_ GE259.out) | exact HB.out)); rintro e w22 ⟨rfl, hi, hb, hk⟩; refine ⟨_, rfl, ?_⟩; have n0_ := Aside0.mk (KeepBut.blk hk (g' := gb259) (o := .cells #[.int .i64 0, .int .i64 0, .string (⟨#[]⟩ : ByteArray)] 23 (0, 0)) (by (with_reducible repeat (first | refine blk_drewN ?_ _ | refine blk_drew ?_ | refine blk_alloc ?_ _)); exact BK259.out) NB259_0.out (by simp)); have n1_ := Aside0.mk (KeepBut.trans (by repeat (first | (with_reducible first | exact HK.out | apply KeepBut.set_ | apply keep_drewN | apply keep_drew | apply keep_alloc | refine keep_far ?_ GW259.out _) | exact HK.out)) hk (.inl rfl)); have n2_ := Aside0.mk (hb); have n3_ := Aside0.mk (hi); clear BK259; clear HK; clear HB; clear HI0; have BK259 := n0_; have HK := n1_; have HB := n2_; have HI0 := n3_; clear n0_ n1_ n2_ n3_; (try clear hb); (try clear hb2); (try clear hk); (try clear hi)) | ((with_reducible refine gate_dst (N := 4) rfl ?_); refine box_event ?hg (N := 4) ?hd (cs := #[.int .i64 0, .int .i64 0, .string (⟨#[]⟩ : ByteArray)]) (t := 23) ?hr ?_; (case hd => rfl); (case hg => rfl); (case hr => first | (go_simp; done) | (go_simp; rfl)); intro gb263 hg w23 hbox hb; have n0_ := Aside0.mk (IsS53.below (by repeat (first | (with_reducible first | exact HI0.out | apply IsS53.alloc | apply IsS53.drewN | apply IsS53.drew | apply IsS53.set_0 | apply IsS53.set_1 | refine IsS53.far ?_ NB0_259.out _) | exact HI0.out)) hb); have n1_ := Aside0.mk (blk_below (g := gb259) (o := .cells #[.int .i64 0, .int .i64 0, .string (⟨#[]⟩ : ByteArray)] 23 (0, 0)) (by (with_reducible repeat (first | refine blk_drewN ?_ _ | refine blk_drew ?_ | refine blk_alloc ?_ _)); exact BK259.out) hb); have n2_ := Aside0.mk (KeepBut.trans (by repeat (first | (with_reducible first | exact HK.out | apply KeepBut.set_ | apply keep_drewN | apply keep_drew | apply keep_alloc | refine keep_far ?_ GW259.out _) | exact HK.out)) (KeepBut.of_below hb g none) (.inl rfl)); have n3_ := Aside0.mk (below_step (by repeat (first | (with_reducible first | exact HB.out | apply below_alloc | apply pw_below_drewN | apply below_drew1 | refine below_set ?_ (IsS53.ge HI0.out) | refine below_set ?_ GE259.out) | exact HB.out)) hb); have n4_ := Aside0.mk (hbox); have n5_ := Aside0.mk ((by rw [hg]; exact (keep_size (w := w) (g := g) (row := none) (by repeat (first | (with_reducible first | exact HK.out | apply KeepBut.set_ | apply keep_drewN | apply keep_drew | apply keep_alloc | refine keep_far ?_ GW259.out _) | exact HK.out))) : w.heap.size ≤ gb263)); have n6_ := Aside0.mk ((Nat.le_trans HW0.out (by rw [hg]; exact (keep_size (w := w) (g := g) (row := none) (by repeat (first | (with_reducible first | exact HK.out | apply KeepBut.set_ | apply keep_drewN | apply keep_drew | apply keep_alloc | refine keep_far ?_ GW259.out _) | exact HK.out))) : w.heap.size ≤ gb263) : w0.heap.size ≤ gb263)); have n7_ := Aside0.mk ((by rw [hg]; exact Nat.ne_of_lt (blk_lt (g := gb259) (o := .cells #[.int .i64 0, .int .i64 0, .string (⟨#[]⟩ : ByteArray)] 23 (0, 0)) (by (with_reducible repeat (first | refine blk_drewN ?_ _ | refine blk_drew ?_ | refine blk_alloc ?_ _)); exact BK259.out)) : gb259 ≠ gb263)); have n8_ := Aside0.mk ((by rw [hg]; exact Nat.ne_of_gt (blk_lt (g := gb259) (o := .cells #[.int .i64 0, .int .i64 0, .string (⟨#[]⟩ : ByteArray)] 23 (0, 0)) (by (with_reducible repeat (first | refine blk_drewN ?_ _ | refine blk_drew ?_ | refine blk_alloc ?_ _)); exact BK259.out)) : gb263 ≠ gb259)); have n9_ := Aside0.mk ((by rw [hg]; exact Nat.ne_of_lt (IsS53.lt (show IsS53 w0 _ g t261 t262 from by repeat (first | (with_reducible first | exact HI0.out | apply IsS53.alloc | apply IsS53.drewN | apply IsS53.drew | apply IsS53.set_0 | apply IsS53.set_1 | refine IsS53.far ?_ NB0_259.out _) | exact HI0.out))) : g ≠ gb263)); have n10_ := Aside0.mk ((by rw [hg]; exact Nat.ne_of_gt (IsS53.lt (show IsS53 w0 _ g t261 t262 from by repeat (first | (with_reducible first | exact HI0.out | apply IsS53.alloc | apply IsS53.drewN | apply IsS53.drew | apply IsS53.set_0 | apply IsS53.set_1 | refine IsS53.far ?_ NB0_259.out _) | exact HI0.out))) : gb263 ≠ g)); clear HI0; clear BK259; clear HK; clear HB; have HI0 := n0_; have BK259 := n1_; have HK := n2_; have HB := n3_; have BK263 := n4_; have GW263 := n5_; have GE263 := n6_; have NB259_263 := n7_; have NB263_259 := n8_; have NB0_263 := n9_; have NB263_0 := n10_; clear n0_ n1_ n2_ n3_ n4_ n5_ n6_ n7_ n8_ n9_ n10_; clear hb hbox hg; have hnb24 := NB263_259.out; have hnc24 := NB259_263.out; have hnb25 := NB263_0.out; have hnc25 := NB0_263.out; have hcz26_0 : w23.cell? ⟨gb263, 0, none⟩ = some (.int .i64 0) := (blk_cell BK263.out 0).trans rfl; have hcz26_1 : w23.cell? ⟨gb263, 1, none⟩ = some (.int .i64 0) := (blk_cell BK263.out 1).trans rfl; have hcz26_2 : w23.cell? ⟨gb263, 2, none⟩ = some (.string (⟨#[]⟩ : ByteArray)) := (blk_cell BK263.out 2).trans rfl; have hfz26_0 := blk_frozen BK263.out 0; have hfz26_1 := blk_frozen BK263.out 1; have hfz26_2 := blk_frozen BK263.out 2) | ((with_reducible refine gate_callee (f := 62) rfl ?_); refine goesL_ (some 14) rfl rfl Tryd.func62 (by kernel_rfl) rfl #[.pointer (some ⟨g, 0, none⟩), .int .i64 1024] rfl (by (try simp only [List.map_toArray, List.map_cons, List.map_nil]); first | done | rfl | (simp only [List.length_drop, List.length_take]; rfl)) ?_; (with_reducible refine (wherryref01_Reader_Text.calls g t261 t262 1024 t264 t265 t266 w0 _ ?side1 ?side2 A4.out).mono ?_); (case side1 => repeat (first | (with_reducible first | exact HI0.out | apply IsS53.alloc | apply IsS53.drewN | apply IsS53.drew | apply IsS53.set_0 | apply IsS53.set_1 | refine IsS53.far ?_ NB0_259.out _ | refine IsS53.far ?_ NB0_263.out _) | exact HI0.out)); (case side2 => repeat (first | (with_reducible first | exact HB.out | apply below_alloc | apply pw_below_drewN | apply below_drew1 | refine below_set ?_ (IsS53.ge HI0.out) | refine below_set ?_ GE259.out | refine below_set ?_ GE263.out) | exact HB.out)); rintro e w27 ⟨rfl, hi, hb, hk⟩; refine ⟨_, rfl, ?_⟩; have n0_ := Aside0.mk (KeepBut.blk hk (g' := gb259) (o := .cells #[.int .i64 0, .int .i64 0, .string (⟨#[]⟩ : ByteArray)] 23 (0, 0)) (by (with_reducible repeat (first | refine blk_drewN ?_ _ | refine blk_drew ?_ | refine blk_alloc ?_ _)); refine blk_far ?_ NB259_263.out _; (with_reducible repeat (first | refine blk_drewN ?_ _ | refine blk_drew ?_ | refine blk_alloc ?_ _)); refine blk_far ?_ NB259_263.out _; (with_reducible repeat (first | refine blk_drewN ?_ _ | refine blk_drew ?_ | refine blk_alloc ?_ _)); refine blk_far ?_ NB259_263.out _; (with_reducible repeat (first | refine blk_drewN ?_ _ | refine blk_drew ?_ | refine blk_alloc ?_ _)); exact BK259.out) NB259_0.out (by simp)); have n1_ := Aside0.mk (KeepBut.blk hk (g' := gb263) (o := .cells #[.int .i64 (wrap64 (t260)), .int .i64 0, .string (⟨#[]⟩ : ByteArray)] 23 (0, 0)) (by (with_reducible repeat (first | refine blk_drewN ?_ _ | refine blk_drew ?_ | refine blk_alloc ?_ _)); refine blk_put (cs := #[.int .i64 (wrap64 (t260)), .int .i64 0, .string (⟨#[]⟩ : ByteArray)]) ?_ 2 _ rfl; (with_reducible repeat (first | refine blk_drewN ?_ _ | refine blk_drew ?_ | refine blk_alloc ?_ _)); refine blk_put (cs := #[.int .i64 (wrap64 (t260)), .int .i64 0, .string (⟨#[]⟩ : ByteArray)]) ?_ 1 _ rfl; (with_reducible repeat (first | refine blk_drewN ?_ _ | refine blk_drew ?_ | refine blk_alloc ?_ _)); refine blk_put (cs := #[.int .i64 0, .int .i64 0, .string (⟨#[]⟩ : ByteArray)]) ?_ 0 _ rfl; (with_reducible repeat (first | refine blk_drewN ?_ _ | refine blk_drew ?_ | refine blk_alloc ?_ _)); exact BK263.out) NB263_0.out (by simp)); have n2_ := Aside0.mk (KeepBut.trans (by repeat (first | (with_reducible first | exact HK.out | apply KeepBut.set_ | apply keep_drewN | apply keep_drew | apply keep_alloc | refine keep_far ?_ GW259.out _ | refine keep_far ?_ GW263.out _) | exact HK.out)) hk (.inl rfl)); have n3_ := Aside0.mk (hb); have n4_ := Aside0.mk (hi); clear BK259; clear BK263; clear HK; clear HB; clear HI0; have BK259 := n0_; have BK263 := n1_; have HK := n2_; have HB := n3_; have HI0 := n4_; clear n0_ n1_ n2_ n3_ n4_; (try clear hb); (try clear hb2); (try clear hk); (try clear hi); have hcz28_0 : w27.cell? ⟨gb263, 0, none⟩ = some (.int .i64 (wrap64 (t260))) := (blk_cell BK263.out 0).trans rfl; have hcz28_1 : w27.cell? ⟨gb263, 1, none⟩ = some (.int .i64 0) := (blk_cell BK263.out 1).trans rfl; have hcz28_2 : w27.cell? ⟨gb263, 2, none⟩ = some (.string (⟨#[]⟩ : ByteArray)) := (blk_cell BK263.out 2).trans rfl; have hfz28_0 := blk_frozen BK263.out 0; have hfz28_1 := blk_frozen BK263.out 1; have hfz28_2 := blk_frozen BK263.out 2) | ((with_reducible refine gate_callee (f := 11) rfl ?_); refine goesL_ (some 20) rfl rfl Tryd.func11 (by kernel_rfl) rfl #[.agg #[.int .i64 (wrap64 (t260)), .int .i64 0, .string t264]] rfl (by (try simp only [List.map_toArray, List.map_cons, List.map_nil]); first | done | rfl | (simp only [List.length_drop, List.length_take]; rfl)) ?_; (with_reducible refine (wherryref09_May.calls (wrap64 (t260)) 0 t264 false _ A5.out).mono ?_); rintro e w29 ⟨rfl, hb⟩; refine ⟨_, rfl, ?_⟩; have n0_ := Aside0.mk (IsS53.below (show IsS53 w0 (w27.setCell ⟨gb263, 2, none⟩ (.string t264)) g t265 t266 from by repeat (first | (with_reducible first | exact HI0.out | apply IsS53.alloc | apply IsS53.drewN | apply IsS53.drew | apply IsS53.set_0 | apply IsS53.set_1 | refine IsS53.far ?_ NB0_259.out _ | refine IsS53.far ?_ NB0_263.out _) | exact HI0.out)) hb); have n1_ := Aside0.mk (blk_below (g := gb259) (o := .cells #[.int .i64 0, .int .i64 0, .string (⟨#[]⟩ : ByteArray)] 23 (0, 0)) (by (with_reducible repeat (first | refine blk_drewN ?_ _ | refine blk_drew ?_ | refine blk_alloc ?_ _)); refine blk_far ?_ NB259_263.out _; (with_reducible repeat (first | refine blk_drewN ?_ _ | refine blk_drew ?_ | refine blk_alloc ?_ _)); exact BK259.out) hb); have n2_ := Aside0.mk (blk_below (g := gb263) (o := .cells #[.int .i64 (wrap64 (t260)), .int .i64 0, .string t264] 23 (0, 0)) (by (with_reducible repeat (first | refine blk_drewN ?_ _ | refine blk_drew ?_ | refine blk_alloc ?_ _)); refine blk_put (cs := #[.int .i64 (wrap64 (t260)), .int .i64 0, .string (⟨#[]⟩ : ByteArray)]) ?_ 2 _ rfl; (with_reducible repeat (first | refine blk_drewN ?_ _ | refine blk_drew ?_ | refine blk_alloc ?_ _)); exact BK263.out) hb); have n3_ := Aside0.mk (KeepBut.trans (by repeat (first | (with_reducible first | exact HK.out | apply KeepBut.set_ | apply keep_drewN | apply keep_drew | apply keep_alloc | refine keep_far ?_ GW259.out _ | refine keep_far ?_ GW263.out _) | exact HK.out)) (KeepBut.of_below hb g none) (.inl rfl)); have n4_ := Aside0.mk (below_step (by repeat (first | (with_reducible first | exact HB.out | apply below_alloc | apply pw_below_drewN | apply below_drew1 | refine below_set ?_ (IsS53.ge HI0.out) | refine below_set ?_ GE259.out | refine below_set ?_ GE263.out) | exact HB.out)) hb); clear HI0; clear BK259; clear BK263; clear HK; clear HB; have HI0 := n0_; have BK259 := n1_; have BK263 := n2_; have HK := n3_; have HB := n4_; clear n0_ n1_ n2_ n3_ n4_; (try clear hb); (try clear hb2); (try clear hk); (try clear hi); obtain ⟨HGz30, hgz30⟩ := HI0.out; have hcz30_0 := cellS53_0 HGz30; have hcz30_1 := cellS53_1 HGz30; have hfz30_0 := blk_frozen HGz30 0; have hfz30_1 := blk_frozen HGz30 1; clear HGz30 hgz30; have hnb31 := NB259_0.out; have hnc31 := NB0_259.out; have hcz32_0 : w29.cell? ⟨gb259, 0, none⟩ = some (.int .i64 0) := (blk_cell BK259.out 0).trans rfl; have hcz32_1 : w29.cell? ⟨gb259, 1, none⟩ = some (.int .i64 0) := (blk_cell BK259.out 1).trans rfl; have hcz32_2 : w29.cell? ⟨gb259, 2, none⟩ = some (.string (⟨#[]⟩ : ByteArray)) := (blk_cell BK259.out 2).trans rfl; have hfz32_0 := blk_frozen BK259.out 0; have hfz32_1 := blk_frozen BK259.out 1; have hfz32_2 := blk_frozen BK259.out 2))
        refine bodyPost_ret (results_ct rfl _ _ gb259 23 #[.int .i64 0, .int .i64 0, .string (⟨#[]⟩ : ByteArray)] (0, 0) _ rfl (by (with_reducible repeat (first | refine blk_drewN ?_ _ | refine blk_drew ?_ | refine blk_alloc ?_ _)); refine blk_put (cs := #[.int .i64 0, .int .i64 0, .string (⟨#[]⟩ : ByteArray)]) ?_ 2 _ rfl; (with_reducible repeat (first | refine blk_drewN ?_ _ | refine blk_drew ?_ | refine blk_alloc ?_ _)); refine blk_put (cs := #[.int .i64 0, .int .i64 0, .string (⟨#[]⟩ : ByteArray)]) ?_ 1 _ rfl; (with_reducible repeat (first | refine blk_drewN ?_ _ | refine blk_drew ?_ | refine blk_alloc ?_ _)); refine blk_put (cs := #[.int .i64 0, .int .i64 0, .string (⟨#[]⟩ : ByteArray)]) ?_ 0 _ rfl; (with_reducible repeat (first | refine blk_drewN ?_ _ | refine blk_drew ?_ | refine blk_alloc ?_ _)); exact BK259.out) Tryd.underlying23 rfl (by kernel_rfl)) rfl ?_
        exact ⟨by first | rfl | (simp [errW_none, errW_some] <;> rfl) | (simp [*, errW_none, errW_some] <;> rfl), by repeat (first | (with_reducible first | exact HI0.out | apply IsS53.alloc | apply IsS53.drewN | apply IsS53.drew | apply IsS53.set_0 | apply IsS53.set_1 | refine IsS53.far ?_ NB0_259.out _ | refine IsS53.far ?_ NB0_263.out _) | exact HI0.out), by repeat (first | (with_reducible first | exact HB.out | apply below_alloc | apply pw_below_drewN | apply below_drew1 | refine below_set ?_ (IsS53.ge HI0.out) | refine below_set ?_ GE259.out | refine below_set ?_ GE263.out) | exact HB.out), by repeat (first | (with_reducible first | exact HK.out | apply KeepBut.set_ | apply keep_drewN | apply keep_drew | apply keep_alloc | refine keep_far ?_ GW259.out _ | refine keep_far ?_ GW263.out _) | exact HK.out)⟩
    · rw [if_neg c6] at H
      have c6b0 : (t266 == 0) = false := beq_eq_false_iff_ne.mpr c6
      have c6b1 : (t266 != 0) = true := bne_iff_ne.mpr c6
      simp only [Option.some.injEq, Prod.mk.injEq] at H
      obtain ⟨rfl, rfl, rfl, rfl, rfl, rfl⟩ := H
      go_enter Tryd.func32, Tryd.ntmps32
      go_wp2_with (first | ((with_reducible refine gate_dst (N := 2) rfl ?_); refine box_event ?hg (N := 2) ?hd (cs := #[.int .i64 0, .int .i64 0, .string (⟨#[]⟩ : ByteArray)]) (t := 23) ?hr ?_; (case hd => rfl); (case hg => rfl); (case hr => first | (go_simp; done) | (go_simp; rfl)); intro gb259 hg w33 hbox hb; have n0_ := Aside0.mk (IsS53.below (by repeat (first | (with_reducible first | exact HI0.out | apply IsS53.alloc | apply IsS53.drewN | apply IsS53.drew | apply IsS53.set_0 | apply IsS53.set_1) | exact HI0.out)) hb); have n1_ := Aside0.mk (KeepBut.trans (by repeat (first | (with_reducible first | exact HK.out | apply KeepBut.set_ | apply keep_drewN | apply keep_drew | apply keep_alloc) | exact HK.out)) (KeepBut.of_below hb g none) (.inl rfl)); have n2_ := Aside0.mk (below_step (by repeat (first | (with_reducible first | exact HB.out | apply below_alloc | apply pw_below_drewN | apply below_drew1 | refine below_set ?_ (IsS53.ge HI0.out)) | exact HB.out)) hb); have n3_ := Aside0.mk (hbox); have n4_ := Aside0.mk ((by rw [hg]; exact (keep_size (w := w) (g := g) (row := none) (by repeat (first | (with_reducible first | exact HK.out | apply KeepBut.set_ | apply keep_drewN | apply keep_drew | apply keep_alloc) | exact HK.out))) : w.heap.size ≤ gb259)); have n5_ := Aside0.mk ((Nat.le_trans HW0.out (by rw [hg]; exact (keep_size (w := w) (g := g) (row := none) (by repeat (first | (with_reducible first | exact HK.out | apply KeepBut.set_ | apply keep_drewN | apply keep_drew | apply keep_alloc) | exact HK.out))) : w.heap.size ≤ gb259) : w0.heap.size ≤ gb259)); have n6_ := Aside0.mk ((by rw [hg]; exact Nat.ne_of_lt (IsS53.lt (show IsS53 w0 _ g s0_0 s0_1 from by repeat (first | (with_reducible first | exact HI0.out | apply IsS53.alloc | apply IsS53.drewN | apply IsS53.drew | apply IsS53.set_0 | apply IsS53.set_1) | exact HI0.out))) : g ≠ gb259)); have n7_ := Aside0.mk ((by rw [hg]; exact Nat.ne_of_gt (IsS53.lt (show IsS53 w0 _ g s0_0 s0_1 from by repeat (first | (with_reducible first | exact HI0.out | apply IsS53.alloc | apply IsS53.drewN | apply IsS53.drew | apply IsS53.set_0 | apply IsS53.set_1) | exact HI0.out))) : gb259 ≠ g)); clear HI0; clear HK; clear HB; have HI0 := n0_; have HK := n1_; have HB := n2_; have BK259 := n3_; have GW259 := n4_; have GE259 := n5_; have NB0_259 := n6_; have NB259_0 := n7_; clear n0_ n1_ n2_ n3_ n4_ n5_ n6_ n7_; clear hb hbox hg) | ((with_reducible refine gate_callee (f := 61) rfl ?_); refine goesL_ (some 7) rfl rfl Tryd.func61 (by kernel_rfl) rfl #[.pointer (some ⟨g, 0, none⟩)] rfl (by (try simp only [List.map_toArray, List.map_cons, List.map_nil]); first | done | rfl | (simp only [List.length_drop, List.length_take]; rfl)) ?_; (with_reducible refine (wherryref01_Reader_Byte.calls g s0_0 s0_1 t260 t261 t262 w0 _ ?side1 ?side2 A2.out).mono ?_); (case side1 => repeat (first | (with_reducible first | exact HI0.out | apply IsS53.alloc | apply IsS53.drewN | apply IsS53.drew | apply IsS53.set_0 | apply IsS53.set_1 | refine IsS53.far ?_ NB0_259.out _) | exact HI0.out)); (case side2 => repeat (first | (with_reducible first | exact HB.out | apply below_alloc | apply pw_below_drewN | apply below_drew1 | refine below_set ?_ (IsS53.ge HI0.out) | refine below_set ?_ GE259.out) | exact HB.out)); rintro e w34 ⟨rfl, hi, hb, hk⟩; refine ⟨_, rfl, ?_⟩; have n0_ := Aside0.mk (KeepBut.blk hk (g' := gb259) (o := .cells #[.int .i64 0, .int .i64 0, .string (⟨#[]⟩ : ByteArray)] 23 (0, 0)) (by (with_reducible repeat (first | refine blk_drewN ?_ _ | refine blk_drew ?_ | refine blk_alloc ?_ _)); exact BK259.out) NB259_0.out (by simp)); have n1_ := Aside0.mk (KeepBut.trans (by repeat (first | (with_reducible first | exact HK.out | apply KeepBut.set_ | apply keep_drewN | apply keep_drew | apply keep_alloc | refine keep_far ?_ GW259.out _) | exact HK.out)) hk (.inl rfl)); have n2_ := Aside0.mk (hb); have n3_ := Aside0.mk (hi); clear BK259; clear HK; clear HB; clear HI0; have BK259 := n0_; have HK := n1_; have HB := n2_; have HI0 := n3_; clear n0_ n1_ n2_ n3_; (try clear hb); (try clear hb2); (try clear hk); (try clear hi)) | ((with_reducible refine gate_dst (N := 4) rfl ?_); refine box_event ?hg (N := 4) ?hd (cs := #[.int .i64 0, .int .i64 0, .string (⟨#[]⟩ : ByteArray)]) (t := 23) ?hr ?_; (case hd => rfl); (case hg => rfl); (case hr => first | (go_simp; done) | (go_simp; rfl)); intro gb263 hg w35 hbox hb; have n0_ := Aside0.mk (IsS53.below (by repeat (first | (with_reducible first | exact HI0.out | apply IsS53.alloc | apply IsS53.drewN | apply IsS53.drew | apply IsS53.set_0 | apply IsS53.set_1 | refine IsS53.far ?_ NB0_259.out _) | exact HI0.out)) hb); have n1_ := Aside0.mk (blk_below (g := gb259) (o := .cells #[.int .i64 0, .int .i64 0, .string (⟨#[]⟩ : ByteArray)] 23 (0, 0)) (by (with_reducible repeat (first | refine blk_drewN ?_ _ | refine blk_drew ?_ | refine blk_alloc ?_ _)); exact BK259.out) hb); have n2_ := Aside0.mk (KeepBut.trans (by repeat (first | (with_reducible first | exact HK.out | apply KeepBut.set_ | apply keep_drewN | apply keep_drew | apply keep_alloc | refine keep_far ?_ GW259.out _) | exact HK.out)) (KeepBut.of_below hb g none) (.inl rfl)); have n3_ := Aside0.mk (below_step (by repeat (first | (with_reducible first | exact HB.out | apply below_alloc | apply pw_below_drewN | apply below_drew1 | refine below_set ?_ (IsS53.ge HI0.out) | refine below_set ?_ GE259.out) | exact HB.out)) hb); have n4_ := Aside0.mk (hbox); have n5_ := Aside0.mk ((by rw [hg]; exact (keep_size (w := w) (g := g) (row := none) (by repeat (first | (with_reducible first | exact HK.out | apply KeepBut.set_ | apply keep_drewN | apply keep_drew | apply keep_alloc | refine keep_far ?_ GW259.out _) | exact HK.out))) : w.heap.size ≤ gb263)); have n6_ := Aside0.mk ((Nat.le_trans HW0.out (by rw [hg]; exact (keep_size (w := w) (g := g) (row := none) (by repeat (first | (with_reducible first | exact HK.out | apply KeepBut.set_ | apply keep_drewN | apply keep_drew | apply keep_alloc | refine keep_far ?_ GW259.out _) | exact HK.out))) : w.heap.size ≤ gb263) : w0.heap.size ≤ gb263)); have n7_ := Aside0.mk ((by rw [hg]; exact Nat.ne_of_lt (blk_lt (g := gb259) (o := .cells #[.int .i64 0, .int .i64 0, .string (⟨#[]⟩ : ByteArray)] 23 (0, 0)) (by (with_reducible repeat (first | refine blk_drewN ?_ _ | refine blk_drew ?_ | refine blk_alloc ?_ _)); exact BK259.out)) : gb259 ≠ gb263)); have n8_ := Aside0.mk ((by rw [hg]; exact Nat.ne_of_gt (blk_lt (g := gb259) (o := .cells #[.int .i64 0, .int .i64 0, .string (⟨#[]⟩ : ByteArray)] 23 (0, 0)) (by (with_reducible repeat (first | refine blk_drewN ?_ _ | refine blk_drew ?_ | refine blk_alloc ?_ _)); exact BK259.out)) : gb263 ≠ gb259)); have n9_ := Aside0.mk ((by rw [hg]; exact Nat.ne_of_lt (IsS53.lt (show IsS53 w0 _ g t261 t262 from by repeat (first | (with_reducible first | exact HI0.out | apply IsS53.alloc | apply IsS53.drewN | apply IsS53.drew | apply IsS53.set_0 | apply IsS53.set_1 | refine IsS53.far ?_ NB0_259.out _) | exact HI0.out))) : g ≠ gb263)); have n10_ := Aside0.mk ((by rw [hg]; exact Nat.ne_of_gt (IsS53.lt (show IsS53 w0 _ g t261 t262 from by repeat (first | (with_reducible first | exact HI0.out | apply IsS53.alloc | apply IsS53.drewN | apply IsS53.drew | apply IsS53.set_0 | apply IsS53.set_1 | refine IsS53.far ?_ NB0_259.out _) | exact HI0.out))) : gb263 ≠ g)); clear HI0; clear BK259; clear HK; clear HB; have HI0 := n0_; have BK259 := n1_; have HK := n2_; have HB := n3_; have BK263 := n4_; have GW263 := n5_; have GE263 := n6_; have NB259_263 := n7_; have NB263_259 := n8_; have NB0_263 := n9_; have NB263_0 := n10_; clear n0_ n1_ n2_ n3_ n4_ n5_ n6_ n7_ n8_ n9_ n10_; clear hb hbox hg; have hnb36 := NB263_259.out; have hnc36 := NB259_263.out; have hnb37 := NB263_0.out; have hnc37 := NB0_263.out; have hcz38_0 : w35.cell? ⟨gb263, 0, none⟩ = some (.int .i64 0) := (blk_cell BK263.out 0).trans rfl; have hcz38_1 : w35.cell? ⟨gb263, 1, none⟩ = some (.int .i64 0) := (blk_cell BK263.out 1).trans rfl; have hcz38_2 : w35.cell? ⟨gb263, 2, none⟩ = some (.string (⟨#[]⟩ : ByteArray)) := (blk_cell BK263.out 2).trans rfl; have hfz38_0 := blk_frozen BK263.out 0; have hfz38_1 := blk_frozen BK263.out 1; have hfz38_2 := blk_frozen BK263.out 2) | ((with_reducible refine gate_callee (f := 62) rfl ?_); refine goesL_ (some 14) rfl rfl Tryd.func62 (by kernel_rfl) rfl #[.pointer (some ⟨g, 0, none⟩), .int .i64 1024] rfl (by (try simp only [List.map_toArray, List.map_cons, List.map_nil]); first | done | rfl | (simp only [List.length_drop, List.length_take]; rfl)) ?_; (with_reducible refine (wherryref01_Reader_Text.calls g t261 t262 1024 t264 t265 t266 w0 _ ?side1 ?side2 A4.out).mono ?_); (case side1 => repeat (first | (with_reducible first | exact HI0.out | apply IsS53.alloc | apply IsS53.drewN | apply IsS53.drew | apply IsS53.set_0 | apply IsS53.set_1 | refine IsS53.far ?_ NB0_259.out _ | refine IsS53.far ?_ NB0_263.out _) | exact HI0.out)); (case side2 => repeat (first | (with_reducible first | exact HB.out | apply below_alloc | apply pw_below_drewN | apply below_drew1 | refine below_set ?_ (IsS53.ge HI0.out) | refine below_set ?_ GE259.out | refine below_set ?_ GE263.out) | exact HB.out)); rintro e w39 ⟨rfl, hi, hb, hk⟩; refine ⟨_, rfl, ?_⟩; have n0_ := Aside0.mk (KeepBut.blk hk (g' := gb259) (o := .cells #[.int .i64 0, .int .i64 0, .string (⟨#[]⟩ : ByteArray)] 23 (0, 0)) (by (with_reducible repeat (first | refine blk_drewN ?_ _ | refine blk_drew ?_ | refine blk_alloc ?_ _)); refine blk_far ?_ NB259_263.out _; (with_reducible repeat (first | refine blk_drewN ?_ _ | refine blk_drew ?_ | refine blk_alloc ?_ _)); refine blk_far ?_ NB259_263.out _; (with_reducible repeat (first | refine blk_drewN ?_ _ | refine blk_drew ?_ | refine blk_alloc ?_ _)); refine blk_far ?_ NB259_263.out _; (with_reducible repeat (first | refine blk_drewN ?_ _ | refine blk_drew ?_ | refine blk_alloc ?_ _)); exact BK259.out) NB259_0.out (by simp)); have n1_ := Aside0.mk (KeepBut.blk hk (g' := gb263) (o := .cells #[.int .i64 (wrap64 (t260)), .int .i64 0, .string (⟨#[]⟩ : ByteArray)] 23 (0, 0)) (by (with_reducible repeat (first | refine blk_drewN ?_ _ | refine blk_drew ?_ | refine blk_alloc ?_ _)); refine blk_put (cs := #[.int .i64 (wrap64 (t260)), .int .i64 0, .string (⟨#[]⟩ : ByteArray)]) ?_ 2 _ rfl; (with_reducible repeat (first | refine blk_drewN ?_ _ | refine blk_drew ?_ | refine blk_alloc ?_ _)); refine blk_put (cs := #[.int .i64 (wrap64 (t260)), .int .i64 0, .string (⟨#[]⟩ : ByteArray)]) ?_ 1 _ rfl; (with_reducible repeat (first | refine blk_drewN ?_ _ | refine blk_drew ?_ | refine blk_alloc ?_ _)); refine blk_put (cs := #[.int .i64 0, .int .i64 0, .string (⟨#[]⟩ : ByteArray)]) ?_ 0 _ rfl; (with_reducible repeat (first | refine blk_drewN ?_ _ | refine blk_drew ?_ | refine blk_alloc ?_ _)); exact BK263.out) NB263_0.out (by simp)); have n2_ := Aside0.mk (KeepBut.trans (by repeat (first | (with_reducible first | exact HK.out | apply KeepBut.set_ | apply keep_drewN | apply keep_drew | apply keep_alloc | refine keep_far ?_ GW259.out _ | refine keep_far ?_ GW263.out _) | exact HK.out)) hk (.inl rfl)); have n3_ := Aside0.mk (hb); have n4_ := Aside0.mk (hi); clear BK259; clear BK263; clear HK; clear HB; clear HI0; have BK259 := n0_; have BK263 := n1_; have HK := n2_; have HB := n3_; have HI0 := n4_; clear n0_ n1_ n2_ n3_ n4_; (try clear hb); (try clear hb2); (try clear hk); (try clear hi); have hcz40_0 : w39.cell? ⟨gb263, 0, none⟩ = some (.int .i64 (wrap64 (t260))) := (blk_cell BK263.out 0).trans rfl; have hcz40_1 : w39.cell? ⟨gb263, 1, none⟩ = some (.int .i64 0) := (blk_cell BK263.out 1).trans rfl; have hcz40_2 : w39.cell? ⟨gb263, 2, none⟩ = some (.string (⟨#[]⟩ : ByteArray)) := (blk_cell BK263.out 2).trans rfl; have hfz40_0 := blk_frozen BK263.out 0; have hfz40_1 := blk_frozen BK263.out 1; have hfz40_2 := blk_frozen BK263.out 2) | ((with_reducible refine gate_callee (f := 11) rfl ?_); refine goesL_ (some 20) rfl rfl Tryd.func11 (by kernel_rfl) rfl #[.agg #[.int .i64 (wrap64 (t260)), .int .i64 0, .string t264]] rfl (by (try simp only [List.map_toArray, List.map_cons, List.map_nil]); first | done | rfl | (simp only [List.length_drop, List.length_take]; rfl)) ?_; (with_reducible refine (wherryref09_May.calls (wrap64 (t260)) 0 t264 t267 _ A5.out).mono ?_); rintro e w41 ⟨rfl, hb⟩; refine ⟨_, rfl, ?_⟩; have n0_ := Aside0.mk (IsS53.below (show IsS53 w0 (w39.setCell ⟨gb263, 2, none⟩ (.string t264)) g t265 t266 from by repeat (first | (with_reducible first | exact HI0.out | apply IsS53.alloc | apply IsS53.drewN | apply IsS53.drew | apply IsS53.set_0 | apply IsS53.set_1 | refine IsS53.far ?_ NB0_259.out _ | refine IsS53.far ?_ NB0_263.out _) | exact HI0.out)) hb); have n1_ := Aside0.mk (blk_below (g := gb259) (o := .cells #[.int .i64 0, .int .i64 0, .string (⟨#[]⟩ : ByteArray)] 23 (0, 0)) (by (with_reducible repeat (first | refine blk_drewN ?_ _ | refine blk_drew ?_ | refine blk_alloc ?_ _)); refine blk_far ?_ NB259_263.out _; (with_reducible repeat (first | refine blk_drewN ?_ _ | refine blk_drew ?_ | refine blk_alloc ?_ _)); exact BK259.out) hb); have n2_ := Aside0.mk (blk_below (g := gb263) (o := .cells #[.int .i64 (wrap64 (t260)), .int .i64 0, .string t264] 23 (0, 0)) (by (with_reducible repeat (first | refine blk_drewN ?_ _ | refine blk_drew ?_ | refine blk_alloc ?_ _)); refine blk_put (cs := #[.int .i64 (wrap64 (t260)), .int .i64 0, .string (⟨#[]⟩ : ByteArray)]) ?_ 2 _ rfl; (with_reducible repeat (first | refine blk_drewN ?_ _ | refine blk_drew ?_ | refine blk_alloc ?_ _)); exact BK263.out) hb); have n3_ := Aside0.mk (KeepBut.trans (by repeat (first | (with_reducible first | exact HK.out | apply KeepBut.set_ | apply keep_drewN | apply keep_drew | apply keep_alloc | refine keep_far ?_ GW259.out _ | refine keep_far ?_ GW263.out _) | exact HK.out)) (KeepBut.of_below hb g none) (.inl rfl)); have n4_ := Aside0.mk (below_step (by repeat (first | (with_reducible first | exact HB.out | apply below_alloc | apply pw_below_drewN | apply below_drew1 | refine below_set ?_ (IsS53.ge HI0.out) | refine below_set ?_ GE259.out | refine below_set ?_ GE263.out) | exact HB.out)) hb); clear HI0; clear BK259; clear BK263; clear HK; clear HB; have HI0 := n0_; have BK259 := n1_; have BK263 := n2_; have HK := n3_; have HB := n4_; clear n0_ n1_ n2_ n3_ n4_; (try clear hb); (try clear hb2); (try clear hk); (try clear hi); obtain ⟨HGz42, hgz42⟩ := HI0.out; have hcz42_0 := cellS53_0 HGz42; have hcz42_1 := cellS53_1 HGz42; have hfz42_0 := blk_frozen HGz42 0; have hfz42_1 := blk_frozen HGz42 1; clear HGz42 hgz42; have hnb43 := NB259_0.out; have hnc43 := NB0_259.out; have hcz44_0 : w41.cell? ⟨gb259, 0, none⟩ = some (.int .i64 0) := (blk_cell BK259.out 0).trans rfl; have hcz44_1 : w41.cell? ⟨gb259, 1, none⟩ = some (.int .i64 0) := (blk_cell BK259.out 1).trans rfl; have hcz44_2 : w41.cell? ⟨gb259, 2, none⟩ = some (.string (⟨#[]⟩ : ByteArray)) := (blk_cell BK259.out 2).trans rfl; have hfz44_0 := blk_frozen BK259.out 0; have hfz44_1 := blk_frozen BK259.out 1; have hfz44_2 := blk_frozen BK259.out 2))
      refine bodyPost_ret (results_ct rfl _ _ gb259 23 #[.int .i64 0, .int .i64 0, .string (⟨#[]⟩ : ByteArray)] (0, 0) _ rfl (by (with_reducible repeat (first | refine blk_drewN ?_ _ | refine blk_drew ?_ | refine blk_alloc ?_ _)); refine blk_put (cs := #[.int .i64 0, .int .i64 0, .string (⟨#[]⟩ : ByteArray)]) ?_ 2 _ rfl; (with_reducible repeat (first | refine blk_drewN ?_ _ | refine blk_drew ?_ | refine blk_alloc ?_ _)); refine blk_put (cs := #[.int .i64 0, .int .i64 0, .string (⟨#[]⟩ : ByteArray)]) ?_ 1 _ rfl; (with_reducible repeat (first | refine blk_drewN ?_ _ | refine blk_drew ?_ | refine blk_alloc ?_ _)); refine blk_put (cs := #[.int .i64 0, .int .i64 0, .string (⟨#[]⟩ : ByteArray)]) ?_ 0 _ rfl; (with_reducible repeat (first | refine blk_drewN ?_ _ | refine blk_drew ?_ | refine blk_alloc ?_ _)); exact BK259.out) Tryd.underlying23 rfl (by kernel_rfl)) rfl ?_
      exact ⟨by first | rfl | (simp [errW_none, errW_some] <;> rfl) | (simp [*, errW_none, errW_some] <;> rfl), by repeat (first | (with_reducible first | exact HI0.out | apply IsS53.alloc | apply IsS53.drewN | apply IsS53.drew | apply IsS53.set_0 | apply IsS53.set_1 | refine IsS53.far ?_ NB0_259.out _ | refine IsS53.far ?_ NB0_263.out _) | exact HI0.out), by repeat (first | (with_reducible first | exact HB.out | apply below_alloc | apply pw_below_drewN | apply below_drew1 | refine below_set ?_ (IsS53.ge HI0.out) | refine below_set ?_ GE259.out | refine below_set ?_ GE263.out) | exact HB.out), by repeat (first | (with_reducible first | exact HK.out | apply KeepBut.set_ | apply keep_drewN | apply keep_drew | apply keep_alloc | refine keep_far ?_ GW259.out _ | refine keep_far ?_ GW263.out _) | exact HK.out)⟩
  · rw [if_neg c3] at H
    have c3b0 : ((wrap64 (t260)) == 3) = false := beq_eq_false_iff_ne.mpr c3
    have c3b1 : ((wrap64 (t260)) != 3) = true := bne_iff_ne.mpr c3
    replace H := Option.bind_eq_some_iff.mp H
    obtain ⟨⟨t268, t269, t270⟩, A450, H⟩ := H
    replace H : ((wherryref09_May.f (wrap64 (t260)) t268 (⟨#[]⟩ : ByteArray)).bind fun t271 => (if t270 = 0 then (if t271 = true then (some (wrap64 (t260), t268, (⟨#[]⟩ : ByteArray), true, t269, t270)) else (some (0, 0, (⟨#[]⟩ : ByteArray), false, t269, t270))) else (some (0, 0, (⟨#[]⟩ : ByteArray), false, t269, t270)))) = some (r1, r2, r3, r4, r5, r6) := H
    have A45 := Aside0.mk A450
    clear A450
    replace H := Option.bind_eq_some_iff.mp H
    obtain ⟨t271, A460, H⟩ := H
    replace H : (if t270 = 0 then (if t271 = true then (some (wrap64 (t260), t268, (⟨#[]⟩ : ByteArray), true, t269, t270)) else (some (0, 0, (⟨#[]⟩ : ByteArray), false, t269, t270))) else (some (0, 0, (⟨#[]⟩ : ByteArray), false, t269, t270))) = some (r1, r2, r3, r4, r5, r6) := H
    have A46 := Aside0.mk A460
    clear A460
    by_cases c47 : t270 = 0
    · rw [if_pos c47] at H
      have c47b0 : (t270 == 0) = true := beq_iff_eq.mpr c47
      have c47b1 : (t270 != 0) = false := bne_eq_false_iff_eq.mpr c47
      clear c47
      by_cases c48 : t271 = true
      · subst c48
        have H1 : (some (wrap64 (t260), t268, (⟨#[]⟩ : ByteArray), true, t269, t270)) = some (r1, r2, r3, r4, r5, r6) := by rw [if_pos rfl] at H; exact H
        clear H
        have H := H1
        clear H1
        simp only [Option.some.injEq, Prod.mk.injEq] at H
        obtain ⟨rfl, rfl, rfl, rfl, rfl, rfl⟩ := H
        go_enter Tryd.func32, Tryd.ntmps32
        go_wp2_with (first | ((with_reducible refine gate_dst (N := 2) rfl ?_); refine box_event ?hg (N := 2) ?hd (cs := #[.int .i64 0, .int .i64 0, .string (⟨#[]⟩ : ByteArray)]) (t := 23) ?hr ?_; (case hd => rfl); (case hg => rfl); (case hr => first | (go_simp; done) | (go_simp; rfl)); intro gb259 hg w49 hbox hb; have n0_ := Aside0.mk (IsS53.below (by repeat (first | (with_reducible first | exact HI0.out | apply IsS53.alloc | apply IsS53.drewN | apply IsS53.drew | apply IsS53.set_0 | apply IsS53.set_1) | exact HI0.out)) hb); have n1_ := Aside0.mk (KeepBut.trans (by repeat (first | (with_reducible first | exact HK.out | apply KeepBut.set_ | apply keep_drewN | apply keep_drew | apply keep_alloc) | exact HK.out)) (KeepBut.of_below hb g none) (.inl rfl)); have n2_ := Aside0.mk (below_step (by repeat (first | (with_reducible first | exact HB.out | apply below_alloc | apply pw_below_drewN | apply below_drew1 | refine below_set ?_ (IsS53.ge HI0.out)) | exact HB.out)) hb); have n3_ := Aside0.mk (hbox); have n4_ := Aside0.mk ((by rw [hg]; exact (keep_size (w := w) (g := g) (row := none) (by repeat (first | (with_reducible first | exact HK.out | apply KeepBut.set_ | apply keep_drewN | apply keep_drew | apply keep_alloc) | exact HK.out))) : w.heap.size ≤ gb259)); have n5_ := Aside0.mk ((Nat.le_trans HW0.out (by rw [hg]; exact (keep_size (w := w) (g := g) (row := none) (by repeat (first | (with_reducible first | exact HK.out | apply KeepBut.set_ | apply keep_drewN | apply keep_drew | apply keep_alloc) | exact HK.out))) : w.heap.size ≤ gb259) : w0.heap.size ≤ gb259)); have n6_ := Aside0.mk ((by rw [hg]; exact Nat.ne_of_lt (IsS53.lt (show IsS53 w0 _ g s0_0 s0_1 from by repeat (first | (with_reducible first | exact HI0.out | apply IsS53.alloc | apply IsS53.drewN | apply IsS53.drew | apply IsS53.set_0 | apply IsS53.set_1) | exact HI0.out))) : g ≠ gb259)); have n7_ := Aside0.mk ((by rw [hg]; exact Nat.ne_of_gt (IsS53.lt (show IsS53 w0 _ g s0_0 s0_1 from by repeat (first | (with_reducible first | exact HI0.out | apply IsS53.alloc | apply IsS53.drewN | apply IsS53.drew | apply IsS53.set_0 | apply IsS53.set_1) | exact HI0.out))) : gb259 ≠ g)); clear HI0; clear HK; clear HB; have HI0 := n0_; have HK := n1_; have HB := n2_; have BK259 := n3_; have GW259 := n4_; have GE259 := n5_; have NB0_259 := n6_; have NB259_0 := n7_; clear n0_ n1_ n2_ n3_ n4_ n5_ n6_ n7_; clear hb hbox hg) | ((with_reducible refine gate_callee (f := 61) rfl ?_); refine goesL_ (some 7) rfl rfl Tryd.func61 (by kernel_rfl) rfl #[.pointer (some ⟨g, 0, none⟩)] rfl (by (try simp only [List.map_toArray, List.map_cons, List.map_nil]); first | done | rfl | (simp only [List.length_drop, List.length_take]; rfl)) ?_; (with_reducible refine (wherryref01_Reader_Byte.calls g s0_0 s0_1 t260 t261 t262 w0 _ ?side1 ?side2 A2.out).mono ?_); (case side1 => repeat (first | (with_reducible first | exact HI0.out | apply IsS53.alloc | apply IsS53.drewN | apply IsS53.drew | apply IsS53.set_0 | apply IsS53.set_1 | refine IsS53.far ?_ NB0_259.out _) | exact HI0.out)); (case side2 => repeat (first | (with_reducible first | exact HB.out | apply below_alloc | apply pw_below_drewN | apply below_drew1 | refine below_set ?_ (IsS53.ge HI0.out) | refine below_set ?_ GE259.out) | exact HB.out)); rintro e w50 ⟨rfl, hi, hb, hk⟩; refine ⟨_, rfl, ?_⟩; have n0_ := Aside0.mk (KeepBut.blk hk (g' := gb259) (o := .cells #[.int .i64 0, .int .i64 0, .string (⟨#[]⟩ : ByteArray)] 23 (0, 0)) (by (with_reducible repeat (first | refine blk_drewN ?_ _ | refine blk_drew ?_ | refine blk_alloc ?_ _)); exact BK259.out) NB259_0.out (by simp)); have n1_ := Aside0.mk (KeepBut.trans (by repeat (first | (with_reducible first | exact HK.out | apply KeepBut.set_ | apply keep_drewN | apply keep_drew | apply keep_alloc | refine keep_far ?_ GW259.out _) | exact HK.out)) hk (.inl rfl)); have n2_ := Aside0.mk (hb); have n3_ := Aside0.mk (hi); clear BK259; clear HK; clear HB; clear HI0; have BK259 := n0_; have HK := n1_; have HB := n2_; have HI0 := n3_; clear n0_ n1_ n2_ n3_; (try clear hb); (try clear hb2); (try clear hk); (try clear hi)) | ((with_reducible refine gate_dst (N := 4) rfl ?_); refine box_event ?hg (N := 4) ?hd (cs := #[.int .i64 0, .int .i64 0, .string (⟨#[]⟩ : ByteArray)]) (t := 23) ?hr ?_; (case hd => rfl); (case hg => rfl); (case hr => first | (go_simp; done) | (go_simp; rfl)); intro gb263 hg w51 hbox hb; have n0_ := Aside0.mk (IsS53.below (by repeat (first | (with_reducible first | exact HI0.out | apply IsS53.alloc | apply IsS53.drewN | apply IsS53.drew | apply IsS53.set_0 | apply IsS53.set_1 | refine IsS53.far ?_ NB0_259.out _) | exact HI0.out)) hb); have n1_ := Aside0.mk (blk_below (g := gb259) (o := .cells #[.int .i64 0, .int .i64 0, .string (⟨#[]⟩ : ByteArray)] 23 (0, 0)) (by (with_reducible repeat (first | refine blk_drewN ?_ _ | refine blk_drew ?_ | refine blk_alloc ?_ _)); exact BK259.out) hb); have n2_ := Aside0.mk (KeepBut.trans (by repeat (first | (with_reducible first | exact HK.out | apply KeepBut.set_ | apply keep_drewN | apply keep_drew | apply keep_alloc | refine keep_far ?_ GW259.out _) | exact HK.out)) (KeepBut.of_below hb g none) (.inl rfl)); have n3_ := Aside0.mk (below_step (by repeat (first | (with_reducible first | exact HB.out | apply below_alloc | apply pw_below_drewN | apply below_drew1 | refine below_set ?_ (IsS53.ge HI0.out) | refine below_set ?_ GE259.out) | exact HB.out)) hb); have n4_ := Aside0.mk (hbox); have n5_ := Aside0.mk ((by rw [hg]; exact (keep_size (w := w) (g := g) (row := none) (by repeat (first | (with_reducible first | exact HK.out | apply KeepBut.set_ | apply keep_drewN | apply keep_drew | apply keep_alloc | refine keep_far ?_ GW259.out _) | exact HK.out))) : w.heap.size ≤ gb263)); have n6_ := Aside0.mk ((Nat.le_trans HW0.out (by rw [hg]; exact (keep_size (w := w) (g := g) (row := none) (by repeat (first | (with_reducible first | exact HK.out | apply KeepBut.set_ | apply keep_drewN | apply keep_drew | apply keep_alloc | refine keep_far ?_ GW259.out _) | exact HK.out))) : w.heap.size ≤ gb263) : w0.heap.size ≤ gb263)); have n7_ := Aside0.mk ((by rw [hg]; exact Nat.ne_of_lt (blk_lt (g := gb259) (o := .cells #[.int .i64 0, .int .i64 0, .string (⟨#[]⟩ : ByteArray)] 23 (0, 0)) (by (with_reducible repeat (first | refine blk_drewN ?_ _ | refine blk_drew ?_ | refine blk_alloc ?_ _)); exact BK259.out)) : gb259 ≠ gb263)); have n8_ := Aside0.mk ((by rw [hg]; exact Nat.ne_of_gt (blk_lt (g := gb259) (o := .cells #[.int .i64 0, .int .i64 0, .string (⟨#[]⟩ : ByteArray)] 23 (0, 0)) (by (with_reducible repeat (first | refine blk_drewN ?_ _ | refine blk_drew ?_ | refine blk_alloc ?_ _)); exact BK259.out)) : gb263 ≠ gb259)); have n9_ := Aside0.mk ((by rw [hg]; exact Nat.ne_of_lt (IsS53.lt (show IsS53 w0 _ g t261 t262 from by repeat (first | (with_reducible first | exact HI0.out | apply IsS53.alloc | apply IsS53.drewN | apply IsS53.drew | apply IsS53.set_0 | apply IsS53.set_1 | refine IsS53.far ?_ NB0_259.out _) | exact HI0.out))) : g ≠ gb263)); have n10_ := Aside0.mk ((by rw [hg]; exact Nat.ne_of_gt (IsS53.lt (show IsS53 w0 _ g t261 t262 from by repeat (first | (with_reducible first | exact HI0.out | apply IsS53.alloc | apply IsS53.drewN | apply IsS53.drew | apply IsS53.set_0 | apply IsS53.set_1 | refine IsS53.far ?_ NB0_259.out _) | exact HI0.out))) : gb263 ≠ g)); clear HI0; clear BK259; clear HK; clear HB; have HI0 := n0_; have BK259 := n1_; have HK := n2_; have HB := n3_; have BK263 := n4_; have GW263 := n5_; have GE263 := n6_; have NB259_263 := n7_; have NB263_259 := n8_; have NB0_263 := n9_; have NB263_0 := n10_; clear n0_ n1_ n2_ n3_ n4_ n5_ n6_ n7_ n8_ n9_ n10_; clear hb hbox hg; have hnb52 := NB263_259.out; have hnc52 := NB259_263.out; have hnb53 := NB263_0.out; have hnc53 := NB0_263.out; have hcz54_0 : w51.cell? ⟨gb263, 0, none⟩ = some (.int .i64 0) := (blk_cell BK263.out 0).trans rfl; have hcz54_1 : w51.cell? ⟨gb263, 1, none⟩ = some (.int .i64 0) := (blk_cell BK263.out 1).trans rfl; have hcz54_2 : w51.cell? ⟨gb263, 2, none⟩ = some (.string (⟨#[]⟩ : ByteArray)) := (blk_cell BK263.out 2).trans rfl; have hfz54_0 := blk_frozen BK263.out 0; have hfz54_1 := blk_frozen BK263.out 1; have hfz54_2 := blk_frozen BK263.out 2) | ((with_reducible refine gate_callee (f := 63) rfl ?_); refine goesL_ (some 17) rfl rfl Tryd.func63 (by kernel_rfl) rfl #[.pointer (some ⟨g, 0, none⟩)] rfl (by (try simp only [List.map_toArray, List.map_cons, List.map_nil]); first | done | rfl | (simp only [List.length_drop, List.length_take]; rfl)) ?_; (with_reducible refine (wherryref01_Reader_Int.calls g t261 t262 t268 t269 t270 w0 _ ?side1 ?side2 A45.out).mono ?_); (case side1 => repeat (first | (with_reducible first | exact HI0.out | apply IsS53.alloc | apply IsS53.drewN | apply IsS53.drew | apply IsS53.set_0 | apply IsS53.set_1 | refine IsS53.far ?_ NB0_259.out _ | refine IsS53.far ?_ NB0_263.out _) | exact HI0.out)); (case side2 => repeat (first | (with_reducible first | exact HB.out | apply below_alloc | apply pw_below_drewN | apply below_drew1 | refine below_set ?_ (IsS53.ge HI0.out) | refine below_set ?_ GE259.out | refine below_set ?_ GE263.out) | exact HB.out)); rintro e w55 ⟨rfl, hi, hb, hk⟩; refine ⟨_, rfl, ?_⟩; have n0_ := Aside0.mk (KeepBut.blk hk (g' := gb259) (o := .cells #[.int .i64 0, .int .i64 0, .string (⟨#[]⟩ : ByteArray)] 23 (0, 0)) (by (with_reducible repeat (first | refine blk_drewN ?_ _ | refine blk_drew ?_ | refine blk_alloc ?_ _)); refine blk_far ?_ NB259_263.out _; (with_reducible repeat (first | refine blk_drewN ?_ _ | refine blk_drew ?_ | refine blk_alloc ?_ _)); refine blk_far ?_ NB259_263.out _; (with_reducible repeat (first | refine blk_drewN ?_ _ | refine blk_drew ?_ | refine blk_alloc ?_ _)); refine blk_far ?_ NB259_263.out _; (with_reducible repeat (first | refine blk_drewN ?_ _ | refine blk_drew ?_ | refine blk_alloc ?_ _)); exact BK259.out) NB259_0.out (by simp)); have n1_ := Aside0.mk (KeepBut.blk hk (g' := gb263) (o := .cells #[.int .i64 (wrap64 (t260)), .int .i64 0, .string (⟨#[]⟩ : ByteArray)] 23 (0, 0)) (by (with_reducible repeat (first | refine blk_drewN ?_ _ | refine blk_drew ?_ | refine blk_alloc ?_ _)); refine blk_put (cs := #[.int .i64 (wrap64 (t260)), .int .i64 0, .string (⟨#[]⟩ : ByteArray)]) ?_ 2 _ rfl; (with_reducible repeat (first | refine blk_drewN ?_ _ | refine blk_drew ?_ | refine blk_alloc ?_ _)); refine blk_put (cs := #[.int .i64 (wrap64 (t260)), .int .i64 0, .string (⟨#[]⟩ : ByteArray)]) ?_ 1 _ rfl; (with_reducible repeat (first | refine blk_drewN ?_ _ | refine blk_drew ?_ | refine blk_alloc ?_ _)); refine blk_put (cs := #[.int .i64 0, .int .i64 0, .string (⟨#[]⟩ : ByteArray)]) ?_ 0 _ rfl; (with_reducible repeat (first | refine blk_drewN ?_ _ | refine blk_drew ?_ | refine blk_alloc ?_ _)); exact BK263.out) NB263_0.out (by simp)); have n2_ := Aside0.mk (KeepBut.trans (by repeat (first | (with_reducible first | exact HK.out | apply KeepBut.set_ | apply keep_drewN | apply keep_drew | apply keep_alloc | refine keep_far ?_ GW259.out _ | refine keep_far ?_ GW263.out _) | exact HK.out)) hk (.inl rfl)); have n3_ := Aside0.mk (hb); have n4_ := Aside0.mk (hi); clear BK259; clear BK263; clear HK; clear HB; clear HI0; have BK259 := n0_; have BK263 := n1_; have HK := n2_; have HB := n3_; have HI0 := n4_; clear n0_ n1_ n2_ n3_ n4_; (try clear hb); (try clear hb2); (try clear hk); (try clear hi); have hcz56_0 : w55.cell? ⟨gb263, 0, none⟩ = some (.int .i64 (wrap64 (t260))) := (blk_cell BK263.out 0).trans rfl; have hcz56_1 : w55.cell? ⟨gb263, 1, none⟩ = some (.int .i64 0) := (blk_cell BK263.out 1).trans rfl; have hcz56_2 : w55.cell? ⟨gb263, 2, none⟩ = some (.string (⟨#[]⟩ : ByteArray)) := (blk_cell BK263.out 2).trans rfl; have hfz56_0 := blk_frozen BK263.out 0; have hfz56_1 := blk_frozen BK263.out 1; have hfz56_2 := blk_frozen BK263.out 2) | ((with_reducible refine gate_callee (f := 11) rfl ?_); refine goesL_ (some 20) rfl rfl Tryd.func11 (by kernel_rfl) rfl #[.agg #[.int .i64 (wrap64 (t260)), .int .i64 t268, .string (⟨#[]⟩ : ByteArray)]] rfl (by (try simp only [List.map_toArray, List.map_cons, List.map_nil]); first | done | rfl | (simp only [List.length_drop, List.length_take]; rfl)) ?_; (with_reducible refine (wherryref09_May.calls (wrap64 (t260)) t268 (⟨#[]⟩ : ByteArray) true _ A46.out).mono ?_); rintro e w57 ⟨rfl, hb⟩; refine ⟨_, rfl, ?_⟩; have n0_ := Aside0.mk (IsS53.below (show IsS53 w0 (w55.setCell ⟨gb263, 1, none⟩ (.int .i64 t268)) g t269 t270 from by repeat (first | (with_reducible first | exact HI0.out | apply IsS53.alloc | apply IsS53.drewN | apply IsS53.drew | apply IsS53.set_0 | apply IsS53.set_1 | refine IsS53.far ?_ NB0_259.out _ | refine IsS53.far ?_ NB0_263.out _) | exact HI0.out)) hb); have n1_ := Aside0.mk (blk_below (g := gb259) (o := .cells #[.int .i64 0, .int .i64 0, .string (⟨#[]⟩ : ByteArray)] 23 (0, 0)) (by (with_reducible repeat (first | refine blk_drewN ?_ _ | refine blk_drew ?_ | refine blk_alloc ?_ _)); refine blk_far ?_ NB259_263.out _; (with_reducible repeat (first | refine blk_drewN ?_ _ | refine blk_drew ?_ | refine blk_alloc ?_ _)); exact BK259.out) hb); have n2_ := Aside0.mk (blk_below (g := gb263) (o := .cells #[.int .i64 (wrap64 (t260)), .int .i64 t268, .string (⟨#[]⟩ : ByteArray)] 23 (0, 0)) (by (with_reducible repeat (first | refine blk_drewN ?_ _ | refine blk_drew ?_ | refine blk_alloc ?_ _)); refine blk_put (cs := #[.int .i64 (wrap64 (t260)), .int .i64 0, .string (⟨#[]⟩ : ByteArray)]) ?_ 1 _ rfl; (with_reducible repeat (first | refine blk_drewN ?_ _ | refine blk_drew ?_ | refine blk_alloc ?_ _)); exact BK263.out) hb); have n3_ := Aside0.mk (KeepBut.trans (by repeat (first | (with_reducible first | exact HK.out | apply KeepBut.set_ | apply keep_drewN | apply keep_drew | apply keep_alloc | refine keep_far ?_ GW259.out _ | refine keep_far ?_ GW263.out _) | exact HK.out)) (KeepBut.of_below hb g none) (.inl rfl)); have n4_ := Aside0.mk (below_step (by repeat (first | (with_reducible first | exact HB.out | apply below_alloc | apply pw_below_drewN | apply below_drew1 | refine below_set ?_ (IsS53.ge HI0.out) | refine below_set ?_ GE259.out | refine below_set ?_ GE263.out) | exact HB.out)) hb); clear HI0; clear BK259; clear BK263; clear HK; clear HB; have HI0 := n0_; have BK259 := n1_; have BK263 := n2_; have HK := n3_; have HB := n4_; clear n0_ n1_ n2_ n3_ n4_; (try clear hb); (try clear hb2); (try clear hk); (try clear hi); obtain ⟨HGz58, hgz58⟩ := HI0.out; have hcz58_0 := cellS53_0 HGz58; have hcz58_1 := cellS53_1 HGz58; have hfz58_0 := blk_frozen HGz58 0; have hfz58_1 := blk_frozen HGz58 1; clear HGz58 hgz58; have hcz59_0 : w57.cell? ⟨gb263, 0, none⟩ = some (.int .i64 (wrap64 (t260))) := (blk_cell BK263.out 0).trans rfl; have hcz59_1 : w57.cell? ⟨gb263, 1, none⟩ = some (.int .i64 t268) := (blk_cell BK263.out 1).trans rfl; have hcz59_2 : w57.cell? ⟨gb263, 2, none⟩ = some (.string (⟨#[]⟩ : ByteArray)) := (blk_cell BK263.out 2).trans rfl; have hfz59_0 := blk_frozen BK263.out 0; have hfz59_1 := blk_frozen BK263.out 1; have hfz59_2 := blk_frozen BK263.out 2; have hnb60 := NB259_0.out; have hnc60 := NB0_259.out; have hcz61_0 : w57.cell? ⟨gb259, 0, none⟩ = some (.int .i64 0) := (blk_cell BK259.out 0).trans rfl; have hcz61_1 : w57.cell? ⟨gb259, 1, none⟩ = some (.int .i64 0) := (blk_cell BK259.out 1).trans rfl; have hcz61_2 : w57.cell? ⟨gb259, 2, none⟩ = some (.string (⟨#[]⟩ : ByteArray)) := (blk_cell BK259.out 2).trans rfl; have hfz61_0 := blk_frozen BK259.out 0; have hfz61_1 := blk_frozen BK259.out 1; have hfz61_2 := blk_frozen BK259.out 2))
        refine bodyPost_ret (results_ct rfl _ _ gb259 23 #[.int .i64 (wrap64 (t260)), .int .i64 t268, .string (⟨#[]⟩ : ByteArray)] (0, 0) _ rfl (by (with_reducible repeat (first | refine blk_drewN ?_ _ | refine blk_drew ?_ | refine blk_alloc ?_ _)); refine blk_put (cs := #[.int .i64 (wrap64 (t260)), .int .i64 t268, .string (⟨#[]⟩ : ByteArray)]) ?_ 2 _ rfl; (with_reducible repeat (first | refine blk_drewN ?_ _ | refine blk_drew ?_ | refine blk_alloc ?_ _)); refine blk_put (cs := #[.int .i64 (wrap64 (t260)), .int .i64 0, .string (⟨#[]⟩ : ByteArray)]) ?_ 1 _ rfl; (with_reducible repeat (first | refine blk_drewN ?_ _ | refine blk_drew ?_ | refine blk_alloc ?_ _)); refine blk_put (cs := #[.int .i64 0, .int .i64 0, .string (⟨#[]⟩ : ByteArray)]) ?_ 0 _ rfl; (with_reducible repeat (first | refine blk_drewN ?_ _ | refine blk_drew ?_ | refine blk_alloc ?_ _)); exact BK259.out) Tryd.underlying23 rfl (by kernel_rfl)) rfl ?_
        exact ⟨by first | rfl | (simp [errW_none, errW_some] <;> rfl) | (simp [*, errW_none, errW_some] <;> rfl), by repeat (first | (with_reducible first | exact HI0.out | apply IsS53.alloc | apply IsS53.drewN | apply IsS53.drew | apply IsS53.set_0 | apply IsS53.set_1 | refine IsS53.far ?_ NB0_259.out _ | refine IsS53.far ?_ NB0_263.out _) | exact HI0.out), by repeat (first | (with_reducible first | exact HB.out | apply below_alloc | apply pw_below_drewN | apply below_drew1 | refine below_set ?_ (IsS53.ge HI0.out) | refine below_set ?_ GE259.out | refine below_set ?_ GE263.out) | exact HB.out), by repeat (first | (with_reducible first | exact HK.out | apply KeepBut.set_ | apply keep_drewN | apply keep_drew | apply keep_alloc | refine keep_far ?_ GW259.out _ | refine keep_far ?_ GW263.out _) | exact HK.out)⟩
      · replace c48 := Bool.eq_false_iff.mpr c48
        subst c48
        have H1 : (some (0, 0, (⟨#[]⟩ : ByteArray), false, t269, t270)) = some (r1, r2, r3, r4, r5, r6) := by rw [if_neg (show ¬ (false = true) by decide)] at H; exact H
        clear H
        have H := H1
        clear H1
        simp only [Option.some.injEq, Prod.mk.injEq] at H
        obtain ⟨rfl, rfl, rfl, rfl, rfl, rfl⟩ := H
        go_enter Tryd.func32, Tryd.ntmps32
        go_wp2_with (first | ((with_reducible refine gate_dst (N := 2) rfl ?_); refine box_event ?hg (N := 2) ?hd (cs := #[.int .i64 0, .int .i64 0, .string (⟨#[]⟩ : ByteArray)]) (t := 23) ?hr ?_; (case hd => rfl); (case hg => rfl); (case hr => first | (go_simp; done) | (go_simp; rfl)); intro gb259 hg w62 hbox hb; have n0_ := Aside0.mk (IsS53.below (by repeat (first | (with_reducible first | exact HI0.out | apply IsS53.alloc | apply IsS53.drewN | apply IsS53.drew | apply IsS53.set_0 | apply IsS53.set_1) | exact HI0.out)) hb); have n1_ := Aside0.mk (KeepBut.trans (by repeat (first | (with_reducible first | exact HK.out | apply KeepBut.set_ | apply keep_drewN | apply keep_drew | apply keep_alloc) | exact HK.out)) (KeepBut.of_below hb g none) (.inl rfl)); have n2_ := Aside0.mk (below_step (by repeat (first | (with_reducible first | exact HB.out | apply below_alloc | apply pw_below_drewN | apply below_drew1 | refine below_set ?_ (IsS53.ge HI0.out)) | exact HB.out)) hb); have n3_ := Aside0.mk (hbox); have n4_ := Aside0.mk ((by rw [hg]; exact (keep_size (w := w) (g := g) (row := none) (by repeat (first | (with_reducible first | exact HK.out | apply KeepBut.set_ | apply keep_drewN | apply keep_drew | apply keep_alloc) | exact HK.out))) : w.heap.size ≤ gb259)); have n5_ := Aside0.mk ((Nat.le_trans HW0.out (by rw [hg]; exact (keep_size (w := w) (g := g) (row := none) (by repeat (first | (with_reducible first | exact HK.out | apply KeepBut.set_ | apply keep_drewN | apply keep_drew | apply keep_alloc) | exact HK.out))) : w.heap.size ≤ gb259) : w0.heap.size ≤ gb259)); have n6_ := Aside0.mk ((by rw [hg]; exact Nat.ne_of_lt (IsS53.lt (show IsS53 w0 _ g s0_0 s0_1 from by repeat (first | (with_reducible first | exact HI0.out | apply IsS53.alloc | apply IsS53.drewN | apply IsS53.drew | apply IsS53.set_0 | apply IsS53.set_1) | exact HI0.out))) : g ≠ gb259)); have n7_ := Aside0.mk ((by rw [hg]; exact Nat.ne_of_gt (IsS53.lt (show IsS53 w0 _ g s0_0 s0_1 from by repeat (first | (with_reducible first | exact HI0.out | apply IsS53.alloc | apply IsS53.drewN | apply IsS53.drew | apply IsS53.set_0 | apply IsS53.set_1) | exact HI0.out))) : gb259 ≠ g)); clear HI0; clear HK; clear HB; have HI0 := n0_; have HK := n1_; have HB := n2_; have BK259 := n3_; have GW259 := n4_; have GE259 := n5_; have NB0_259 := n6_; have NB259_0 := n7_; clear n0_ n1_ n2_ n3_ n4_ n5_ n6_ n7_; clear hb hbox hg) | ((with_reducible refine gate_callee (f := 61) rfl ?_); refine goesL_ (some 7) rfl rfl Tryd.func61 (by kernel_rfl) rfl #[.pointer (some ⟨g, 0, none⟩)] rfl (by (try simp only [List.map_toArray, List.map_cons, List.map_nil]); first | done | rfl | (simp only [List.length_drop, List.length_take]; rfl)) ?_; (with_reducible refine (wherryref01_Reader_Byte.calls g s0_0 s0_1 t260 t261 t262 w0 _ ?side1 ?side2 A2.out).mono ?_); (case side1 => repeat (first | (with_reducible first | exact HI0.out | apply IsS53.alloc | apply IsS53.drewN | apply IsS53.drew | apply IsS53.set_0 | apply IsS53.set_1 | refine IsS53.far ?_ NB0_259.out _) | exact HI0.out)); (case side2 => repeat (first | (with_reducible first | exact HB.out | apply below_alloc | apply pw_below_drewN | apply below_drew1 | refine below_set ?_ (IsS53.ge HI0.out) | refine below_set ?_ GE259.out) | exact HB.out)); rintro e w63 ⟨rfl, hi, hb, hk⟩; refine ⟨_, rfl, ?_⟩; have n0_ := Aside0.mk (KeepBut.blk hk (g' := gb259) (o := .cells #[.int .i64 0, .int .i64 0, .string (⟨#[]⟩ : ByteArray)] 23 (0, 0)) (by (with_reducible repeat (first | refine blk_drewN ?_ _ | refine blk_drew ?_ | refine blk_alloc ?_ _)); exact BK259.out) NB259_0.out (by simp)); have n1_ := Aside0.mk (KeepBut.trans (by repeat (first | (with_reducible first | exact HK.out | apply KeepBut.set_ | apply keep_drewN | apply keep_drew | apply keep_alloc | refine keep_far ?_ GW259.out _) | exact HK.out)) hk (.inl rfl)); have n2_ := Aside0.mk (hb); have n3_ := Aside0.mk (hi); clear BK259; clear HK; clear HB; clear HI0; have BK259 := n0_; have HK := n1_; have HB := n2_; have HI0 := n3_; clear n0_ n1_ n2_ n3_; (try clear hb); (try clear hb2); (try clear hk); (try clear hi)) | ((with_reducible refine gate_dst (N := 4) rfl ?_); refine box_event ?hg (N := 4) ?hd (cs := #[.int .i64 0, .int .i64 0, .string (⟨#[]⟩ : ByteArray)]) (t := 23) ?hr ?_; (case hd => rfl); (case hg => rfl); (case hr => first | (go_simp; done) | (go_simp; rfl)); intro gb263 hg w64 hbox hb; have n0_ := Aside0.mk (IsS53.below (by repeat (first | (with_reducible first | exact HI0.out | apply IsS53.alloc | apply IsS53.drewN | apply IsS53.drew | apply IsS53.set_0 | apply IsS53.set_1 | refine IsS53.far ?_ NB0_259.out _) | exact HI0.out)) hb); have n1_ := Aside0.mk (blk_below (g := gb259) (o := .cells #[.int .i64 0, .int .i64 0, .string (⟨#[]⟩ : ByteArray)] 23 (0, 0)) (by (with_reducible repeat (first | refine blk_drewN ?_ _ | refine blk_drew ?_ | refine blk_alloc ?_ _)); exact BK259.out) hb); have n2_ := Aside0.mk (KeepBut.trans (by repeat (first | (with_reducible first | exact HK.out | apply KeepBut.set_ | apply keep_drewN | apply keep_drew | apply keep_alloc | refine keep_far ?_ GW259.out _) | exact HK.out)) (KeepBut.of_below hb g none) (.inl rfl)); have n3_ := Aside0.mk (below_step (by repeat (first | (with_reducible first | exact HB.out | apply below_alloc | apply pw_below_drewN | apply below_drew1 | refine below_set ?_ (IsS53.ge HI0.out) | refine below_set ?_ GE259.out) | exact HB.out)) hb); have n4_ := Aside0.mk (hbox); have n5_ := Aside0.mk ((by rw [hg]; exact (keep_size (w := w) (g := g) (row := none) (by repeat (first | (with_reducible first | exact HK.out | apply KeepBut.set_ | apply keep_drewN | apply keep_drew | apply keep_alloc | refine keep_far ?_ GW259.out _) | exact HK.out))) : w.heap.size ≤ gb263)); have n6_ := Aside0.mk ((Nat.le_trans HW0.out (by rw [hg]; exact (keep_size (w := w) (g := g) (row := none) (by repeat (first | (with_reducible first | exact HK.out | apply KeepBut.set_ | apply keep_drewN | apply keep_drew | apply keep_alloc | refine keep_far ?_ GW259.out _) | exact HK.out))) : w.heap.size ≤ gb263) : w0.heap.size ≤ gb263)); have n7_ := Aside0.mk ((by rw [hg]; exact Nat.ne_of_lt (blk_lt (g := gb259) (o := .cells #[.int .i64 0, .int .i64 0, .string (⟨#[]⟩ : ByteArray)] 23 (0, 0)) (by (with_reducible repeat (first | refine blk_drewN ?_ _ | refine blk_drew ?_ | refine blk_alloc ?_ _)); exact BK259.out)) : gb259 ≠ gb263)); have n8_ := Aside0.mk ((by rw [hg]; exact Nat.ne_of_gt (blk_lt (g := gb259) (o := .cells #[.int .i64 0, .int .i64 0, .string (⟨#[]⟩ : ByteArray)] 23 (0, 0)) (by (with_reducible repeat (first | refine blk_drewN ?_ _ | refine blk_drew ?_ | refine blk_alloc ?_ _)); exact BK259.out)) : gb263 ≠ gb259)); have n9_ := Aside0.mk ((by rw [hg]; exact Nat.ne_of_lt (IsS53.lt (show IsS53 w0 _ g t261 t262 from by repeat (first | (with_reducible first | exact HI0.out | apply IsS53.alloc | apply IsS53.drewN | apply IsS53.drew | apply IsS53.set_0 | apply IsS53.set_1 | refine IsS53.far ?_ NB0_259.out _) | exact HI0.out))) : g ≠ gb263)); have n10_ := Aside0.mk ((by rw [hg]; exact Nat.ne_of_gt (IsS53.lt (show IsS53 w0 _ g t261 t262 from by repeat (first | (with_reducible first | exact HI0.out | apply IsS53.alloc | apply IsS53.drewN | apply IsS53.drew | apply IsS53.set_0 | apply IsS53.set_1 | refine IsS53.far ?_ NB0_259.out _) | exact HI0.out))) : gb263 ≠ g)); clear HI0; clear BK259; clear HK; clear HB; have HI0 := n0_; have BK259 := n1_; have HK := n2_; have HB := n3_; have BK263 := n4_; have GW263 := n5_; have GE263 := n6_; have NB259_263 := n7_; have NB263_259 := n8_; have NB0_263 := n9_; have NB263_0 := n10_; clear n0_ n1_ n2_ n3_ n4_ n5_ n6_ n7_ n8_ n9_ n10_; clear hb hbox hg; have hnb65 := NB263_259.out; have hnc65 := NB259_263.out; have hnb66 := NB263_0.out; have hnc66 := NB0_263.out; have hcz67_0 : w64.cell? ⟨gb263, 0, none⟩ = some (.int .i64 0) := (blk_cell BK263.out 0).trans rfl; have hcz67_1 : w64.cell? ⟨gb263, 1, none⟩ = some (.int .i64 0) := (blk_cell BK263.out 1).trans rfl; have hcz67_2 : w64.cell? ⟨gb263, 2, none⟩ = some (.string (⟨#[]⟩ : ByteArray)) := (blk_cell BK263.out 2).trans rfl; have hfz67_0 := blk_frozen BK263.out 0; have hfz67_1 := blk_frozen BK263.out 1; have hfz67_2 := blk_frozen BK263.out 2) | ((with_reducible refine gate_callee (f := 63) rfl ?_); refine goesL_ (some 17) rfl rfl Tryd.func63 (by kernel_rfl) rfl #[.pointer (some ⟨g, 0, none⟩)] rfl (by (try simp only [List.map_toArray, List.map_cons, List.map_nil]); first | done | rfl | (simp only [List.length_drop, List.length_take]; rfl)) ?_; (with_reducible refine (wherryref01_Reader_Int.calls g t261 t262 t268 t269 t270 w0 _ ?side1 ?side2 A45.out).mono ?_); (case side1 => repeat (first | (with_reducible first | exact HI0.out | apply IsS53.alloc | apply IsS53.drewN | apply IsS53.drew | apply IsS53.set_0 | apply IsS53.set_1 | refine IsS53.far ?_ NB0_259.out _ | refine IsS53.far ?_ NB0_263.out _) | exact HI0.out)); (case side2 => repeat (first | (with_reducible first | exact HB.out | apply below_alloc | apply pw_below_drewN | apply below_drew1 | refine below_set ?_ (IsS53.ge HI0.out) | refine below_set ?_ GE259.out | refine below_set ?_ GE263.out) | exact HB.out)); rintro e w68 ⟨rfl, hi, hb, hk⟩; refine ⟨_, rfl, ?_⟩; have n0_ := Aside0.mk (KeepBut.blk hk (g' := gb259) (o := .cells #[.int .i64 0, .int .i64 0, .string (⟨#[]⟩ : ByteArray)] 23 (0, 0)) (by (with_reducible repeat (first | refine blk_drewN ?_ _ | refine blk_drew ?_ | refine blk_alloc ?_ _)); refine blk_far ?_ NB259_263.out _; (with_reducible repeat (first | refine blk_drewN ?_ _ | refine blk_drew ?_ | refine blk_alloc ?_ _)); refine blk_far ?_ NB259_263.out _; (with_reducible repeat (first | refine blk_drewN ?_ _ | refine blk_drew ?_ | refine blk_alloc ?_ _)); refine blk_far ?_ NB259_263.out _; (with_reducible repeat (first | refine blk_drewN ?_ _ | refine blk_drew ?_ | refine blk_alloc ?_ _)); exact BK259.out) NB259_0.out (by simp)); have n1_ := Aside0.mk (KeepBut.blk hk (g' := gb263) (o := .cells #[.int .i64 (wrap64 (t260)), .int .i64 0, .string (⟨#[]⟩ : ByteArray)] 23 (0, 0)) (by (with_reducible repeat (first | refine blk_drewN ?_ _ | refine blk_drew ?_ | refine blk_alloc ?_ _)); refine blk_put (cs := #[.int .i64 (wrap64 (t260)), .int .i64 0, .string (⟨#[]⟩ : ByteArray)]) ?_ 2 _ rfl; (with_reducible repeat (first | refine blk_drewN ?_ _ | refine blk_drew ?_ | refine blk_alloc ?_ _)); refine blk_put (cs := #[.int .i64 (wrap64 (t260)), .int .i64 0, .string (⟨#[]⟩ : ByteArray)]) ?_ 1 _ rfl; (with_reducible repeat (first | refine blk_drewN ?_ _ | refine blk_drew ?_ | refine blk_alloc ?_ _)); refine blk_put (cs := #[.int .i64 0, .int .i64 0, .string (⟨#[]⟩ : ByteArray)]) ?_ 0 _ rfl; (with_reducible repeat (first | refine blk_drewN ?_ _ | refine blk_drew ?_ | refine blk_alloc ?_ _)); exact BK263.out) NB263_0.out (by simp)); have n2_ := Aside0.mk (KeepBut.trans (by repeat (first | (with_reducible first | exact HK.out | apply KeepBut.set_ | apply keep_drewN | apply keep_drew | apply keep_alloc | refine keep_far ?_ GW259.out _ | refine keep_far ?_ GW263.out _) | exact HK.out)) hk (.inl rfl)); have n3_ := Aside0.mk (hb); have n4_ := Aside0.mk (hi); clear BK259; clear BK263; clear HK; clear HB; clear HI0; have BK259 := n0_; have BK263 := n1_; have HK := n2_; have HB := n3_; have HI0 := n4_; clear n0_ n1_ n2_ n3_ n4_; (try clear hb); (try clear hb2); (try clear hk); (try clear hi); have hcz69_0 : w68.cell? ⟨gb263, 0, none⟩ = some (.int .i64 (wrap64 (t260))) := (blk_cell BK263.out 0).trans rfl; have hcz69_1 : w68.cell? ⟨gb263, 1, none⟩ = some (.int .i64 0) := (blk_cell BK263.out 1).trans rfl; have hcz69_2 : w68.cell? ⟨gb263, 2, none⟩ = some (.string (⟨#[]⟩ : ByteArray)) := (blk_cell BK263.out 2).trans rfl; have hfz69_0 := blk_frozen BK263.out 0; have hfz69_1 := blk_frozen BK263.out 1; have hfz69_2 := blk_frozen BK263.out 2) | ((with_reducible refine gate_callee (f := 11) rfl ?_); refine goesL_ (some 20) rfl rfl Tryd.func11 (by kernel_rfl) rfl #[.agg #[.int .i64 (wrap64 (t260)), .int .i64 t268, .string (⟨#[]⟩ : ByteArray)]] rfl (by (try simp only [List.map_toArray, List.map_cons, List.map_nil]); first | done | rfl | (simp only [List.length_drop, List.length_take]; rfl)) ?_; (with_reducible refine (wherryref09_May.calls (wrap64 (t260)) t268 (⟨#[]⟩ : ByteArray) false _ A46.out).mono ?_); rintro e w70 ⟨rfl, hb⟩; refine ⟨_, rfl, ?_⟩; have n0_ := Aside0.mk (IsS53.below (show IsS53 w0 (w68.setCell ⟨gb263, 1, none⟩ (.int .i64 t268)) g t269 t270 from by repeat (first | (with_reducible first | exact HI0.out | apply IsS53.alloc | apply IsS53.drewN | apply IsS53.drew | apply IsS53.set_0 | apply IsS53.set_1 | refine IsS53.far ?_ NB0_259.out _ | refine IsS53.far ?_ NB0_263.out _) | exact HI0.out)) hb); have n1_ := Aside0.mk (blk_below (g := gb259) (o := .cells #[.int .i64 0, .int .i64 0, .string (⟨#[]⟩ : ByteArray)] 23 (0, 0)) (by (with_reducible repeat (first | refine blk_drewN ?_ _ | refine blk_drew ?_ | refine blk_alloc ?_ _)); refine blk_far ?_ NB259_263.out _; (with_reducible repeat (first | refine blk_drewN ?_ _ | refine blk_drew ?_ | refine blk_alloc ?_ _)); exact BK259.out) hb); have n2_ := Aside0.mk (blk_below (g := gb263) (o := .cells #[.int .i64 (wrap64 (t260)), .int .i64 t268, .string (⟨#[]⟩ : ByteArray)] 23 (0, 0)) (by (with_reducible repeat (first | refine blk_drewN ?_ _ | refine blk_drew ?_ | refine blk_alloc ?_ _)); refine blk_put (cs := #[.int .i64 (wrap64 (t260)), .int .i64 0, .string (⟨#[]⟩ : ByteArray)]) ?_ 1 _ rfl; (with_reducible repeat (first | refine blk_drewN ?_ _ | refine blk_drew ?_ | refine blk_alloc ?_ _)); exact BK263.out) hb); have n3_ := Aside0.mk (KeepBut.trans (by repeat (first | (with_reducible first | exact HK.out | apply KeepBut.set_ | apply keep_drewN | apply keep_drew | apply keep_alloc | refine keep_far ?_ GW259.out _ | refine keep_far ?_ GW263.out _) | exact HK.out)) (KeepBut.of_below hb g none) (.inl rfl)); have n4_ := Aside0.mk (below_step (by repeat (first | (with_reducible first | exact HB.out | apply below_alloc | apply pw_below_drewN | apply below_drew1 | refine below_set ?_ (IsS53.ge HI0.out) | refine below_set ?_ GE259.out | refine below_set ?_ GE263.out) | exact HB.out)) hb); clear HI0; clear BK259; clear BK263; clear HK; clear HB; have HI0 := n0_; have BK259 := n1_; have BK263 := n2_; have HK := n3_; have HB := n4_; clear n0_ n1_ n2_ n3_ n4_; (try clear hb); (try clear hb2); (try clear hk); (try clear hi); obtain ⟨HGz71, hgz71⟩ := HI0.out; have hcz71_0 := cellS53_0 HGz71; have hcz71_1 := cellS53_1 HGz71; have hfz71_0 := blk_frozen HGz71 0; have hfz71_1 := blk_frozen HGz71 1; clear HGz71 hgz71; have hnb72 := NB259_0.out; have hnc72 := NB0_259.out; have hcz73_0 : w70.cell? ⟨gb259, 0, none⟩ = some (.int .i64 0) := (blk_cell BK259.out 0).trans rfl; have hcz73_1 : w70.cell? ⟨gb259, 1, none⟩ = some (.int .i64 0) := (blk_cell BK259.out 1).trans rfl; have hcz73_2 : w70.cell? ⟨gb259, 2, none⟩ = some (.string (⟨#[]⟩ : ByteArray)) := (blk_cell BK259.out 2).trans rfl; have hfz73_0 := blk_frozen BK259.out 0; have hfz73_1 := blk_frozen BK259.out 1; have hfz73_2 := blk_frozen BK259.out 2))
        refine bodyPost_ret (results_ct rfl _ _ gb259 23 #[.int .i64 0, .int .i64 0, .string (⟨#[]⟩ : ByteArray)] (0, 0) _ rfl (by (with_reducible repeat (first | refine blk_drewN ?_ _ | refine blk_drew ?_ | refine blk_alloc ?_ _)); refine blk_put (cs := #[.int .i64 0, .int .i64 0, .string (⟨#[]⟩ : ByteArray)]) ?_ 2 _ rfl; (with_reducible repeat (first | refine blk_drewN ?_ _ | refine blk_drew ?_ | refine blk_alloc ?_ _)); refine blk_put (cs := #[.int .i64 0, .int .i64 0, .string (⟨#[]⟩ : ByteArray)]) ?_ 1 _ rfl; (with_reducible repeat (first | refine blk_drewN ?_ _ | refine blk_drew ?_ | refine blk_alloc ?_ _)); refine blk_put (cs := #[.int .i64 0, .int .i64 0, .string (⟨#[]⟩ : ByteArray)]) ?_ 0 _ rfl; (with_reducible repeat (first | refine blk_drewN ?_ _ | refine blk_drew ?_ | refine blk_alloc ?_ _)); exact BK259.out) Tryd.underlying23 rfl (by kernel_rfl)) rfl ?_
        exact ⟨by first | rfl | (simp [errW_none, errW_some] <;> rfl) | (simp [*, errW_none, errW_some] <;> rfl), by repeat (first | (with_reducible first | exact HI0.out | apply IsS53.alloc | apply IsS53.drewN | apply IsS53.drew | apply IsS53.set_0 | apply IsS53.set_1 | refine IsS53.far ?_ NB0_259.out _ | refine IsS53.far ?_ NB0_263.out _) | exact HI0.out), by repeat (first | (with_reducible first | exact HB.out | apply below_alloc | apply pw_below_drewN | apply below_drew1 | refine below_set ?_ (IsS53.ge HI0.out) | refine below_set ?_ GE259.out | refine below_set ?_ GE263.out) | exact HB.out), by repeat (first | (with_reducible first | exact HK.out | apply KeepBut.set_ | apply keep_drewN | apply keep_drew | apply keep_alloc | refine keep_far ?_ GW259.out _ | refine keep_far ?_ GW263.out _) | exact HK.out)⟩
    · rw [if_neg c47] at H
      have c47b0 : (t270 == 0) = false := beq_eq_false_iff_ne.mpr c47
      have c47b1 : (t270 != 0) = true := bne_iff_ne.mpr c47
      simp only [Option.some.injEq, Prod.mk.injEq] at H
      obtain ⟨rfl, rfl, rfl, rfl, rfl, rfl⟩ := H
      go_enter Tryd.func32, Tryd.ntmps32
      go_wp2_with (first | ((with_reducible refine gate_dst (N := 2) rfl ?_); refine box_event ?hg (N := 2) ?hd (cs := #[.int .i64 0, .int .i64 0, .string (⟨#[]⟩ : ByteArray)]) (t := 23) ?hr ?_; (case hd => rfl); (case hg => rfl); (case hr => first | (go_simp; done) | (go_simp; rfl)); intro gb259 hg w74 hbox hb; have n0_ := Aside0.mk (IsS53.below (by repeat (first | (with_reducible first | exact HI0.out | apply IsS53.alloc | apply IsS53.drewN | apply IsS53.drew | apply IsS53.set_0 | apply IsS53.set_1) | exact HI0.out)) hb); have n1_ := Aside0.mk (KeepBut.trans (by repeat (first | (with_reducible first | exact HK.out | apply KeepBut.set_ | apply keep_drewN | apply keep_drew | apply keep_alloc) | exact HK.out)) (KeepBut.of_below hb g none) (.inl rfl)); have n2_ := Aside0.mk (below_step (by repeat (first | (with_reducible first | exact HB.out | apply below_alloc | apply pw_below_drewN | apply below_drew1 | refine below_set ?_ (IsS53.ge HI0.out)) | exact HB.out)) hb); have n3_ := Aside0.mk (hbox); have n4_ := Aside0.mk ((by rw [hg]; exact (keep_size (w := w) (g := g) (row := none) (by repeat (first | (with_reducible first | exact HK.out | apply KeepBut.set_ | apply keep_drewN | apply keep_drew | apply keep_alloc) | exact HK.out))) : w.heap.size ≤ gb259)); have n5_ := Aside0.mk ((Nat.le_trans HW0.out (by rw [hg]; exact (keep_size (w := w) (g := g) (row := none) (by repeat (first | (with_reducible first | exact HK.out | apply KeepBut.set_ | apply keep_drewN | apply keep_drew | apply keep_alloc) | exact HK.out))) : w.heap.size ≤ gb259) : w0.heap.size ≤ gb259)); have n6_ := Aside0.mk ((by rw [hg]; exact Nat.ne_of_lt (IsS53.lt (show IsS53 w0 _ g s0_0 s0_1 from by repeat (first | (with_reducible first | exact HI0.out | apply IsS53.alloc | apply IsS53.drewN | apply IsS53.drew | apply IsS53.set_0 | apply IsS53.set_1) | exact HI0.out))) : g ≠ gb259)); have n7_ := Aside0.mk ((by rw [hg]; exact Nat.ne_of_gt (IsS53.lt (show IsS53 w0 _ g s0_0 s0_1 from by repeat (first | (with_reducible first | exact HI0.out | apply IsS53.alloc | apply IsS53.drewN | apply IsS53.drew | apply IsS53.set_0 | apply IsS53.set_1) | exact HI0.out))) : gb259 ≠ g)); clear HI0; clear HK; clear HB; have HI0 := n0_; have HK := n1_; have HB := n2_; have BK259 := n3_; have GW259 := n4_; have GE259 := n5_; have NB0_259 := n6_; have NB259_0 := n7_; clear n0_ n1_ n2_ n3_ n4_ n5_ n6_ n7_; clear hb hbox hg) | ((with_reducible refine gate_callee (f := 61) rfl ?_); refine goesL_ (some 7) rfl rfl Tryd.func61 (by kernel_rfl) rfl #[.pointer (some ⟨g, 0, none⟩)] rfl (by (try simp only [List.map_toArray, List.map_cons, List.map_nil]); first | done | rfl | (simp only [List.length_drop, List.length_take]; rfl)) ?_; (with_reducible refine (wherryref01_Reader_Byte.calls g s0_0 s0_1 t260 t261 t262 w0 _ ?side1 ?side2 A2.out).mono ?_); (case side1 => repeat (first | (with_reducible first | exact HI0.out | apply IsS53.alloc | apply IsS53.drewN | apply IsS53.drew | apply IsS53.set_0 | apply IsS53.set_1 | refine IsS53.far ?_ NB0_259.out _) | exact HI0.out)); (case side2 => repeat (first | (with_reducible first | exact HB.out | apply below_alloc | apply pw_below_drewN | apply below_drew1 | refine below_set ?_ (IsS53.ge HI0.out) | refine below_set ?_ GE259.out) | exact HB.out)); rintro e w75 ⟨rfl, hi, hb, hk⟩; refine ⟨_, rfl, ?_⟩; have n0_ := Aside0.mk (KeepBut.blk hk (g' := gb259) (o := .cells #[.int .i64 0, .int .i64 0, .string (⟨#[]⟩ : ByteArray)] 23 (0, 0)) (by (with_reducible repeat (first | refine blk_drewN ?_ _ | refine blk_drew ?_ | refine blk_alloc ?_ _)); exact BK259.out) NB259_0.out (by simp)); have n1_ := Aside0.mk (KeepBut.trans (by repeat (first | (with_reducible first | exact HK.out | apply KeepBut.set_ | apply keep_drewN | apply keep_drew | apply keep_alloc | refine keep_far ?_ GW259.out _) | exact HK.out)) hk (.inl rfl)); have n2_ := Aside0.mk (hb); have n3_ := Aside0.mk (hi); clear BK259; clear HK; clear HB; clear HI0; have BK259 := n0_; have HK := n1_; have HB := n2_; have HI0 := n3_; clear n0_ n1_ n2_ n3_; (try clear hb); (try clear hb2); (try clear hk); (try clear hi)) | ((with_reducible refine gate_dst (N := 4) rfl ?_); refine box_event ?hg (N := 4) ?hd (cs := #[.int .i64 0, .int .i64 0, .string (⟨#[]⟩ : ByteArray)]) (t := 23) ?hr ?_; (case hd => rfl); (case hg => rfl); (case hr => first | (go_simp; done) | (go_simp; rfl)); intro gb263 hg w76 hbox hb; have n0_ := Aside0.mk (IsS53.below (by repeat (first | (with_reducible first | exact HI0.out | apply IsS53.alloc | apply IsS53.drewN | apply IsS53.drew | apply IsS53.set_0 | apply IsS53.set_1 | refine IsS53.far ?_ NB0_259.out _) | exact HI0.out)) hb); have n1_ := Aside0.mk (blk_below (g := gb259) (o := .cells #[.int .i64 0, .int .i64 0, .string (⟨#[]⟩ : ByteArray)] 23 (0, 0)) (by (with_reducible repeat (first | refine blk_drewN ?_ _ | refine blk_drew ?_ | refine blk_alloc ?_ _)); exact BK259.out) hb); have n2_ := Aside0.mk (KeepBut.trans (by repeat (first | (with_reducible first | exact HK.out | apply KeepBut.set_ | apply keep_drewN | apply keep_drew | apply keep_alloc | refine keep_far ?_ GW259.out _) | exact HK.out)) (KeepBut.of_below hb g none) (.inl rfl)); have n3_ := Aside0.mk (below_step (by repeat (first | (with_reducible first | exact HB.out | apply below_alloc | apply pw_below_drewN | apply below_drew1 | refine below_set ?_ (IsS53.ge HI0.out) | refine below_set ?_ GE259.out) | exact HB.out)) hb); have n4_ := Aside0.mk (hbox); have n5_ := Aside0.mk ((by rw [hg]; exact (keep_size (w := w) (g := g) (row := none) (by repeat (first | (with_reducible first | exact HK.out | apply KeepBut.set_ | apply keep_drewN | apply keep_drew | apply keep_alloc | refine keep_far ?_ GW259.out _) | exact HK.out))) : w.heap.size ≤ gb263)); have n6_ := Aside0.mk ((Nat.le_trans HW0.out (by rw [hg]; exact (keep_size (w := w) (g := g) (row := none) (by repeat (first | (with_reducible first | exact HK.out | apply KeepBut.set_ | apply keep_drewN | apply keep_drew | apply keep_alloc | refine keep_far ?_ GW259.out _) | exact HK.out))) : w.heap.size ≤ gb263) : w0.heap.size ≤ gb263)); have n7_ := Aside0.mk ((by rw [hg]; exact Nat.ne_of_lt (blk_lt (g := gb259) (o := .cells #[.int .i64 0, .int .i64 0, .string (⟨#[]⟩ : ByteArray)] 23 (0, 0)) (by (with_reducible repeat (first | refine blk_drewN ?_ _ | refine blk_drew ?_ | refine blk_alloc ?_ _)); exact BK259.out)) : gb259 ≠ gb263)); have n8_ := Aside0.mk ((by rw [hg]; exact Nat.ne_of_gt (blk_lt (g := gb259) (o := .cells #[.int .i64 0, .int .i64 0, .string (⟨#[]⟩ : ByteArray)] 23 (0, 0)) (by (with_reducible repeat (first | refine blk_drewN ?_ _ | refine blk_drew ?_ | refine blk_alloc ?_ _)); exact BK259.out)) : gb263 ≠ gb259)); have n9_ := Aside0.mk ((by rw [hg]; exact Nat.ne_of_lt (IsS53.lt (show IsS53 w0 _ g t261 t262 from by repeat (first | (with_reducible first | exact HI0.out | apply IsS53.alloc | apply IsS53.drewN | apply IsS53.drew | apply IsS53.set_0 | apply IsS53.set_1 | refine IsS53.far ?_ NB0_259.out _) | exact HI0.out))) : g ≠ gb263)); have n10_ := Aside0.mk ((by rw [hg]; exact Nat.ne_of_gt (IsS53.lt (show IsS53 w0 _ g t261 t262 from by repeat (first | (with_reducible first | exact HI0.out | apply IsS53.alloc | apply IsS53.drewN | apply IsS53.drew | apply IsS53.set_0 | apply IsS53.set_1 | refine IsS53.far ?_ NB0_259.out _) | exact HI0.out))) : gb263 ≠ g)); clear HI0; clear BK259; clear HK; clear HB; have HI0 := n0_; have BK259 := n1_; have HK := n2_; have HB := n3_; have BK263 := n4_; have GW263 := n5_; have GE263 := n6_; have NB259_263 := n7_; have NB263_259 := n8_; have NB0_263 := n9_; have NB263_0 := n10_; clear n0_ n1_ n2_ n3_ n4_ n5_ n6_ n7_ n8_ n9_ n10_; clear hb hbox hg; have hnb77 := NB263_259.out; have hnc77 := NB259_263.out; have hnb78 := NB263_0.out; have hnc78 := NB0_263.out; have hcz79_0 : w76.cell? ⟨gb263, 0, none⟩ = some (.int .i64 0) := (blk_cell BK263.out 0).trans rfl; have hcz79_1 : w76.cell? ⟨gb263, 1, none⟩ = some (.int .i64 0) := (blk_cell BK263.out 1).trans rfl; have hcz79_2 : w76.cell? ⟨gb263, 2, none⟩ = some (.string (⟨#[]⟩ : ByteArray)) := (blk_cell BK263.out 2).trans rfl; have hfz79_0 := blk_frozen BK263.out 0; have hfz79_1 := blk_frozen BK263.out 1; have hfz79_2 := blk_frozen BK263.out 2) | ((with_reducible refine gate_callee (f := 63) rfl ?_); refine goesL_ (some 17) rfl rfl Tryd.func63 (by kernel_rfl) rfl #[.pointer (some ⟨g, 0, none⟩)] rfl (by (try simp only [List.map_toArray, List.map_cons, List.map_nil]); first | done | rfl | (simp only [List.length_drop, List.length_take]; rfl)) ?_; (with_reducible refine (wherryref01_Reader_Int.calls g t261 t262 t268 t269 t270 w0 _ ?side1 ?side2 A45.out).mono ?_); (case side1 => repeat (first | (with_reducible first | exact HI0.out | apply IsS53.alloc | apply IsS53.drewN | apply IsS53.drew | apply IsS53.set_0 | apply IsS53.set_1 | refine IsS53.far ?_ NB0_259.out _ | refine IsS53.far ?_ NB0_263.out _) | exact HI0.out)); (case side2 => repeat (first | (with_reducible first | exact HB.out | apply below_alloc | apply pw_below_drewN | apply below_drew1 | refine below_set ?_ (IsS53.ge HI0.out) | refine below_set ?_ GE259.out | refine below_set ?_ GE263.out) | exact HB.out)); rintro e w80 ⟨rfl, hi, hb, hk⟩; refine ⟨_, rfl, ?_⟩; have n0_ := Aside0.mk (KeepBut.blk hk (g' := gb259) (o := .cells #[.int .i64 0, .int .i64 0, .string (⟨#[]⟩ : ByteArray)] 23 (0, 0)) (by (with_reducible repeat (first | refine blk_drewN ?_ _ | refine blk_drew ?_ | refine blk_alloc ?_ _)); refine blk_far ?_ NB259_263.out _; (with_reducible repeat (first | refine blk_drewN ?_ _ | refine blk_drew ?_ | refine blk_alloc ?_ _)); refine blk_far ?_ NB259_263.out _; (with_reducible repeat (first | refine blk_drewN ?_ _ | refine blk_drew ?_ | refine blk_alloc ?_ _)); refine blk_far ?_ NB259_263.out _; (with_reducible repeat (first | refine blk_drewN ?_ _ | refine blk_drew ?_ | refine blk_alloc ?_ _)); exact BK259.out) NB259_0.out (by simp)); have n1_ := Aside0.mk (KeepBut.blk hk (g' := gb263) (o := .cells #[.int .i64 (wrap64 (t260)), .int .i64 0, .string (⟨#[]⟩ : ByteArray)] 23 (0, 0)) (by (with_reducible repeat (first | refine blk_drewN ?_ _ | refine blk_drew ?_ | refine blk_alloc ?_ _)); refine blk_put (cs := #[.int .i64 (wrap64 (t260)), .int .i64 0, .string (⟨#[]⟩ : ByteArray)]) ?_ 2 _ rfl; (with_reducible repeat (first | refine blk_drewN ?_ _ | refine blk_drew ?_ | refine blk_alloc ?_ _)); refine blk_put (cs := #[.int .i64 (wrap64 (t260)), .int .i64 0, .string (⟨#[]⟩ : ByteArray)]) ?_ 1 _ rfl; (with_reducible repeat (first | refine blk_drewN ?_ _ | refine blk_drew ?_ | refine blk_alloc ?_ _)); refine blk_put (cs := #[.int .i64 0, .int .i64 0, .string (⟨#[]⟩ : ByteArray)]) ?_ 0 _ rfl; (with_reducible repeat (first | refine blk_drewN ?_ _ | refine blk_drew ?_ | refine blk_alloc ?_ _)); exact BK263.out) NB263_0.out (by simp)); have n2_ := Aside0.mk (KeepBut.trans (by repeat (first | (with_reducible first | exact HK.out | apply KeepBut.set_ | apply keep_drewN | apply keep_drew | apply keep_alloc | refine keep_far ?_ GW259.out _ | refine keep_far ?_ GW263.out _) | exact HK.out)) hk (.inl rfl)); have n3_ := Aside0.mk (hb); have n4_ := Aside0.mk (hi); clear BK259; clear BK263; clear HK; clear HB; clear HI0; have BK259 := n0_; have BK263 := n1_; have HK := n2_; have HB := n3_; have HI0 := n4_; clear n0_ n1_ n2_ n3_ n4_; (try clear hb); (try clear hb2); (try clear hk); (try clear hi); have hcz81_0 : w80.cell? ⟨gb263, 0, none⟩ = some (.int .i64 (wrap64 (t260))) := (blk_cell BK263.out 0).trans rfl; have hcz81_1 : w80.cell? ⟨gb263, 1, none⟩ = some (.int .i64 0) := (blk_cell BK263.out 1).trans rfl; have hcz81_2 : w80.cell? ⟨gb263, 2, none⟩ = some (.string (⟨#[]⟩ : ByteArray)) := (blk_cell BK263.out 2).trans rfl; have hfz81_0 := blk_frozen BK263.out 0; have hfz81_1 := blk_frozen BK263.out 1; have hfz81_2 := blk_frozen BK263.out 2) | ((with_reducible refine gate_callee (f := 11) rfl ?_); refine goesL_ (some 20) rfl rfl Tryd.func11 (by kernel_rfl) rfl #[.agg #[.int .i64 (wrap64 (t260)), .int .i64 t268, .string (⟨#[]⟩ : ByteArray)]] rfl (by (try simp only [List.map_toArray, List.map_cons, List.map_nil]); first | done | rfl | (simp only [List.length_drop, List.length_take]; rfl)) ?_; (with_reducible refine (wherryref09_May.calls (wrap64 (t260)) t268 (⟨#[]⟩ : ByteArray) t271 _ A46.out).mono ?_); rintro e w82 ⟨rfl, hb⟩; refine ⟨_, rfl, ?_⟩; have n0_ := Aside0.mk (IsS53.below (show IsS53 w0 (w80.setCell ⟨gb263, 1, none⟩ (.int .i64 t268)) g t269 t270 from by repeat (first | (with_reducible first | exact HI0.out | apply IsS53.alloc | apply IsS53.drewN | apply IsS53.drew | apply IsS53.set_0 | apply IsS53.set_1 | refine IsS53.far ?_ NB0_259.out _ | refine IsS53.far ?_ NB0_263.out _) | exact HI0.out)) hb); have n1_ := Aside0.mk (blk_below (g := gb259) (o := .cells #[.int .i64 0, .int .i64 0, .string (⟨#[]⟩ : ByteArray)] 23 (0, 0)) (by (with_reducible repeat (first | refine blk_drewN ?_ _ | refine blk_drew ?_ | refine blk_alloc ?_ _)); refine blk_far ?_ NB259_263.out _; (with_reducible repeat (first | refine blk_drewN ?_ _ | refine blk_drew ?_ | refine blk_alloc ?_ _)); exact BK259.out) hb); have n2_ := Aside0.mk (blk_below (g := gb263) (o := .cells #[.int .i64 (wrap64 (t260)), .int .i64 t268, .string (⟨#[]⟩ : ByteArray)] 23 (0, 0)) (by (with_reducible repeat (first | refine blk_drewN ?_ _ | refine blk_drew ?_ | refine blk_alloc ?_ _)); refine blk_put (cs := #[.int .i64 (wrap64 (t260)), .int .i64 0, .string (⟨#[]⟩ : ByteArray)]) ?_ 1 _ rfl; (with_reducible repeat (first | refine blk_drewN ?_ _ | refine blk_drew ?_ | refine blk_alloc ?_ _)); exact BK263.out) hb); have n3_ := Aside0.mk (KeepBut.trans (by repeat (first | (with_reducible first | exact HK.out | apply KeepBut.set_ | apply keep_drewN | apply keep_drew | apply keep_alloc | refine keep_far ?_ GW259.out _ | refine keep_far ?_ GW263.out _) | exact HK.out)) (KeepBut.of_below hb g none) (.inl rfl)); have n4_ := Aside0.mk (below_step (by repeat (first | (with_reducible first | exact HB.out | apply below_alloc | apply pw_below_drewN | apply below_drew1 | refine below_set ?_ (IsS53.ge HI0.out) | refine below_set ?_ GE259.out | refine below_set ?_ GE263.out) | exact HB.out)) hb); clear HI0; clear BK259; clear BK263; clear HK; clear HB; have HI0 := n0_; have BK259 := n1_; have BK263 := n2_; have HK := n3_; have HB := n4_; clear n0_ n1_ n2_ n3_ n4_; (try clear hb); (try clear hb2); (try clear hk); (try clear hi); obtain ⟨HGz83, hgz83⟩ := HI0.out; have hcz83_0 := cellS53_0 HGz83; have hcz83_1 := cellS53_1 HGz83; have hfz83_0 := blk_frozen HGz83 0; have hfz83_1 := blk_frozen HGz83 1; clear HGz83 hgz83; have hnb84 := NB259_0.out; have hnc84 := NB0_259.out; have hcz85_0 : w82.cell? ⟨gb259, 0, none⟩ = some (.int .i64 0) := (blk_cell BK259.out 0).trans rfl; have hcz85_1 : w82.cell? ⟨gb259, 1, none⟩ = some (.int .i64 0) := (blk_cell BK259.out 1).trans rfl; have hcz85_2 : w82.cell? ⟨gb259, 2, none⟩ = some (.string (⟨#[]⟩ : ByteArray)) := (blk_cell BK259.out 2).trans rfl; have hfz85_0 := blk_frozen BK259.out 0; have hfz85_1 := blk_frozen BK259.out 1; have hfz85_2 := blk_frozen BK259.out 2))
      refine bodyPost_ret (results_ct rfl _ _ gb259 23 #[.int .i64 0, .int .i64 0, .string (⟨#[]⟩ : ByteArray)] (0, 0) _ rfl (by (with_reducible repeat (first | refine blk_drewN ?_ _ | refine blk_drew ?_ | refine blk_alloc ?_ _)); refine blk_put (cs := #[.int .i64 0, .int .i64 0, .string (⟨#[]⟩ : ByteArray)]) ?_ 2 _ rfl; (with_reducible repeat (first | refine blk_drewN ?_ _ | refine blk_drew ?_ | refine blk_alloc ?_ _)); refine blk_put (cs := #[.int .i64 0, .int .i64 0, .string (⟨#[]⟩ : ByteArray)]) ?_ 1 _ rfl; (with_reducible repeat (first | refine blk_drewN ?_ _ | refine blk_drew ?_ | refine blk_alloc ?_ _)); refine blk_put (cs := #[.int .i64 0, .int .i64 0, .string (⟨#[]⟩ : ByteArray)]) ?_ 0 _ rfl; (with_reducible repeat (first | refine blk_drewN ?_ _ | refine blk_drew ?_ | refine blk_alloc ?_ _)); exact BK259.out) Tryd.underlying23 rfl (by kernel_rfl)) rfl ?_
      exact ⟨by first | rfl | (simp [errW_none, errW_some] <;> rfl) | (simp [*, errW_none, errW_some] <;> rfl), by repeat (first | (with_reducible first | exact HI0.out | apply IsS53.alloc | apply IsS53.drewN | apply IsS53.drew | apply IsS53.set_0 | apply IsS53.set_1 | refine IsS53.far ?_ NB0_259.out _ | refine IsS53.far ?_ NB0_263.out _) | exact HI0.out), by repeat (first | (with_reducible first | exact HB.out | apply below_alloc | apply pw_below_drewN | apply below_drew1 | refine below_set ?_ (IsS53.ge HI0.out) | refine below_set ?_ GE259.out | refine below_set ?_ GE263.out) | exact HB.out), by repeat (first | (with_reducible first | exact HK.out | apply KeepBut.set_ | apply keep_drewN | apply keep_drew | apply keep_alloc | refine keep_far ?_ GW259.out _ | refine keep_far ?_ GW263.out _) | exact HK.out)⟩
end Go.Proofs.YthhgfdejadbigaaDoor.GA
/-
  The reference's Take (chapter 9), as the program's: contract.
-/
set_option linter.unusedVariables false
set_option linter.unusedSimpArgs false
namespace Go.Proofs.YthhgfdejadbigaaDoor.GA
open Go Go.RowKit Go.Proofs.YthhgfdejadbigaaDoorW.PrintWords Go.Proofs.YthhgfdejadbigaaDoorW.PrintLast Go.Proofs.YthhgfdejadbigaaDoorW.PrintMore
open Go.Proofs.Base (rdByte rdInt rdText takeRaw takeOk takeV zeroV Mut)
theorem take_fin (s : ByteArray) (e : Nat) (k n : Int) (t z : ByteArray) (y : Nat) (h : takeRaw s e = (⟨k, n, t⟩, z, y)) :
    (if (y : Int) = 0 then (if Base.mayV k n t = true then (some (k, n, t, true, z, (y : Int))) else (some (0, 0, (⟨#[]⟩ : ByteArray), false, z, (y : Int)))) else (some (0, 0, (⟨#[]⟩ : ByteArray), false, z, (y : Int)))) = some ((takeV s e).k, (takeV s e).n, (takeV s e).s, takeOk s e, (takeRaw s e).2.1, ((takeRaw s e).2.2 : Int)) := by
  have hm : (⟨k, n, t⟩ : Base.GVal).may = Base.mayV k n t := rfl
  have hz : (zeroV.k, zeroV.n, zeroV.s) = ((0 : Int), (0 : Int), (⟨#[]⟩ : ByteArray)) := rfl
  unfold takeV takeOk
  rw [h]
  by_cases hy : y = 0
  · subst hy
    rw [if_pos (show ((0 : Nat) : Int) = 0 from rfl)]
    cases hq : Base.mayV k n t with
    | true =>
      rw [if_pos rfl, if_pos (by simp [hm, hq])]
      simp [hm, hq]
    | false =>
      rw [if_neg Bool.false_ne_true, if_neg (by simp [hm, hq])]
      simp only [Prod.mk.injEq] at hz
      simp [hm, hq, hz]
  · rw [if_neg (by omega), if_neg (by simp [hy])]
    simp only [Prod.mk.injEq] at hz
    simp [hy, hz]
theorem take_fT {s : ByteArray} {e : Nat} (h3 : (rdByte s e).1 = 3) : takeRaw s e = (⟨((3 : Nat) : Int), 0, (rdText 1024 (rdByte s e).2.1 (rdByte s e).2.2).1⟩, (rdText 1024 (rdByte s e).2.1 (rdByte s e).2.2).2.1, (rdText 1024 (rdByte s e).2.1 (rdByte s e).2.2).2.2) := by
  unfold takeRaw
  rw [if_pos h3]
  generalize rdText 1024 (rdByte s e).2.1 (rdByte s e).2.2 = q
  obtain ⟨q1, q2, q3⟩ := q
  exact rfl
theorem take_fI {s : ByteArray} {e : Nat} (h3 : ¬ (rdByte s e).1 = 3) : takeRaw s e = (⟨((rdByte s e).1 : Int), (rdInt (rdByte s e).2.1 (rdByte s e).2.2).1, (⟨#[]⟩ : ByteArray)⟩, (rdInt (rdByte s e).2.1 (rdByte s e).2.2).2.1, (rdInt (rdByte s e).2.1 (rdByte s e).2.2).2.2) := by
  unfold takeRaw
  rw [if_neg h3]
  generalize rdInt (rdByte s e).2.1 (rdByte s e).2.2 = q
  obtain ⟨q1, q2, q3⟩ := q
  exact rfl
theorem byte_g {s : ByteArray} {e : Nat} (hs : s.size ≤ 9223372036854775807) : wherryref01_Reader_Byte.f s (e : Int) = some (((rdByte s e).1 : Int), (rdByte s e).2.1, ((rdByte s e).2.2 : Int)) := by
  unfold wherryref01_Reader_Byte.f
  rw [if_pos ⟨Int.natCast_nonneg e, hs⟩, Int.toNat_natCast]
theorem int_g {s : ByteArray} {e : Nat} (hs : s.size ≤ 9223372036854775807) : wherryref01_Reader_Int.f s (e : Int) = some ((rdInt s e).1, (rdInt s e).2.1, ((rdInt s e).2.2 : Int)) := by
  unfold wherryref01_Reader_Int.f
  rw [if_pos ⟨Int.natCast_nonneg e, hs⟩, Int.toNat_natCast]
theorem text_g {s : ByteArray} {e : Nat} {a : Int} (ha : Base.i64 a) (hs : s.size ≤ 9223372036854775807) : wherryref01_Reader_Text.f s (e : Int) a = some ((rdText a s e).1, (rdText a s e).2.1, ((rdText a s e).2.2 : Int)) := by
  unfold wherryref01_Reader_Text.f
  rw [if_pos ⟨Int.natCast_nonneg e, hs, ha.1, ha.2⟩, Int.toNat_natCast]
theorem wrap_byte {n : Nat} (h : n < 256) : wrap64 (n : Int) = (n : Int) := by unfold wrap64; omega
theorem take_f {s : ByteArray} {e : Nat} (hs : s.size ≤ 9223372036854775807) : wherryref09_Take.f s (e : Int) = some ((takeV s e).k, (takeV s e).n, (takeV s e).s, takeOk s e, (takeRaw s e).2.1, ((takeRaw s e).2.2 : Int)) := by
  have hs1 : (rdByte s e).2.1.size ≤ 9223372036854775807 := Nat.le_trans (Base.rdByte_size s e) hs
  unfold wherryref09_Take.f
  rw [byte_g hs, Option.bind_some]
  dsimp only
  rw [wrap_byte (Base.rdByte_lt s e)]
  by_cases h3 : (rdByte s e).1 = 3
  · rw [h3, if_pos (show ((3 : Nat) : Int) = 3 from rfl), text_g (show Base.i64 1024 from ⟨by decide, by decide⟩) hs1, Option.bind_some]
    dsimp only
    rw [may_f, Option.bind_some]
    exact take_fin s e _ _ _ _ _ (take_fT h3)
  · rw [if_neg (fun x : ((rdByte s e).1 : Int) = 3 => h3 (by omega)), int_g hs1, Option.bind_some]
    dsimp only
    rw [may_f, Option.bind_some]
    exact take_fin s e _ _ _ _ _ (take_fI h3)
theorem elder (w : World) (g : Nat) (h : g < w.heap.size) : ∃ w0 : World, w0.heap.size = g ∧ Below w0.heap.size w0 w := by
  refine ⟨{ w with heap := w.heap.extract 0 g }, by simp; omega, rfl, rfl, rfl, by simp; omega, fun k hk => ?_⟩
  have hk' : k < g := by simp at hk; omega
  have hk2 : k < w.heap.size := by omega
  simp [Array.getElem?_extract, hk']
  omega
theorem ref_Take (g : Nat) (s : ByteArray) (e0 : Nat) (w : World) (hr : RdrR w g s e0) (hs : s.size ≤ 9223372036854775807) :
    Calls Tryd.prog 32 #[.pointer (some ⟨g, 0, none⟩)] w fun e w' => e = .returned (.tuple #[.agg #[.int .i64 (takeV s e0).k, .int .i64 (takeV s e0).n, .string (takeV s e0).s], .bool (takeOk s e0)]) ∧ RdrR w' g (takeRaw s e0).2.1 (takeRaw s e0).2.2 ∧ Mut (fun b => b = g) w w' := by
  obtain ⟨w0, h0, hB⟩ := elder w g hr.facts.2.2.2.2
  refine (wherryref09_Take.calls g s e0 _ _ _ _ _ _ w0 w ⟨hr, by omega⟩ hB (take_f hs)).mono ?_
  rintro e w' ⟨rfl, hI, hB', hK⟩
  exact ⟨rfl, hI.1, hB'.os.trans hB.os.symm, hB'.tape.trans hB.tape.symm, hB'.output.trans hB.output.symm, hK.1, fun b hb hn => hK.2 b hb hn (by simp)⟩
end Go.Proofs.YthhgfdejadbigaaDoor.GA
/-
  The walks of value: VarsBytes, Take, TakeVars.
-/
set_option linter.unusedVariables false
set_option linter.unusedSimpArgs false
namespace Go.Proofs.YthhgfdejadbigaaDoor
open Go Go.RowKit Go.Proofs.Base
open Go.Sort (grow)
set_option maxRecDepth 100000 in
set_option maxHeartbeats 2000000 in
theorem val_VarsBytes (S : Nat → Prop) (l : List GVar) (n : Nat) (v : Value) (w : World) (hl : l.length = n) (hr : Row w S 4 n v (varCells l)) (hw : ∀ x ∈ l, x.wf) :
    Calls Tryd.prog 27 #[v] w fun e w' => e = .returned (.string (varsB l)) ∧ Below w.heap.size w w' := by
  have hR := val_Right S l n v w hl hr hw
  obtain ⟨A, c, rfl, hnc, hc⟩ := hr.open_
  by_cases hm : rightV l = true
  · obtain ⟨h16, hall⟩ := rightV_all hm
    rw [hl] at h16
    have hv : varsB l = uintB n ++ varsCat (l.drop 0) := by unfold varsB; rw [if_pos hm, hl]; rfl
    simp only [hm] at hR
    have HV := Lib.hid hv
    have HR := Lib.hid hR
    have Hl := Lib.hid hl
    have Hr := Lib.hid hr
    have Hw := Lib.hid hw
    have Hall := Lib.hid hall
    have hu := uintB_size (v := n) (by omega)
    clear hv hR hl hr hw hall hm
    go_enter Tryd.func27, Tryd.ntmps27
    go_wp2_with (first | (go_at_call 21; refine HR.out.mono ?_; rintro e w1 ⟨rfl, hb1⟩) | (go_at_call 55; refine (wire_Uint _ _ (by omega) (by omega)).mono ?_; rintro e w2 ⟨rfl, hb2⟩))
    refine (bld_WriteString w1.heap.size w1.heap.size ByteArray.empty (uintB n) w2 ((Bld.new w1).kept hb2) (by rw [show ByteArray.empty.size = 0 from rfl]; omega) (by have := hb2.size; simp at this; omega)).mono ?_
    rintro e w3 ⟨rfl, hB3, hb3, hm3⟩
    have hbl3 : Below w.heap.size w w3 := by
      have h1 := below2 (below_alloc hb1 (.cells #[.pointer none, .slice none 0 0] 69)) hb2
      exact h1.trans (hb3.mono hb1.size)
    rw [empty_app] at hB3
    have hbs := hb1.size
    generalize w1.heap.size = b0 at *
    clear hm3 hb3 hb2 hb1
    go_wp2_with fail
    go_loopw [5, 16] (fun _ i wr => ∃ (k : Nat) (acc : ByteArray), k ≤ n ∧ i = .int .i64 k ∧ Bld wr b0 b0 acc ∧ acc.size ≤ 10 + k * 2000 ∧ Hid (varsB l = acc ++ varsCat (l.drop k)) ∧ Below w.heap.size w wr) (fun _ i _ => n - (intOf i).toNat)
    case atStart => exact ⟨0, uintB n, Nat.zero_le _, rfl, hB3, by omega, HV, hbl3⟩
    case round =>
      clear hB3 hbl3
      obtain ⟨k, acc, hk, rfl, hA, hacc, HK, HB⟩ := hrel
      by_cases hlt : k < n
      · have hkl : k < l.length := by rw [Hl.out]; exact hlt
        obtain ⟨b, o, rfl, hSb, hbl, hcell⟩ := Hr.out.at_ (by omega)
        obtain ⟨e0, e1, e2, e3⟩ := varCells_at hkl
        have c0 := (HB.cell (p := ⟨b, o + k * 4 + 0, none⟩) hbl).trans (hcell k 0 _ e0)
        have c1 := (HB.cell (p := ⟨b, o + k * 4 + 1, none⟩) hbl).trans (hcell k 1 _ e1)
        have c2 := (HB.cell (p := ⟨b, o + k * 4 + 2, none⟩) hbl).trans (hcell k 2 _ e2)
        have c3 := (HB.cell (p := ⟨b, o + k * 4 + 3, none⟩) hbl).trans (hcell k 3 _ e3)
        rw [Nat.add_zero] at c0
        have hwx := Hw.out _ (List.getElem_mem hkl)
        have hax := Hall.out _ (List.getElem_mem hkl)
        have hq := HK.out
        rw [List.drop_eq_getElem_cons hkl] at hq
        generalize l[k] = x at *
        obtain ⟨hwn, hwk, hwi, hws⟩ := hwx
        obtain ⟨hxn, hxm⟩ := hax
        have hn32 := (named_size hxn).1
        have ht1 := textB_size (s := x.name) (by omega)
        have ht2 : (valB x.v.k x.v.n x.v.s).size ≤ 1100 := valB_size hwi hxm
        have hsz : ¬ 9223372036854775807 < (textB x.name).size + (valB x.v.k x.v.n x.v.s).size := by omega
        have hq2 : varsB l = (acc ++ (textB x.name ++ valB x.v.k x.v.n x.v.s)) ++ varsCat (l.drop (k + 1)) := by rw [hq, app_assoc]; rfl
        have HQ := Lib.hid hq2
        have HWn := Lib.hid hwn
        have HWk := Lib.hid hwk
        have HWi := Lib.hid hwi
        have HWs := Lib.hid hws
        have HA := Lib.hid hA
        clear hq hq2 HK hcell e0 e1 e2 e3 hkl hxn hxm hwn hwk hwi hws hA
        have cT := fun d os => Calls.regrown_of (wire_Text x.name (grow (redrawn (wr.alloc (.cells #[.string x.name, .int .i64 x.v.k, .int .i64 x.v.n, .string x.v.s] 60)) d) os) (by omega))
        have cB := fun d os => Calls.regrown_of (val_Bytes x.v.k x.v.n x.v.s (grow (redrawn (wr.alloc (.cells #[.string x.name, .int .i64 x.v.k, .int .i64 x.v.n, .string x.v.s] 60)) d) os) HWk.out HWi.out HWs.out)
        have kx0 := cell_regrown (w := (wr.alloc (.cells #[.string x.name, .int .i64 x.v.k, .int .i64 x.v.n, .string x.v.s] 60))) (a := ⟨wr.heap.size, 0, none⟩) (v := .string x.name) (by simp)
        have kx1 := cell_regrown (w := (wr.alloc (.cells #[.string x.name, .int .i64 x.v.k, .int .i64 x.v.n, .string x.v.s] 60))) (a := ⟨wr.heap.size, 1, none⟩) (v := .int .i64 x.v.k) (by simp)
        have kx2 := cell_regrown (w := (wr.alloc (.cells #[.string x.name, .int .i64 x.v.k, .int .i64 x.v.n, .string x.v.s] 60))) (a := ⟨wr.heap.size, 2, none⟩) (v := .int .i64 x.v.n) (by simp)
        have kx3 := cell_regrown (w := (wr.alloc (.cells #[.string x.name, .int .i64 x.v.k, .int .i64 x.v.n, .string x.v.s] 60))) (a := ⟨wr.heap.size, 3, none⟩) (v := .string x.v.s) (by simp)
        go_wp2_with fail
        refine wp_region_quiet_tail [_, _, _, _, _, _, _] _ (by kernel_rfl) (by kernel_rfl) (by kernel_rfl) (by kernel_rfl) (by kernel_rfl) (by kernel_rfl) ?_
        repeat (first | go_big_quiet_step (first | exact cT _ _ | exact cB _ _) | quiet_step (first | exact cT _ _ | exact cB _ _))
        refine wpQuiet_nil ?_
        intro _ hw'
        obtain ⟨⟨dq, osq⟩, hw''⟩ := hw'
        subst hw''
        have hbq := below_regrown (wr.alloc (.cells #[.string x.name, .int .i64 x.v.k, .int .i64 x.v.n, .string x.v.s] 60)) dq osq
        have HB2 : Below w.heap.size w (grow (redrawn (wr.alloc (.cells #[.string x.name, .int .i64 x.v.k, .int .i64 x.v.n, .string x.v.s] 60)) dq) osq) := below2 (below_alloc HB _) hbq
        have hA2 : Bld (grow (redrawn (wr.alloc (.cells #[.string x.name, .int .i64 x.v.k, .int .i64 x.v.n, .string x.v.s] 60)) dq) osq) b0 b0 acc := (HA.out.kept ((Below.refl _ _).alloc (Nat.le_refl _) _)).kept hbq
        have hszW := hA2.lt
        go_wp2_with (go_at_call 40; refine (bld_WriteString b0 b0 acc _ _ hA2 (by rw [app_size]; omega) (by omega)).mono ?_; rintro e w4 ⟨rfl, hB4, hb4, hm4⟩)
        go_roundw
        case rel => exact ⟨k + 1, _, by omega, by go_num, hB4, by rw [app_size, app_size]; omega, HQ, HB2.trans (hb4.mono hbs)⟩
        case measure => simp [intOf]; omega
      · have hA' := hA.lt
        have hf := HK.out
        rw [List.drop_eq_nil_of_le (by rw [Hl.out]; omega)] at hf
        have HF := Lib.hid hf
        clear hf HK
        go_wp2_with (go_at_call 41; refine (bld_String b0 b0 acc _ hA (by omega)).mono ?_; rintro e w4 ⟨rfl, hb4⟩)
        go_ret
        exact ⟨by rw [HF.out]; exact ret1 (vstr (app_empty _).symm), HB.trans (hb4.mono hbs)⟩
  · have hm : rightV l = false := by simpa using hm
    have hv : varsB l = ByteArray.empty := by unfold varsB; rw [hm]; rfl
    simp only [hm] at hR
    have HV := Lib.hid hv
    have HR := Lib.hid hR
    clear hv hR hl hr hw hm
    go_enter Tryd.func27, Tryd.ntmps27
    go_wp2_with (go_at_call 21; refine HR.out.mono ?_; rintro e w1 ⟨rfl, hb1⟩)
    go_ret
    exact ⟨by rw [HV.out]; rfl, hb1⟩
end Go.Proofs.YthhgfdejadbigaaDoor
/-
  The walks of value: Take, TakeVars.
-/
set_option linter.unusedVariables false
set_option linter.unusedSimpArgs false
namespace Go.Proofs.YthhgfdejadbigaaDoor
open Go Go.RowKit Go.Proofs.Base
open Go.Sort (grow)
theorem Rdr.setOther {w : World} {g : Nat} {s : ByteArray} {e : Nat} (h : Rdr w g s e) {b o : Nat} (hne : g ≠ b) (v : Value) : Rdr (w.setCell ⟨b, o, none⟩ v) g s e := (Below.heap_setCell _ _ _ _ hne).trans h
set_option maxRecDepth 100000 in
set_option maxHeartbeats 2000000 in
theorem val_Take (g : Nat) (s : ByteArray) (e0 : Nat) (w : World) (hr : Rdr w g s e0) (hs : s.size ≤ 9223372036854775807) :
    Calls Tryd.prog 30 #[.pointer (some ⟨g, 0, none⟩)] w fun e w' => e = .returned (.tuple #[.agg #[.int .i64 (takeV s e0).k, .int .i64 (takeV s e0).n, .string (takeV s e0).s], .bool (takeOk s e0)]) ∧ Rdr w' g (takeRaw s e0).2.1 (takeRaw s e0).2.2 ∧ Mut (fun b => b = g) w w' := by
  have hg := hr.facts.2.2.2.2
  have hr1 := hr.alloc (.cells #[.int .i64 0, .int .i64 0, .string ByteArray.empty] 23)
  have HR := Lib.hid hr
  clear hr
  have hb := rdByte_lt s e0
  by_cases h3 : (rdByte s e0).1 = 3
  · have hraw : takeRaw s e0 = (⟨3, 0, (rdText 1024 (rdByte s e0).2.1 (rdByte s e0).2.2).1⟩, (rdText 1024 (rdByte s e0).2.1 (rdByte s e0).2.2).2) := by unfold takeRaw; rw [if_pos h3]
    have HRaw := Lib.hid hraw
    clear hraw
    have h3b : ((rdByte s e0).1 : Int) = 3 := by omega
    go_enter Tryd.func30, Tryd.ntmps30
    go_wp2_with fail
    refine (rd_Byte g s e0 _ hr1 hs).mono ?_
    rintro e w1 ⟨rfl, hq1, hm1⟩
    have ho1 := hm1.blk (heap_alloc_new w _) (show ¬ w.heap.size = g by omega)
    have hz1 := hm1.size
    rw [World.size_alloc] at hz1
    have HO1 := Lib.hid ho1
    have HM1 := Lib.hid hm1
    clear ho1 hm1 hr1
    have hr2 := hq1.alloc (.cells #[.int .i64 3, .int .i64 0, .string ByteArray.empty] 23)
    go_wp2_with fail
    refine (rd_Text g (rdByte s e0).2.1 (rdByte s e0).2.2 1024 _ hr2 (by have := rdByte_size s e0; omega) (by omega) (by omega)).mono ?_
    rintro e w2 ⟨rfl, hq2, hm2⟩
    have ho2 := hm2.blk (block_below ((Below.refl _ _).alloc (Nat.le_refl _) _) HO1.out) (show ¬ w.heap.size = g by omega)
    have hv2 := hm2.blk (heap_alloc_new w1 _) (show ¬ w1.heap.size = g by omega)
    have hz2 := hm2.size
    rw [World.size_alloc] at hz2
    have vc0 := cell_of_blk hv2 0
    have vc1 := cell_of_blk hv2 1
    have vc2 := cell_of_blk hv2 2
    have vf0 := frozen_of_blk hv2 0
    have vf1 := frozen_of_blk hv2 1
    have vf2 := frozen_of_blk hv2 2
    have hM02 : Mut (fun b => b = g) w w2 := ((((Mut.refl _ w).alloc _).trans HM1.out (fun _ _ h => h)).alloc _).trans hm2 (fun _ _ h => h)
    have HV2 := Lib.hid (set_blk (o := 2) hv2 (.string (rdText 1024 (rdByte s e0).2.1 (rdByte s e0).2.2).1))
    have HO2 := Lib.hid ho2
    have HQ2 := Lib.hid hq2
    have HM02 := Lib.hid hM02
    clear ho2 hv2 hq2 hM02 hm2 hq1 hr2
    go_wp2_with fail
    have hq3 : Rdr (w2.setCell ⟨w1.heap.size, 2, none⟩ (.string (rdText 1024 (rdByte s e0).2.1 (rdByte s e0).2.2).1)) g (rdText 1024 (rdByte s e0).2.1 (rdByte s e0).2.2).2.1 (rdText 1024 (rdByte s e0).2.1 (rdByte s e0).2.2).2.2 := by
      unfold Rdr
      rw [Below.heap_setCell _ _ _ _ (show g ≠ w1.heap.size by omega)]
      exact HQ2.out
    have ho3 : (w2.setCell ⟨w1.heap.size, 2, none⟩ (.string (rdText 1024 (rdByte s e0).2.1 (rdByte s e0).2.2).1)).heap[w.heap.size]? = _ := (Below.heap_setCell _ _ _ _ (show w.heap.size ≠ w1.heap.size by omega)).trans HO2.out
    have hm3 : Mut (fun b => b = g) w (w2.setCell ⟨w1.heap.size, 2, none⟩ (.string (rdText 1024 (rdByte s e0).2.1 (rdByte s e0).2.2).1)) := HM02.out.setCell (p := ⟨w1.heap.size, 2, none⟩) (fun h => absurd h (show ¬ w1.heap.size < w.heap.size by omega)) _
    have hv3 := HV2.out
    have hz3 : w1.heap.size < (w2.setCell ⟨w1.heap.size, 2, none⟩ (.string (rdText 1024 (rdByte s e0).2.1 (rdByte s e0).2.2).1)).heap.size := lt_of_blk hv3
    generalize w2.setCell ⟨w1.heap.size, 2, none⟩ (.string (rdText 1024 (rdByte s e0).2.1 (rdByte s e0).2.2).1) = W3 at *
    generalize hgen : rdText 1024 (rdByte s e0).2.1 (rdByte s e0).2.2 = q at *
    obtain ⟨q1, s2, e2⟩ := q
    clear vc0 vc1 vc2 vf0 vf1 vf2 HV2 HQ2 HO2 HM02 HO1 HM1 hz2 hgen
    have hv4 : W3.heap[w1.heap.size]? = some (.cells #[.int .i64 3, .int .i64 0, .string q1] 23 (0, 0)) := hv3
    have HR3 := Lib.hid hq3
    have HO3 := Lib.hid ho3
    have HM3 := Lib.hid hm3
    have HV4 := Lib.hid hv4
    have fv0 := cell_of_blk hv4 0
    have fv1 := cell_of_blk hv4 1
    have fv2 := cell_of_blk hv4 2
    have fo0 := cell_of_blk ho3 0
    have fo1 := cell_of_blk ho3 1
    have fo2 := cell_of_blk ho3 2
    have ff0 := frozen_of_blk ho3 0
    have ff1 := frozen_of_blk ho3 1
    have ff2 := frozen_of_blk ho3 2
    clear hv3 hv4 hq3 ho3 hm3
    have hmm9 : True := trivial
    by_cases h2 : e2 = 0
    · have h2b := bne_f (a := (e2 : Int)) (b := 0) (by omega)
      by_cases hmm : mayV 3 0 q1 = true
      · have hmay := hmm
        have htk : takeOk s e0 = true := by unfold takeOk GVal.may; rw [HRaw.out]; simp [h2, hmm]
        have hv : takeV s e0 = ⟨3, 0, q1⟩ := by unfold takeV; rw [htk, HRaw.out]; rfl
        have HTK := Lib.hid htk
        have HV := Lib.hid hv
        have hM := fun W => val_May 3 0 q1 W
        simp only [hmm] at hM
        have HMay := Lib.hid hM
        clear htk hv hM hmm hmay
        go_wp2_with (go_at_call 60; refine (rd_Err g s2 e2 _ HR3.out).mono ?_; rintro e w' ⟨rfl, rfl⟩)
        refine (HMay.out _).mono ?_
        rintro e w4 ⟨rfl, hb4⟩
        have hv5 := block_below hb4 HV4.out
        have ho5 := block_below hb4 HO3.out
        have HO5 := Lib.hid ho5
        have HM4 := Lib.hid (HM3.out.trans (Mut.of_below hb4 (fun _ => False)) (fun _ _ h => h.elim))
        have HQ4 := Lib.hid (show Rdr w4 g s2 e2 from block_below hb4 HR3.out)
        have gv0 := cell_of_blk hv5 0
        have gv1 := cell_of_blk hv5 1
        have gv2 := cell_of_blk hv5 2
        have go0 := cell_of_blk ho5 0
        have go1 := cell_of_blk ho5 1
        have go2 := cell_of_blk ho5 2
        have gf0 := frozen_of_blk ho5 0
        have gf1 := frozen_of_blk ho5 1
        have gf2 := frozen_of_blk ho5 2
        clear hv5 ho5 fv0 fv1 fv2 fo0 fo1 fo2 ff0 ff1 ff2 hb4
        go_wp2_with fail
        have hb6 := set_blk3 HO5.out (.int .i64 3) (.int .i64 0) (.string q1)
        have r0 := cell_of_blk hb6 0
        have r1 := cell_of_blk hb6 1
        have r2 := cell_of_blk hb6 2
        refine bodyPost_ret (v := .tuple #[.agg #[.int .i64 3, .int .i64 0, .string q1], .bool true]) (by simp [results, Tryd.results30, go_sem, r0, r1, r2]) rfl ⟨?_, ?_, ?_⟩
        · first | (rw [HV.out, HTK.out]; done) | (rw [HV.out, HTK.out]; rfl)
        · rw [HRaw.out]; exact ((HQ4.out.setOther (by omega) _).setOther (by omega) _).setOther (by omega) _
        · exact ((HM4.out.setCell (p := ⟨w.heap.size, 0, none⟩) (fun h => absurd h (Nat.lt_irrefl _)) _).setCell (p := ⟨w.heap.size, 1, none⟩) (fun h => absurd h (Nat.lt_irrefl _)) _).setCell (p := ⟨w.heap.size, 2, none⟩) (fun h => absurd h (Nat.lt_irrefl _)) _
      · have hmm : mayV 3 0 q1 = false := by simpa using hmm
        have htk : takeOk s e0 = false := by unfold takeOk GVal.may; rw [HRaw.out]; simp [hmm]
        have hv : takeV s e0 = zeroV := by unfold takeV; rw [htk]; rfl
        have HTK := Lib.hid htk
        have HV := Lib.hid hv
        have hM := fun W => val_May 3 0 q1 W
        simp only [hmm] at hM
        have HMay := Lib.hid hM
        clear htk hv hM hmm
        go_wp2_with (go_at_call 60; refine (rd_Err g s2 e2 _ HR3.out).mono ?_; rintro e w' ⟨rfl, rfl⟩)
        refine (HMay.out _).mono ?_
        rintro e w4 ⟨rfl, hb4⟩
        have ho5 := block_below hb4 HO3.out
        have HO5 := Lib.hid ho5
        have HM4 := Lib.hid (HM3.out.trans (Mut.of_below hb4 (fun _ => False)) (fun _ _ h => h.elim))
        have HQ4 := Lib.hid (show Rdr w4 g s2 e2 from block_below hb4 HR3.out)
        have go0 := cell_of_blk ho5 0
        have go1 := cell_of_blk ho5 1
        have go2 := cell_of_blk ho5 2
        have gf0 := frozen_of_blk ho5 0
        have gf1 := frozen_of_blk ho5 1
        have gf2 := frozen_of_blk ho5 2
        clear ho5 fv0 fv1 fv2 fo0 fo1 fo2 ff0 ff1 ff2 hb4
        go_wp2_with fail
        have hb6 := set_blk3 HO5.out (.int .i64 0) (.int .i64 0) (.string ⟨#[]⟩)
        have r0 := cell_of_blk hb6 0
        have r1 := cell_of_blk hb6 1
        have r2 := cell_of_blk hb6 2
        refine bodyPost_ret (v := .tuple #[.agg #[.int .i64 0, .int .i64 0, .string ⟨#[]⟩], .bool false]) (by simp [results, Tryd.results30, go_sem, r0, r1, r2]) rfl ⟨?_, ?_, ?_⟩
        · first | (rw [HV.out, HTK.out]; done) | (rw [HV.out, HTK.out]; rfl)
        · rw [HRaw.out]; exact ((HQ4.out.setOther (by omega) _).setOther (by omega) _).setOther (by omega) _
        · exact ((HM4.out.setCell (p := ⟨w.heap.size, 0, none⟩) (fun h => absurd h (Nat.lt_irrefl _)) _).setCell (p := ⟨w.heap.size, 1, none⟩) (fun h => absurd h (Nat.lt_irrefl _)) _).setCell (p := ⟨w.heap.size, 2, none⟩) (fun h => absurd h (Nat.lt_irrefl _)) _
    · have h2b := bne_t (a := (e2 : Int)) (b := 0) (by omega)
      have htk : takeOk s e0 = false := by unfold takeOk; rw [HRaw.out]; simp [h2]
      have hv : takeV s e0 = zeroV := by unfold takeV; rw [htk]; rfl
      have HTK := Lib.hid htk
      have HV := Lib.hid hv
      clear htk hv
      go_wp2_with (go_at_call 60; refine (rd_Err g s2 e2 _ HR3.out).mono ?_; rintro e w' ⟨rfl, rfl⟩)
      have hb6 := set_blk3 HO3.out (.int .i64 0) (.int .i64 0) (.string ⟨#[]⟩)
      have r0 := cell_of_blk hb6 0
      have r1 := cell_of_blk hb6 1
      have r2 := cell_of_blk hb6 2
      refine bodyPost_ret (v := .tuple #[.agg #[.int .i64 0, .int .i64 0, .string ⟨#[]⟩], .bool false]) (by simp [results, Tryd.results30, go_sem, r0, r1, r2]) rfl ⟨?_, ?_, ?_⟩
      · first | (rw [HV.out, HTK.out]; done) | (rw [HV.out, HTK.out]; rfl)
      · rw [HRaw.out]; exact ((HR3.out.setOther (by omega) _).setOther (by omega) _).setOther (by omega) _
      · exact ((HM3.out.setCell (p := ⟨w.heap.size, 0, none⟩) (fun h => absurd h (Nat.lt_irrefl _)) _).setCell (p := ⟨w.heap.size, 1, none⟩) (fun h => absurd h (Nat.lt_irrefl _)) _).setCell (p := ⟨w.heap.size, 2, none⟩) (fun h => absurd h (Nat.lt_irrefl _)) _
  · have hraw : takeRaw s e0 = (⟨(rdByte s e0).1, (rdInt (rdByte s e0).2.1 (rdByte s e0).2.2).1, ByteArray.empty⟩, (rdInt (rdByte s e0).2.1 (rdByte s e0).2.2).2) := by unfold takeRaw; rw [if_neg h3]
    have HRaw := Lib.hid hraw
    clear hraw
    have h3b := beq_f (a := ((rdByte s e0).1 : Int)) (b := 3) (by omega)
    have HH3 := Lib.hid h3
    clear h3
    go_enter Tryd.func30, Tryd.ntmps30
    go_wp2_with fail
    refine (rd_Byte g s e0 _ hr1 hs).mono ?_
    rintro e w1 ⟨rfl, hq1, hm1⟩
    have ho1 := hm1.blk (heap_alloc_new w _) (show ¬ w.heap.size = g by omega)
    have hz1 := hm1.size
    rw [World.size_alloc] at hz1
    have HO1 := Lib.hid ho1
    have HM1 := Lib.hid hm1
    clear ho1 hm1 hr1
    have hr2 := hq1.alloc (.cells #[.int .i64 ((rdByte s e0).1 : Int), .int .i64 0, .string ByteArray.empty] 23)
    go_wp2_with fail
    refine (rd_Int g (rdByte s e0).2.1 (rdByte s e0).2.2 _ hr2 (by have := rdByte_size s e0; omega)).mono ?_
    rintro e w2 ⟨rfl, hq2, hm2⟩
    have ho2 := hm2.blk (block_below ((Below.refl _ _).alloc (Nat.le_refl _) _) HO1.out) (show ¬ w.heap.size = g by omega)
    have hv2 := hm2.blk (heap_alloc_new w1 _) (show ¬ w1.heap.size = g by omega)
    have hz2 := hm2.size
    rw [World.size_alloc] at hz2
    have vc0 := cell_of_blk hv2 0
    have vc1 := cell_of_blk hv2 1
    have vc2 := cell_of_blk hv2 2
    have vf0 := frozen_of_blk hv2 0
    have vf1 := frozen_of_blk hv2 1
    have vf2 := frozen_of_blk hv2 2
    have hM02 : Mut (fun b => b = g) w w2 := ((((Mut.refl _ w).alloc _).trans HM1.out (fun _ _ h => h)).alloc _).trans hm2 (fun _ _ h => h)
    have HV2 := Lib.hid (set_blk (o := 1) hv2 (.int .i64 (rdInt (rdByte s e0).2.1 (rdByte s e0).2.2).1))
    have HO2 := Lib.hid ho2
    have HQ2 := Lib.hid hq2
    have HM02 := Lib.hid hM02
    clear ho2 hv2 hq2 hM02 hm2 hq1 hr2
    go_wp2_with fail
    have hq3 : Rdr (w2.setCell ⟨w1.heap.size, 1, none⟩ (.int .i64 (rdInt (rdByte s e0).2.1 (rdByte s e0).2.2).1)) g (rdInt (rdByte s e0).2.1 (rdByte s e0).2.2).2.1 (rdInt (rdByte s e0).2.1 (rdByte s e0).2.2).2.2 := by
      unfold Rdr
      rw [Below.heap_setCell _ _ _ _ (show g ≠ w1.heap.size by omega)]
      exact HQ2.out
    have ho3 : (w2.setCell ⟨w1.heap.size, 1, none⟩ (.int .i64 (rdInt (rdByte s e0).2.1 (rdByte s e0).2.2).1)).heap[w.heap.size]? = _ := (Below.heap_setCell _ _ _ _ (show w.heap.size ≠ w1.heap.size by omega)).trans HO2.out
    have hm3 : Mut (fun b => b = g) w (w2.setCell ⟨w1.heap.size, 1, none⟩ (.int .i64 (rdInt (rdByte s e0).2.1 (rdByte s e0).2.2).1)) := HM02.out.setCell (p := ⟨w1.heap.size, 1, none⟩) (fun h => absurd h (show ¬ w1.heap.size < w.heap.size by omega)) _
    have hv3 := HV2.out
    have hz3 : w1.heap.size < (w2.setCell ⟨w1.heap.size, 1, none⟩ (.int .i64 (rdInt (rdByte s e0).2.1 (rdByte s e0).2.2).1)).heap.size := lt_of_blk hv3
    generalize w2.setCell ⟨w1.heap.size, 1, none⟩ (.int .i64 (rdInt (rdByte s e0).2.1 (rdByte s e0).2.2).1) = W3 at *
    generalize hgen : rdInt (rdByte s e0).2.1 (rdByte s e0).2.2 = q at *
    obtain ⟨q1, s2, e2⟩ := q
    clear vc0 vc1 vc2 vf0 vf1 vf2 HV2 HQ2 HO2 HM02 HO1 HM1 hz2 hgen
    have hv4 : W3.heap[w1.heap.size]? = some (.cells #[.int .i64 ((rdByte s e0).1 : Int), .int .i64 q1, .string ByteArray.empty] 23 (0, 0)) := hv3
    have HR3 := Lib.hid hq3
    have HO3 := Lib.hid ho3
    have HM3 := Lib.hid hm3
    have HV4 := Lib.hid hv4
    have fv0 := cell_of_blk hv4 0
    have fv1 := cell_of_blk hv4 1
    have fv2 := cell_of_blk hv4 2
    have fo0 := cell_of_blk ho3 0
    have fo1 := cell_of_blk ho3 1
    have fo2 := cell_of_blk ho3 2
    have ff0 := frozen_of_blk ho3 0
    have ff1 := frozen_of_blk ho3 1
    have ff2 := frozen_of_blk ho3 2
    clear hv3 hv4 hq3 ho3 hm3
    have hmm9 : True := trivial
    by_cases h2 : e2 = 0
    · have h2b := bne_f (a := (e2 : Int)) (b := 0) (by omega)
      by_cases hmm : mayV ((rdByte s e0).1 : Int) q1 ByteArray.empty = true
      · have hmay := hmm
        have htk : takeOk s e0 = true := by unfold takeOk GVal.may; rw [HRaw.out]; simp [h2, hmm]
        have hv : takeV s e0 = ⟨((rdByte s e0).1 : Int), q1, ByteArray.empty⟩ := by unfold takeV; rw [htk, HRaw.out]; rfl
        have HTK := Lib.hid htk
        have HV := Lib.hid hv
        have hM := fun W => val_May ((rdByte s e0).1 : Int) q1 ByteArray.empty W
        simp only [hmm] at hM
        have HMay := Lib.hid hM
        clear htk hv hM hmm hmay
        go_wp2_with (go_at_call 60; refine (rd_Err g s2 e2 _ HR3.out).mono ?_; rintro e w' ⟨rfl, rfl⟩)
        refine (HMay.out _).mono ?_
        rintro e w4 ⟨rfl, hb4⟩
        have hv5 := block_below hb4 HV4.out
        have ho5 := block_below hb4 HO3.out
        have HO5 := Lib.hid ho5
        have HM4 := Lib.hid (HM3.out.trans (Mut.of_below hb4 (fun _ => False)) (fun _ _ h => h.elim))
        have HQ4 := Lib.hid (show Rdr w4 g s2 e2 from block_below hb4 HR3.out)
        have gv0 := cell_of_blk hv5 0
        have gv1 := cell_of_blk hv5 1
        have gv2 := cell_of_blk hv5 2
        have go0 := cell_of_blk ho5 0
        have go1 := cell_of_blk ho5 1
        have go2 := cell_of_blk ho5 2
        have gf0 := frozen_of_blk ho5 0
        have gf1 := frozen_of_blk ho5 1
        have gf2 := frozen_of_blk ho5 2
        clear hv5 ho5 fv0 fv1 fv2 fo0 fo1 fo2 ff0 ff1 ff2 hb4
        go_wp2_with fail
        have hb6 := set_blk3 HO5.out (.int .i64 ((rdByte s e0).1 : Int)) (.int .i64 q1) (.string ByteArray.empty)
        have r0 := cell_of_blk hb6 0
        have r1 := cell_of_blk hb6 1
        have r2 := cell_of_blk hb6 2
        refine bodyPost_ret (v := .tuple #[.agg #[.int .i64 ((rdByte s e0).1 : Int), .int .i64 q1, .string ByteArray.empty], .bool true]) (by simp [results, Tryd.results30, go_sem, r0, r1, r2]) rfl ⟨?_, ?_, ?_⟩
        · first | (rw [HV.out, HTK.out]; done) | (rw [HV.out, HTK.out]; rfl)
        · rw [HRaw.out]; exact ((HQ4.out.setOther (by omega) _).setOther (by omega) _).setOther (by omega) _
        · exact ((HM4.out.setCell (p := ⟨w.heap.size, 0, none⟩) (fun h => absurd h (Nat.lt_irrefl _)) _).setCell (p := ⟨w.heap.size, 1, none⟩) (fun h => absurd h (Nat.lt_irrefl _)) _).setCell (p := ⟨w.heap.size, 2, none⟩) (fun h => absurd h (Nat.lt_irrefl _)) _
      · have hmm : mayV ((rdByte s e0).1 : Int) q1 ByteArray.empty = false := by simpa using hmm
        have htk : takeOk s e0 = false := by unfold takeOk GVal.may; rw [HRaw.out]; simp [hmm]
        have hv : takeV s e0 = zeroV := by unfold takeV; rw [htk]; rfl
        have HTK := Lib.hid htk
        have HV := Lib.hid hv
        have hM := fun W => val_May ((rdByte s e0).1 : Int) q1 ByteArray.empty W
        simp only [hmm] at hM
        have HMay := Lib.hid hM
        clear htk hv hM hmm
        go_wp2_with (go_at_call 60; refine (rd_Err g s2 e2 _ HR3.out).mono ?_; rintro e w' ⟨rfl, rfl⟩)
        refine (HMay.out _).mono ?_
        rintro e w4 ⟨rfl, hb4⟩
        have ho5 := block_below hb4 HO3.out
        have HO5 := Lib.hid ho5
        have HM4 := Lib.hid (HM3.out.trans (Mut.of_below hb4 (fun _ => False)) (fun _ _ h => h.elim))
        have HQ4 := Lib.hid (show Rdr w4 g s2 e2 from block_below hb4 HR3.out)
        have go0 := cell_of_blk ho5 0
        have go1 := cell_of_blk ho5 1
        have go2 := cell_of_blk ho5 2
        have gf0 := frozen_of_blk ho5 0
        have gf1 := frozen_of_blk ho5 1
        have gf2 := frozen_of_blk ho5 2
        clear ho5 fv0 fv1 fv2 fo0 fo1 fo2 ff0 ff1 ff2 hb4
        go_wp2_with fail
        have hb6 := set_blk3 HO5.out (.int .i64 0) (.int .i64 0) (.string ⟨#[]⟩)
        have r0 := cell_of_blk hb6 0
        have r1 := cell_of_blk hb6 1
        have r2 := cell_of_blk hb6 2
        refine bodyPost_ret (v := .tuple #[.agg #[.int .i64 0, .int .i64 0, .string ⟨#[]⟩], .bool false]) (by simp [results, Tryd.results30, go_sem, r0, r1, r2]) rfl ⟨?_, ?_, ?_⟩
        · first | (rw [HV.out, HTK.out]; done) | (rw [HV.out, HTK.out]; rfl)
        · rw [HRaw.out]; exact ((HQ4.out.setOther (by omega) _).setOther (by omega) _).setOther (by omega) _
        · exact ((HM4.out.setCell (p := ⟨w.heap.size, 0, none⟩) (fun h => absurd h (Nat.lt_irrefl _)) _).setCell (p := ⟨w.heap.size, 1, none⟩) (fun h => absurd h (Nat.lt_irrefl _)) _).setCell (p := ⟨w.heap.size, 2, none⟩) (fun h => absurd h (Nat.lt_irrefl _)) _
    · have h2b := bne_t (a := (e2 : Int)) (b := 0) (by omega)
      have htk : takeOk s e0 = false := by unfold takeOk; rw [HRaw.out]; simp [h2]
      have hv : takeV s e0 = zeroV := by unfold takeV; rw [htk]; rfl
      have HTK := Lib.hid htk
      have HV := Lib.hid hv
      clear htk hv
      go_wp2_with (go_at_call 60; refine (rd_Err g s2 e2 _ HR3.out).mono ?_; rintro e w' ⟨rfl, rfl⟩)
      have hb6 := set_blk3 HO3.out (.int .i64 0) (.int .i64 0) (.string ⟨#[]⟩)
      have r0 := cell_of_blk hb6 0
      have r1 := cell_of_blk hb6 1
      have r2 := cell_of_blk hb6 2
      refine bodyPost_ret (v := .tuple #[.agg #[.int .i64 0, .int .i64 0, .string ⟨#[]⟩], .bool false]) (by simp [results, Tryd.results30, go_sem, r0, r1, r2]) rfl ⟨?_, ?_, ?_⟩
      · first | (rw [HV.out, HTK.out]; done) | (rw [HV.out, HTK.out]; rfl)
      · rw [HRaw.out]; exact ((HR3.out.setOther (by omega) _).setOther (by omega) _).setOther (by omega) _
      · exact ((HM3.out.setCell (p := ⟨w.heap.size, 0, none⟩) (fun h => absurd h (Nat.lt_irrefl _)) _).setCell (p := ⟨w.heap.size, 1, none⟩) (fun h => absurd h (Nat.lt_irrefl _)) _).setCell (p := ⟨w.heap.size, 2, none⟩) (fun h => absurd h (Nat.lt_irrefl _)) _
end Go.Proofs.YthhgfdejadbigaaDoor
/-
  The walk of value.TakeVars.
-/
set_option linter.unusedVariables false
set_option linter.unusedSimpArgs false
namespace Go.Proofs.YthhgfdejadbigaaDoor
open Go Go.RowKit Go.Proofs.Base
open Go.Sort (grow)
theorem elVar : ElemT Tryd.prog 29 60 4 48 := .of Tryd.underlying29 (z := .agg #[.string ⟨#[]⟩, .int .i64 0, .int .i64 0, .string ⟨#[]⟩]) (by kernel_rfl) rfl
theorem mutGrown {w w1 : World} {g : Nat} (h : Mut (fun b => b = g) w w1) : w.grownBy w1 (some g) := ⟨h.os, h.tape, h.output, h.size, fun k hk hn => h.block k hk (fun e => hn (by rw [e]))⟩
theorem own_mut {w w1 : World} {g base : Nat} {e : TypeId} {sz n : Nat} {v : Value} {xs : List Value} (h : w.ownsRow base e sz v n xs) (hm : Mut (fun b => b = g) w w1) (hg : g < base) : w1.ownsRow base e sz v n xs :=
  h.kept (mutGrown hm) (by
    cases hv : v.ownBlock with
    | none => exact .inl rfl
    | some k => exact .inr (fun he => by have := (h.lt k hv).1; injection he with he; omega))
theorem takeFin_some (l : List GVar) (s : ByteArray) (e : Nat) : takeFin (some l, s, e) = if e = 0 ∧ rightV l = true then (some l, s, e) else (none, s, e) := rfl
def TakeVarsPost (w : World) (g : Nat) (r : Option (List GVar) × ByteArray × Nat) (e : Ending) (w' : World) : Prop :=
  ∃ v, e = .returned (.tuple #[v, .bool r.1.isSome]) ∧ Row w' (fun b => w.heap.size ≤ b) 4 (r.1.getD []).length v (varCells (r.1.getD [])) ∧ Rdr w' g r.2.1 r.2.2 ∧ Mut (fun b => b = g) w w'
set_option maxRecDepth 100000 in
set_option maxHeartbeats 2000000 in
theorem val_TakeVars (g : Nat) (s : ByteArray) (e0 : Nat) (w : World) (hr : Rdr w g s e0) (hs : s.size ≤ 140737488351232) :
    Calls Tryd.prog 33 #[.pointer (some ⟨g, 0, none⟩)] w (TakeVarsPost w g (takeVars s e0)) := by
  have hg := hr.facts.2.2.2.2
  have hu := rdUint_size s e0
  by_cases h16 : 16 < (rdUint s e0).1
  · have hv : takeVars s e0 = (none, (rdUint s e0).2) := by unfold takeVars; rw [if_pos h16]
    have HV := Lib.hid hv
    have h16' : (16 : Int) < ((rdUint s e0).1 : Int) := by omega
    clear hv h16
    go_enter Tryd.func33, Tryd.ntmps33
    go_wp2_with (go_at_call 64; refine (rd_Uint g s e0 _ hr (by omega)).mono ?_; rintro e w1 ⟨rfl, hq1, hm1⟩)
    go_ret2
    rw [HV.out]
    exact ⟨_, rfl, Row.nil _ _ _, hq1, hm1⟩
  · have hv : takeVars s e0 = takeFin (takeGo (rdUint s e0).1 (rdUint s e0).2.1 (rdUint s e0).2.2 []) := by unfold takeVars; rw [if_neg h16]
    have h16' : ((rdUint s e0).1 : Int) ≤ 16 := by omega
    have HV := Lib.hid hv
    clear hv
    go_enter Tryd.func33, Tryd.ntmps33
    go_wp2_with (go_at_call 64; refine (rd_Uint g s e0 _ hr (by omega)).mono ?_; rintro e w1 ⟨rfl, hq1, hm1⟩)
    generalize rdUint s e0 = q at *
    obtain ⟨n, s1, e1⟩ := q
    clear hr
    go_loopw [5, 6, 7, 8, 14] (fun v _ _ _ i wr => ∃ (k m : Nat) (acc : List GVar) (s2 : ByteArray) (e2 : Nat), i = .int .u64 k ∧ k + m = n ∧ acc.length = k ∧ wr.ownsRow w.heap.size 60 4 v acc.length (varCells acc) ∧ Rdr wr g s2 e2 ∧ s2.size ≤ s.size ∧ Mut (fun b => b = g) w wr ∧ Hid (∀ x ∈ acc, x.wf) ∧ Hid (takeVars s e0 = takeFin (takeGo m s2 e2 acc))) (fun _ _ _ _ i _ => n - (intOf i).toNat)
    case atStart => exact ⟨0, n, [], s1, e1, rfl, by omega, rfl, own_nil _ _ _ _, hq1, hu, hm1, Lib.hid (fun x hx => by cases hx), HV⟩
    case round =>
      clear hq1 hm1 HV
      obtain ⟨k, m, acc, s2, e2, rfl, hkm, hacc, hown, hq, hs2, hm, HW, HV⟩ := hrel
      cases m with
      | zero =>
        have Hkm := Lib.hid hkm
        have hkn : ¬ k < n := by omega
        have Hacc := Lib.hid hacc
        have HQ := Lib.hid hq
        have hv := HV.out
        unfold takeGo at hv
        rw [takeFin_some] at hv
        have HVV := Lib.hid hv
        have hrow := (Row.of_own hown).weaken (S' := fun b => w.heap.size ≤ b) (fun _ _ h => h.1)
        have HRow := Lib.hid hrow
        have HR2 := Lib.hid (val_Right (fun b => w.heap.size ≤ b) acc acc.length _ wr rfl hrow HW.out)
        clear hkm hacc HV hv hown hrow
        by_cases h2 : e2 = 0
        · have h2b := bne_f (a := (e2 : Int)) (b := 0) (by omega)
          by_cases hri : rightV acc = true
          · have hf : takeVars s e0 = (some acc, s2, e2) := by rw [HVV.out, if_pos ⟨h2, hri⟩]
            have HF := Lib.hid hf
            have hR2 := HR2.out
            simp only [hri] at hR2
            have HR3 := Lib.hid hR2
            have HM := Lib.hid hm
            clear hf hri hR2 h2 hm
            go_wp2_with (first | (go_at_call 60; refine (rd_Err g s2 e2 _ HQ.out).mono ?_; rintro e w' ⟨rfl, rfl⟩) | (go_at_call 21; refine HR3.out.mono ?_; rintro e w3 ⟨rfl, hb3⟩))
            go_ret2
            rw [HF.out]
            exact ⟨_, rfl, HRow.out.below hb3, block_below hb3 HQ.out, HM.out.trans (Mut.of_below hb3 (fun _ => False)) (fun _ _ h => h.elim)⟩
          · have hri : rightV acc = false := by simpa using hri
            have hf : takeVars s e0 = (none, s2, e2) := by rw [HVV.out, if_neg (by simp [hri])]
            have HF := Lib.hid hf
            have hR2 := HR2.out
            simp only [hri] at hR2
            have HR3 := Lib.hid hR2
            have HM := Lib.hid hm
            clear hf hri hR2 h2 hm
            go_wp2_with (first | (go_at_call 60; refine (rd_Err g s2 e2 _ HQ.out).mono ?_; rintro e w' ⟨rfl, rfl⟩) | (go_at_call 21; refine HR3.out.mono ?_; rintro e w3 ⟨rfl, hb3⟩))
            go_ret2
            rw [HF.out]
            exact ⟨_, rfl, Row.nil _ _ _, block_below hb3 HQ.out, HM.out.trans (Mut.of_below hb3 (fun _ => False)) (fun _ _ h => h.elim)⟩
        · have h2b := bne_t (a := (e2 : Int)) (b := 0) (by omega)
          have hf : takeVars s e0 = (none, s2, e2) := by rw [HVV.out, if_neg (by simp [h2])]
          have HF := Lib.hid hf
          have HM := Lib.hid hm
          clear hf h2 hm
          go_wp2_with (go_at_call 60; refine (rd_Err g s2 e2 _ HQ.out).mono ?_; rintro e w' ⟨rfl, rfl⟩)
          go_ret2
          rw [HF.out]
          exact ⟨_, rfl, Row.nil _ _ _, HQ.out, HM.out⟩
      | succ m =>
        have hkn : k < n := by omega
        have hv := HV.out
        unfold takeGo at hv
        have hsz := rdText_size 32 s2 e2
        have hrs := rdText_res 32 s2 e2
        have hT := rd_Text g s2 e2 32 wr hq (by omega) (by omega) (by omega)
        have HT := Lib.hid hT
        generalize rdText 32 s2 e2 = q at *
        obtain ⟨nm, s3, e3⟩ := q
        have HV2 := Lib.hid hv
        have Hkm := Lib.hid hkm
        have Hacc := Lib.hid hacc
        have HM := Lib.hid hm
        have HO := Lib.hid hown
        clear hT HV hv hkm hacc hm hq hown
        go_wp2_with (go_at_call 58; refine HT.out.mono ?_; rintro e w3 ⟨rfl, hq3, hm3⟩)
        refine (val_Take g s3 e3 w3 hq3 (by omega)).mono ?_
        rintro e w4 ⟨rfl, hq4, hm4⟩
        have hwf := takeV_wf (s := s3) (e := e3) (by omega)
        have hz4 := takeRaw_size s3 e3
        have ho4 := own_mut (own_mut HO.out hm3 hg) hm4 hg
        have HO4 := Lib.hid ho4
        have hM4 : Mut (fun b => b = g) w w4 := (HM.out.trans hm3 (fun _ _ h => h)).trans hm4 (fun _ _ h => h)
        have HM4 := Lib.hid hM4
        have HQ4 := Lib.hid hq4
        have hv5 := HV2.out
        have hw4 : w.heap.size ≤ w4.heap.size := hM4.size
        clear HV2 HM HO hq3 hq4 hm3 hm4 HT ho4 hM4
        generalize takeRaw s3 e3 = raw at *
        obtain ⟨rv, s4, e4⟩ := raw
        generalize takeV s3 e3 = tv at *
        by_cases hok : takeOk s3 e3 = true
        · rw [if_pos hok] at hv5
          simp only [hok]
          have HV5 := Lib.hid hv5
          have HW5 : Hid (∀ x ∈ acc ++ [(⟨nm, tv⟩ : GVar)], x.wf) := Lib.hid (fun x hx => by
            rcases List.mem_append.1 hx with h | h
            · exact HW.out x h
            · rw [List.mem_singleton.1 h]; exact ⟨Nat.le_trans hrs (Nat.le_trans hs2 hs), hwf⟩)
          clear hv5 hok hwf HW
          have hb4 : Below w.heap.size (w4.alloc (.cells #[.int .i64 tv.k, .int .i64 tv.n, .string tv.s] 23)) (w4.alloc (.cells #[.int .i64 tv.k, .int .i64 tv.n, .string tv.s] 23)) := Below.refl _ _
          have ho5 := HO4.out.alloc (.cells #[.int .i64 tv.k, .int .i64 tv.n, .string tv.s] 23)
          have hsz5 : w.heap.size ≤ (w4.alloc (.cells #[.int .i64 tv.k, .int .i64 tv.n, .string tv.s] 23)).heap.size := by simp; omega
          have ha16 : acc.length ≤ 16 := by have := Hacc.out; omega
          have HB4 := Lib.hid hb4
          have HO5 := Lib.hid ho5
          have HS5 := Lib.hid hsz5
          clear hb4 ho5 hsz5
          go_wp2_with (at_builtin; refine wp_app elVar (by decide) rfl (.tmp 25) (.tmp 29) rfl w.heap.size _ acc.length (varCells acc) [_, _, _, _] rfl (by rw [World.size_alloc]; rfl) rfl (by simp [Value.oneCell']) HO5.out HB4.out HS5.out (by omega) (by omega) ?_; intro v1 w5 HO6 HB6 hg6 hat6)
          go_roundw
          case rel =>
            have hl5 := Hkm.out
            have hc : varCells acc ++ [.string nm, .int .i64 tv.k, .int .i64 tv.n, .string tv.s] = varCells (acc ++ [(⟨nm, tv⟩ : GVar)]) := by rw [varCells_append]; rfl
            rw [hc] at HO6
            have hgr := (World.grownBy_alloc w4 (.cells #[.int .i64 tv.k, .int .i64 tv.n, .string tv.s] 23) u5.ownBlock).trans ((World.grownBy_alloc _ _ _).trans hg6)
            have hbl : ∀ b, b < w4.heap.size → u5.ownBlock = some b → w.heap.size ≤ b := fun b _ hb => (HO4.out.lt b hb).1
            refine ⟨k + 1, m, acc ++ [⟨nm, tv⟩], s4, e4, by go_num, by omega, by rw [List.length_append, Hacc.out]; rfl, by rw [List.length_append]; exact HO6, ?_, Nat.le_trans hz4 (Nat.le_trans hsz hs2), ?_, HW5, HV5⟩
            · refine Mut.blk (T := fun b => u5.ownBlock = some b) (Mut.grown hgr (fun b h => h)) HQ4.out (fun h => ?_)
              have := (HO4.out.lt g h).1
              omega
            · exact HM4.out.trans (Mut.grown (T := fun b => u5.ownBlock = some b) hgr (fun b h => h)) (fun b hb h => absurd hb (by have := (HO4.out.lt b h).1; omega))
          case measure => have := Hkm.out; simp [intOf]; omega
        · have hok : takeOk s3 e3 = false := by simpa using hok
          rw [if_neg (by simp [hok])] at hv5
          simp only [hok]
          have HV5 := Lib.hid hv5
          clear hv5 hok
          go_wp2_with fail
          go_ret2
          rw [HV5.out]
          exact ⟨_, rfl, Row.nil _ _ _, HQ4.out.alloc _, HM4.out.alloc _⟩
end Go.Proofs.YthhgfdejadbigaaDoor
/-
  The reference's TakeVars (chapter 9): it takes what the program takes.
-/
set_option linter.unusedVariables false
set_option linter.unusedSimpArgs false
namespace Go.Proofs.YthhgfdejadbigaaDoor.GA
open Go Go.RowKit Go.Proofs.YthhgfdejadbigaaDoorW.PrintWords
open Go.Proofs.Base (Mut Row varCells GVar GVal rightV takeVars takeGo takeFin takeV takeOk takeRaw rdUint rdText rdUint_size rdText_size rdText_res takeRaw_size takeV_wf own_nil bne_t bne_f wp_app varCells_append block_below)
theorem blk_old1 {w : World} {b : Nat} {o' : Obj} (o : Obj) (h : w.heap[b]? = some o') : (w.alloc o).heap[b]? = some o' := by
  have hb : b < w.heap.size := by
    rw [Array.getElem?_eq_some_iff] at h
    exact h.1
  simp only [World.alloc]
  rw [Array.getElem?_push_lt hb, ← h, Array.getElem?_eq_getElem hb]
theorem ref_Right {S : Nat → Prop} (A : Option Addr) (c : Nat) (l : List GVar) (w : World) (hrow : Row w S 4 l.length (.slice A l.length c) (varCells l)) (hc : l.length ≤ c) (hW : ∀ x ∈ l, x.wf) :
    Calls Tryd.prog 24 #[.slice A l.length c] w fun e w' => e = .returned (.bool (rightV l)) ∧ Below w.heap.size w w' := by
  have h := right_k (l := l.map ofVar) (fun x hx => by
    obtain ⟨y, hy, rfl⟩ := List.mem_map.1 hx
    exact Nat.le_trans (hW y hy).1 (by omega)) (Nat.le_refl 200)
  rw [map_to_of] at h
  have h2 := wherryref09_Right.calls 200 A c (l.map ofVar) (rightV l) w (C_of_row hrow) (by rw [List.length_map]; exact hc) h
  rw [List.length_map] at h2
  refine h2.mono ?_
  rintro e w' ⟨rfl, hd⟩
  exact ⟨rfl, by first | exact hd | (obtain ⟨q, rfl⟩ := hd.out; exact Base.below_drewN (Below.refl _ _) q)⟩
theorem own_below {w w1 : World} {base : Nat} {e : TypeId} {sz n : Nat} {v : Value} {xs : List Value} (h : w.ownsRow base e sz v n xs) (hb : Below w.heap.size w w1) : w1.ownsRow base e sz v n xs := h.kept (Base.grown_of_below hb none) (by cases v.ownBlock <;> simp)
def RefTVPost (w : World) (g : Nat) (r : Option (List GVar) × ByteArray × Nat) (e : Ending) (w' : World) : Prop :=
  ∃ v, e = .returned (.tuple #[v, .bool r.1.isSome]) ∧ w'.ownsRow w.heap.size 60 4 v (r.1.getD []).length (varCells (r.1.getD [])) ∧ RdrR w' g r.2.1 r.2.2 ∧ Mut (fun b => b = g) w w'
theorem rdUint_err {s : ByteArray} {e : Nat} (h : (rdUint s e).2.2 ≠ 0) : (rdUint s e).1 = 0 := by
  unfold rdUint at *
  by_cases he : e ≠ 0
  · rw [Base.takeM_wrong he]
  · obtain rfl : e = 0 := by omega
    by_cases hx : (Base.numM (Base.toL s)).2.2 ≠ 0
    · rw [Base.takeM_bad hx]
    · rw [Base.takeM_ok (by omega)] at h; exact absurd rfl h
set_option maxRecDepth 100000 in
set_option maxHeartbeats 2000000 in
theorem ref_TakeVars (g : Nat) (s : ByteArray) (e0 : Nat) (w : World) (hr : RdrR w g s e0) (hs : s.size ≤ 140737488351232) :
    Calls Tryd.prog 34 #[.pointer (some ⟨g, 0, none⟩)] w (RefTVPost w g (takeVars s e0)) := by
  have hg := hr.facts.2.2.2.2
  have hu := rdUint_size s e0
  have hue := @rdUint_err s e0
  have hU := refrd_Uint g s e0 w hr (by omega)
  have HU := Lib.hid hU
  have hulen := Base.rdUint_lt s e0
  clear hU
  by_cases h16 : 16 < (rdUint s e0).1
  · have hv : takeVars s e0 = (none, (rdUint s e0).2) := by unfold takeVars; rw [if_pos h16]
    have HV := Lib.hid hv
    have h16' : (16 : Int) < ((rdUint s e0).1 : Int) := by omega
    clear hv h16 hue
    generalize rdUint s e0 = q at *
    obtain ⟨n, s1, e1⟩ := q
    go_enter Tryd.func34, Tryd.ntmps34
    go_wp2_with (go_at_call 65; refine HU.out.mono ?_; rintro e w1 ⟨rfl, hq1, hm1⟩; have d1 := hq1.facts.2.1; have HQ1 := Lib.hid hq1; have HM1 := Lib.hid hm1; clear hq1 hm1)
    go_ret2
    rw [HV.out]
    exact ⟨_, rfl, Base.own_nil _ _ _ _, HQ1.out, HM1.out⟩
  · have hv : takeVars s e0 = takeFin (takeGo (rdUint s e0).1 (rdUint s e0).2.1 (rdUint s e0).2.2 []) := by unfold takeVars; rw [if_neg h16]
    have h16' : ((rdUint s e0).1 : Int) ≤ 16 := by omega
    have h16n : ¬ (16 : Int) < ((rdUint s e0).1 : Int) := by omega
    generalize rdUint s e0 = q at *
    obtain ⟨n, s1, e1⟩ := q
    by_cases he1 : e1 = 0
    · subst he1
      have HV := Lib.hid hv
      clear hv hue hr
      go_enter Tryd.func34, Tryd.ntmps34
      go_wp2_with (go_at_call 65; refine HU.out.mono ?_; rintro e w1 ⟨rfl, hq1, hm1⟩; have d1 := hq1.facts.2.1)
      clear d1
      go_loopw [5, 6, 7, 8, 9] (fun v i _ _ _ wr => ∃ (k m : Nat) (acc : List GVar) (s2 : ByteArray), i = .int .u64 k ∧ k + m = n ∧ acc.length = k ∧ wr.ownsRow w.heap.size 60 4 v acc.length (varCells acc) ∧ RdrR wr g s2 0 ∧ s2.size ≤ s.size ∧ Mut (fun b => b = g) w wr ∧ Hid (∀ x ∈ acc, x.wf) ∧ Hid (takeVars s e0 = takeFin (takeGo m s2 0 acc))) (fun _ i _ _ _ _ => n - (intOf i).toNat)
      case atStart => exact ⟨0, n, [], s1, rfl, by omega, rfl, Base.own_nil _ _ _ _, hq1, hu, hm1, Lib.hid (fun x hx => by cases hx), HV⟩
      case round =>
        clear hq1 hm1 HV
        obtain ⟨k, m, acc, s2, rfl, hkm, hacc, hown, hq, hs2, hm, HW, HV⟩ := hrel
        cases m with
        | zero =>
          have Hkm := Lib.hid hkm
          have hkn : ¬ k < n := by omega
          have Hacc := Lib.hid hacc
          have HQ := Lib.hid hq
          have hv := HV.out
          unfold takeGo at hv
          rw [takeFin_some] at hv
          have HVV := Lib.hid hv
          have HO := Lib.hid hown
          have hrow := Row.of_own hown
          obtain ⟨A, c, hvs, hac, _⟩ := hrow.open_
          subst hvs
          have HR2 := Lib.hid (ref_Right A c acc wr hrow hac HW.out)
          have HM := Lib.hid hm
          clear hkm hacc HV hv hown hrow hac hm
          by_cases hri : rightV acc = true
          · have hf : takeVars s e0 = (some acc, s2, 0) := by rw [HVV.out, if_pos ⟨rfl, hri⟩]
            have HF := Lib.hid hf
            have hR2 := HR2.out
            rw [hri] at hR2
            have HR3 := Lib.hid hR2
            clear hf hri hR2
            go_wp2_with (go_at_call 24; refine HR3.out.mono ?_; rintro e w3 ⟨rfl, hb3⟩)
            go_ret2
            rw [HF.out]
            exact ⟨_, rfl, own_below HO.out hb3, block_below hb3 HQ.out, HM.out.trans (Mut.of_below hb3 (fun _ => False)) (fun _ _ h => h.elim)⟩
          · have hri : rightV acc = false := by simpa using hri
            have hf : takeVars s e0 = (none, s2, 0) := by rw [HVV.out, if_neg (by simp [hri])]
            have HF := Lib.hid hf
            have hR2 := HR2.out
            rw [hri] at hR2
            have HR3 := Lib.hid hR2
            clear hf hri hR2
            go_wp2_with (go_at_call 24; refine HR3.out.mono ?_; rintro e w3 ⟨rfl, hb3⟩)
            go_ret2
            rw [HF.out]
            exact ⟨_, rfl, Base.own_nil _ _ _ _, block_below hb3 HQ.out, HM.out.trans (Mut.of_below hb3 (fun _ => False)) (fun _ _ h => h.elim)⟩
        | succ m =>
          have hkn : k < n := by omega
          have hv := HV.out
          unfold takeGo at hv
          have hsz := rdText_size 32 s2 0
          have hrs := rdText_res 32 s2 0
          have hT := refrd_Text g s2 0 32 wr hq (by omega) (by omega) (by omega)
          have HT := Lib.hid hT
          generalize rdText 32 s2 0 = q at *
          obtain ⟨nm, s3, e3⟩ := q
          have HV2 := Lib.hid hv
          have Hkm := Lib.hid hkm
          have Hacc := Lib.hid hacc
          have HM := Lib.hid hm
          have HO := Lib.hid hown
          clear hT HV hv hkm hacc hm hq hown
          go_wp2_with (go_at_call 62; refine HT.out.mono ?_; rintro e w3 ⟨rfl, hq3, hm3⟩)
          refine (ref_Take g s3 e3 w3 hq3 (by omega)).mono ?_
          rintro e w4 ⟨rfl, hq4, hm4⟩
          have hwf := takeV_wf (s := s3) (e := e3) (by omega)
          have hz4 := takeRaw_size s3 e3
          have ho4 := own_mut (own_mut HO.out hm3 hg) hm4 hg
          have HO4 := Lib.hid ho4
          have hM4 : Mut (fun b => b = g) w w4 := (HM.out.trans hm3 (fun _ _ h => h)).trans hm4 (fun _ _ h => h)
          have HM4 := Lib.hid hM4
          have HQ4 := Lib.hid hq4
          have hv5 := HV2.out
          have hw4 : w.heap.size ≤ w4.heap.size := hM4.size
          have hok0 : takeOk s3 e3 = true → (takeRaw s3 e3).2.2 = 0 := fun h => by
            unfold takeOk at h
            simp only [Bool.and_eq_true, decide_eq_true_eq] at h
            exact h.1
          clear HV2 HM HO hq3 hq4 hm3 hm4 HT ho4 hM4
          generalize takeRaw s3 e3 = raw at *
          obtain ⟨rv, s4, e4⟩ := raw
          generalize takeV s3 e3 = tv at *
          by_cases hok : takeOk s3 e3 = true
          · rw [if_pos hok] at hv5
            obtain rfl : e4 = 0 := hok0 hok
            simp only [hok]
            have HV5 := Lib.hid hv5
            have HW5 : Hid (∀ x ∈ acc ++ [(⟨nm, tv⟩ : GVar)], x.wf) := Lib.hid (fun x hx => by
              rcases List.mem_append.1 hx with h | h
              · exact HW.out x h
              · rw [List.mem_singleton.1 h]; exact ⟨Nat.le_trans hrs (Nat.le_trans hs2 hs), hwf⟩)
            clear hv5 hok hwf HW hok0
            have hb4 : Below w.heap.size (w4.alloc (.cells #[.int .i64 tv.k, .int .i64 tv.n, .string tv.s] 23)) (w4.alloc (.cells #[.int .i64 tv.k, .int .i64 tv.n, .string tv.s] 23)) := Below.refl _ _
            have ho5 := HO4.out.alloc (.cells #[.int .i64 tv.k, .int .i64 tv.n, .string tv.s] 23)
            have hsz5 : w.heap.size ≤ (w4.alloc (.cells #[.int .i64 tv.k, .int .i64 tv.n, .string tv.s] 23)).heap.size := by simp; omega
            have ha16 : acc.length ≤ 16 := by have := Hacc.out; omega
            have HB4 := Lib.hid hb4
            have HO5 := Lib.hid ho5
            have HS5 := Lib.hid hsz5
            clear hb4 ho5 hsz5
            go_wp2_with (at_builtin; refine wp_app elVar (by decide) rfl (.tmp 36) (.tmp 40) rfl w.heap.size _ acc.length (varCells acc) [_, _, _, _] rfl (by rw [World.size_alloc]; rfl) rfl (by simp [Value.oneCell']) HO5.out HB4.out HS5.out (by omega) (by omega) ?_; intro v1 w5 HO6 HB6 hg6 hat6)
            go_roundw
            case rel =>
              have hl5 := Hkm.out
              have hc : varCells acc ++ [.string nm, .int .i64 tv.k, .int .i64 tv.n, .string tv.s] = varCells (acc ++ [(⟨nm, tv⟩ : GVar)]) := by rw [varCells_append]; rfl
              rw [hc] at HO6
              have hgr := (World.grownBy_alloc w4 (.cells #[.int .i64 tv.k, .int .i64 tv.n, .string tv.s] 23) u5.ownBlock).trans ((World.grownBy_alloc _ _ _).trans hg6)
              refine ⟨k + 1, m, acc ++ [⟨nm, tv⟩], s4, by go_num, by omega, by rw [List.length_append, Hacc.out]; rfl, by rw [List.length_append]; exact HO6, ?_, Nat.le_trans hz4 (Nat.le_trans hsz hs2), ?_, HW5, HV5⟩
              · refine Mut.blk (T := fun b => u5.ownBlock = some b) (Mut.grown hgr (fun b h => h)) HQ4.out (fun h => ?_)
                have := (HO4.out.lt g h).1
                omega
              · exact HM4.out.trans (Mut.grown (T := fun b => u5.ownBlock = some b) hgr (fun b h => h)) (fun b hb h => absurd hb (by have := (HO4.out.lt b h).1; omega))
            case measure => have := Hkm.out; simp [intOf]; omega
          · have hok : takeOk s3 e3 = false := by simpa using hok
            rw [if_neg (by simp [hok])] at hv5
            simp only [hok]
            have HV5 := Lib.hid hv5
            clear hv5 hok hok0
            go_wp2_with fail
            go_ret2
            rw [HV5.out]
            exact ⟨_, rfl, Base.own_nil _ _ _ _, blk_old1 _ HQ4.out, HM4.out.alloc _⟩
    · obtain rfl : n = 0 := hue he1
      have hf : takeVars s e0 = (none, s1, e1) := by
        rw [hv]; unfold takeGo; rw [takeFin_some, if_neg (by simp [he1])]
      have HV := Lib.hid hf
      have b1 : ((e1 : Int) != 0) = true := by rw [bne_iff_ne]; omega
      clear hv hf hue hr he1
      go_enter Tryd.func34, Tryd.ntmps34
      go_wp2_with (go_at_call 65; refine HU.out.mono ?_; rintro e w1 ⟨rfl, hq1, hm1⟩; have d1 := hq1.facts.2.1; have HQ1 := Lib.hid hq1; have HM1 := Lib.hid hm1; clear hq1 hm1)
      go_ret2
      rw [HV.out]
      exact ⟨_, rfl, Base.own_nil _ _ _ _, HQ1.out, HM1.out⟩
end Go.Proofs.YthhgfdejadbigaaDoor.GA
/-
  Chapter 9: the document's examples hold: plain laws over what was printed.
-/
set_option linter.unusedVariables false
set_option linter.unusedSimpArgs false
namespace Go.Proofs.YthhgfdejadbigaaDoor.GA
open Go.RowKit Go.Proofs.YthhgfdejadbigaaDoorW.PrintWords Go.Proofs.YthhgfdejadbigaaDoorW.PrintLast Go.Proofs.YthhgfdejadbigaaDoorW.PrintMore
theorem shown_bytes : value_Bytes.f 1 3 (⟨#[]⟩ : ByteArray) = some ⟨#[1, 6]⟩ := by
  have h : Base.valB 1 3 (⟨#[]⟩ : ByteArray) = ⟨#[1, 6]⟩ := by
    unfold Base.valB
    rw [if_pos (by decide), if_neg (by decide)]
    have e : Base.intB 3 = ⟨#[6]⟩ := by
      unfold Base.intB Base.uintB
      have e2 : Base.zig 3 = 6 := by decide
      rw [e2, Base.uintN_lt (by omega)]; rfl
    rw [e]; rfl
  unfold value_Bytes.f
  rw [if_pos (by decide), h]
theorem shown_show : value_Show.f 3 0 (⟨#[97, 34, 98]⟩ : ByteArray) = some ⟨#[34, 97, 92, 34, 98, 34]⟩ := by
  unfold value_Show.f
  rw [if_pos (by decide)]
  kernel_rfl
theorem shown_put1 : value_Put.f ([] : List (S60)) (⟨#[120]⟩ : ByteArray) 1 1 (⟨#[]⟩ : ByteArray) = some ([⟨⟨#[120]⟩, ⟨1, 1, ⟨#[]⟩⟩⟩], 0) := by
  unfold value_Put.f
  rw [if_pos (by decide)]
  kernel_rfl
theorem shown_put2 : value_Put.f ([⟨⟨#[120]⟩, ⟨1, 1, ⟨#[]⟩⟩⟩] : List (S60)) (⟨#[97]⟩ : ByteArray) 1 2 (⟨#[]⟩ : ByteArray) = some ([⟨⟨#[97]⟩, ⟨1, 2, ⟨#[]⟩⟩⟩, ⟨⟨#[120]⟩, ⟨1, 1, ⟨#[]⟩⟩⟩], 0) := by
  unfold value_Put.f
  rw [if_pos (by decide)]
  kernel_rfl
theorem shown_named : value_Named.f (⟨#[97, 110, 100]⟩ : ByteArray) = some false := by
  unfold value_Named.f
  rw [if_pos (by decide)]
  kernel_rfl
theorem shown_true : wherrylaw09_shown.f = some true := by
  unfold wherrylaw09_shown.f
  rw [shown_bytes, shown_show, shown_put1]
  simp only [Option.bind_some]
  rw [shown_put2, shown_named]
  kernel_rfl
end Go.Proofs.YthhgfdejadbigaaDoor.GA
/-
  What is taken from a new reader, on both sides: contracts that keep what lies below the reader.
-/
set_option linter.unusedVariables false
set_option linter.unusedSimpArgs false
namespace Go.Proofs.YthhgfdejadbigaaDoor
open Go Go.RowKit Go.Proofs.Base
theorem mut_below {g : Nat} {w w' : World} (h : Mut (fun b => b = g) w w') (hg : g ≤ w.heap.size) : Below g w w' :=
  ⟨h.os, h.tape, h.output, h.size, fun k hk => h.block k (by omega) (by omega)⟩
def TVPost (w : World) (g : Nat) (r : Option (List GVar)) (e : Ending) (w' : World) : Prop :=
  ∃ A c, e = .returned (.tuple #[.slice A (r.getD []).length c, .bool r.isSome]) ∧ (r.getD []).length ≤ c ∧ Row w' (fun _ => True) 4 (r.getD []).length (.slice A (r.getD []).length c) (varCells (r.getD [])) ∧ Below g w w'
theorem take_A (g : Nat) (s : ByteArray) (w : World) (hr : w.heap[g]? = some (.cells #[.string s, .int .i64 0] 95 (0, 0))) (hs : s.size ≤ 9223372036854775807) :
    Calls Tryd.prog 30 #[.pointer (some ⟨g, 0, none⟩)] w fun e w' => e = .returned (.tuple #[.agg #[.int .i64 (takeV s 0).k, .int .i64 (takeV s 0).n, .string (takeV s 0).s], .bool (takeOk s 0)]) ∧ Below g w w' := by
  have hr' : Rdr w g s 0 := hr
  refine (val_Take g s 0 w hr' hs).mono ?_
  rintro e w' ⟨rfl, _, hm⟩
  exact ⟨rfl, mut_below hm (Nat.le_of_lt hr'.facts.2.2.2.2)⟩
theorem refTake_A (g : Nat) (s : ByteArray) (w : World) (hr : w.heap[g]? = some (.cells #[.string s, .int .i64 0] 53 (0, 0))) (hs : s.size ≤ 9223372036854775807) :
    Calls Tryd.prog 32 #[.pointer (some ⟨g, 0, none⟩)] w fun e w' => e = .returned (.tuple #[.agg #[.int .i64 (takeV s 0).k, .int .i64 (takeV s 0).n, .string (takeV s 0).s], .bool (takeOk s 0)]) ∧ Below g w w' := by
  have hr' : RdrR w g s 0 := hr
  refine (GA.ref_Take g s 0 w hr' hs).mono ?_
  rintro e w' ⟨rfl, _, hm⟩
  exact ⟨rfl, mut_below hm (Nat.le_of_lt hr'.facts.2.2.2.2)⟩
theorem takeVars_A (g : Nat) (s : ByteArray) (w : World) (hr : w.heap[g]? = some (.cells #[.string s, .int .i64 0] 95 (0, 0))) (hs : s.size ≤ 140737488351232) :
    Calls Tryd.prog 33 #[.pointer (some ⟨g, 0, none⟩)] w (TVPost w g (takeVars s 0).1) := by
  have hr' : Rdr w g s 0 := hr
  refine (val_TakeVars g s 0 w hr' hs).mono ?_
  rintro e w' ⟨v, rfl, hrow, _, hm⟩
  obtain ⟨A, c, rfl, hc, _⟩ := hrow.open_
  exact ⟨A, c, rfl, hc, hrow.weaken (fun _ _ _ => trivial), mut_below hm (Nat.le_of_lt hr'.facts.2.2.2.2)⟩
theorem refTakeVars_A (g : Nat) (s : ByteArray) (w : World) (hr : w.heap[g]? = some (.cells #[.string s, .int .i64 0] 53 (0, 0))) (hs : s.size ≤ 140737488351232) :
    Calls Tryd.prog 34 #[.pointer (some ⟨g, 0, none⟩)] w (TVPost w g (takeVars s 0).1) := by
  have hr' : RdrR w g s 0 := hr
  refine (GA.ref_TakeVars g s 0 w hr' hs).mono ?_
  rintro e w' ⟨v, rfl, ho, _, hm⟩
  have hrow := Row.of_own ho
  obtain ⟨A, c, rfl, hc, _⟩ := hrow.open_
  exact ⟨A, c, rfl, hc, hrow.weaken (fun _ _ _ => trivial), mut_below hm (Nat.le_of_lt hr'.facts.2.2.2.2)⟩
theorem ref09_Same_A (A B : Option Addr) (c d : Nat) (l m : List GVar) (w : World) (h1 : Row w (fun _ => True) 4 l.length (.slice A l.length c) (varCells l)) (h2 : Row w (fun _ => True) 4 m.length (.slice B m.length d) (varCells m)) (hc : l.length ≤ c) (hd : m.length ≤ d) (hl : l.length ≤ 9223372036854775807) :
    Calls Tryd.prog 17 #[.slice A l.length c, .slice B m.length d] w fun e w' => e = .returned (.bool (decide (l = m))) ∧ Below w.heap.size w w' := by
  have hk := GA.same_k (a := l.map GA.ofVar) (b := m.map GA.ofVar) (by rw [List.length_map]; exact hl) (k := l.length + 1) (by rw [List.length_map]; exact Nat.le_refl _)
  rw [GA.map_to_of, GA.map_to_of] at hk
  have h := GA.wherryref09_Same.calls (l.length + 1) A c (l.map GA.ofVar) B d (m.map GA.ofVar) (decide (l = m)) w (GA.C_of_row h1) (by rw [List.length_map]; exact hc) (GA.C_of_row h2) (by rw [List.length_map]; exact hd) hk
  rw [List.length_map, List.length_map] at h
  refine h.mono ?_
  rintro e w' ⟨rfl, hd⟩
  exact ⟨rfl, by first | exact hd | (obtain ⟨q, rfl⟩ := hd.out; exact below_drewN (Below.refl _ _) q)⟩
theorem ref09_Same_AA (A B : Option Addr) (c d : Nat) (l : List GVar) (w : World) (h1 : Row w (fun _ => True) 4 l.length (.slice A l.length c) (varCells l)) (h2 : Row w (fun _ => True) 4 l.length (.slice B l.length d) (varCells l)) (hc : l.length ≤ c) (hd : l.length ≤ d) :
    Calls Tryd.prog 17 #[.slice A l.length c, .slice B l.length d] w fun e w' => e = .returned (.bool true) ∧ Below w.heap.size w w' := by
  obtain ⟨A', c', hv, h3, h4⟩ := h1.open_
  have := ref09_Same_A A B c d l l w h1 h2 hc hd (Nat.le_trans h3 h4)
  rw [decide_eq_true (rfl : l = l)] at this
  exact this
theorem below_box {w w' : World} {o : Obj} (h : Below w.heap.size (w.alloc o) w') : Below w.heap.size w w' := ((Below.refl _ _).alloc (Nat.le_refl _) o).trans h
theorem below_box2 {w w' : World} {o p : Obj} (h : Below (w.heap.size + 1) ((w.alloc o).alloc p) w') : Below w.heap.size w w' := (((Below.refl _ _).alloc (Nat.le_refl _) o).alloc (by simp) p).trans (h.mono (by omega))
theorem blk_box2 {w w' : World} {o p : Obj} (h : Below (w.heap.size + 1) ((w.alloc o).alloc p) w') : w'.heap[w.heap.size]? = some o := (h.block _ (by omega)).trans (GA.blk_old1 _ (blk_new0 _ _ rfl))
theorem law_shown (w : World) : Calls Tryd.prog 10 #[] w fun e w' => e = .returned (.bool true) ∧ Below w.heap.size w w' := by
  have h := GA.wherrylaw09_shown.calls true w GA.shown_true
  exact h
end Go.Proofs.YthhgfdejadbigaaDoor
/-
  The walk of the law ValueTakes.
-/
set_option linter.unusedVariables false
set_option linter.unusedSimpArgs false
namespace Go.Proofs.YthhgfdejadbigaaDoor
open Go Go.RowKit Go.Proofs.Base
set_option maxRecDepth 100000 in
set_option maxHeartbeats 8000000 in
theorem law_ValueTakes (s : ByteArray) (w : World) (hs : s.size ≤ 140737488351232) :
    Calls Tryd.prog 8 #[.string s] w fun e w' => e = .returned (.bool true) ∧ Below w.heap.size w w' := by
  have hs2 : s.size ≤ 9223372036854775807 := by omega
  have hT1 := fun g W h => take_A g s W h hs2
  have hT2 := fun g W h => refTake_A g s W h hs2
  have hT3 := fun g W h => takeVars_A g s W h hs
  have hT4 := fun g W h => refTakeVars_A g s W h hs
  unfold TVPost at hT3 hT4
  clear hs hs2
  generalize (takeV s 0).k = k at hT1 hT2
  generalize (takeV s 0).n = n at hT1 hT2
  generalize (takeV s 0).s = t at hT1 hT2
  generalize takeOk s 0 = ok at hT1 hT2
  generalize (takeVars s 0).1.getD [] = l at hT3 hT4
  generalize (takeVars s 0).1.isSome = is at hT3 hT4
  have hbt : (t.toList == t.toList) = true := by simp
  have hbk : (k == k) = true := by simp
  have hbn : (n == n) = true := by simp
  have hbo : (ok == ok) = true := by simp
  have hbi : (is == is) = true := by simp
  have HT1 := Lib.hid hT1
  have HT2 := Lib.hid hT2
  have HT3 := Lib.hid hT3
  have HT4 := Lib.hid hT4
  clear hT1 hT2 hT3 hT4
  go_enter Tryd.func8, Tryd.ntmps8
  go_wp2_with (first
    | (go_at_call 10; refine (law_shown _).mono ?_; rintro e w1 ⟨rfl, hb1⟩)
    | (go_at_call 31; go_in)
    | (go_at_call 30; refine (HT1.out _ _ (blk_new0 _ _ (by simp))).mono ?_; rintro e w2 ⟨rfl, hb2⟩; have HB2 := Lib.hid (below2 hb1 (below_box hb2)); clear hb1 hb2)
    | (go_at_call 32; refine (HT2.out _ _ (blk_new0 _ _ (by simp))).mono ?_; rintro e w3 ⟨rfl, hb3⟩; have B1 := blk_box2 hb3; have HB3 := Lib.hid (below2 HB2.out (below_box2 hb3)); clear hb3)
    | (go_at_call 33; refine (HT3.out _ _ (blk_new0 _ _ (by simp))).mono ?_; rintro e w4 ⟨A1, c1, rfl, hc1, hrow1, hb4⟩; have D2 := blk_box2 hb4; have D1 := block_below (below_box2 hb4) B1; have HR1 := Lib.hid hrow1; have HC1 := Lib.hid hc1; have HB4 := Lib.hid (below2 HB3.out (below_box2 hb4)); clear hb4 B1 hrow1 hc1)
    | (go_at_call 34; refine (HT4.out _ _ (blk_new0 _ _ (by simp))).mono ?_; rintro e w5 ⟨A2, c2, rfl, hc2, hrow2, hb5⟩; have E2 := block_below (below_box hb5) D2; have E1 := block_below (below_box hb5) D1; have HR2 := Lib.hid hrow2; have HC2 := Lib.hid hc2; have HR3 := Lib.hid (HR1.out.below (below_box hb5)); have HB5 := Lib.hid (below2 HB4.out (below_box hb5)); clear hb5 D1 D2 hrow2 hc2)
    | (go_at_call 17; refine (ref09_Same_AA _ _ _ _ _ _ HR3.out HR2.out HC1.out HC2.out).mono ?_; rintro e w6 ⟨rfl, hb6⟩; have F2 := block_below hb6 E2; have F1 := block_below hb6 E1; have p0 := (cell_of_blk F1 0).trans (rfl : _ = some (Value.int .i64 k)); have p1 := (cell_of_blk F1 1).trans (rfl : _ = some (Value.int .i64 n)); have p2 := (cell_of_blk F1 2).trans (rfl : _ = some (Value.string t)); have q0 := (cell_of_blk F2 0).trans (rfl : _ = some (Value.int .i64 k)); have q1 := (cell_of_blk F2 1).trans (rfl : _ = some (Value.int .i64 n)); have q2 := (cell_of_blk F2 2).trans (rfl : _ = some (Value.string t)); have HB6 := Lib.hid (below2 HB5.out hb6); clear hb6 E1 E2))
  go_ret
  exact ⟨rfl, HB6.out⟩
end Go.Proofs.YthhgfdejadbigaaDoor
/-
  The arguments of the laws, opened: values, variables, records as data. Printed by genopen.py.
-/
set_option linter.unusedVariables false
set_option linter.unusedSimpArgs false
namespace Go.Proofs.YthhgfdejadbigaaDoor
open Go Go.RowKit Go.Proofs.Base Go.WideShapes Go.ChangeShapes
theorem cells_int : Tryd.prog.cellsOf 3 = 1 := by kernel_rfl
theorem cells_int64 : Tryd.prog.cellsOf 2 = 1 := by kernel_rfl
theorem cells_uint64 : Tryd.prog.cellsOf 89 = 1 := by kernel_rfl
theorem cells_string : Tryd.prog.cellsOf 9 = 1 := by kernel_rfl
theorem cells_vars : Tryd.prog.cellsOf 29 = 1 := by kernel_rfl
theorem cells_value : Tryd.prog.cellsOf 23 = 3 := by kernel_rfl
theorem cells_var : Tryd.prog.cellsOf 60 = 4 := by kernel_rfl
section
variable {H : Type} {enc : TypeId × Value → H} {w : World} {base : Nat} {spare : Nat → Bool} {held : Bool}
def Light (t : TypeId) (d : DataW H) : Prop := ∀ n ∈ d.weights Tryd.prog t, n ≤ 140737488351232
theorem light_part {t : TypeId} {fs : Array Field} {ds : List (DataW H)} (hu : Tryd.prog.underlying t = some (.struct fs)) (h : Light t (.agg ds)) {j : Nat} {f : Field} {d : DataW H} (hf : fs[j]? = some f) (hd : ds[j]? = some d) : Light f.type d := by
  intro n hn
  refine h n ?_
  simp only [DataW.weights, hu]
  exact DataW.weights_mem_each (j := j) (by simp [hf]) hd n hn
theorem mem_weightsAll {e : TypeId} : ∀ {l : List (DataW H)} {d : DataW H}, d ∈ l → ∀ n ∈ d.weights Tryd.prog e, n ∈ DataW.weightsAll Tryd.prog e l
  | x :: r, d, h, n, hn => by
    simp only [DataW.weightsAll, List.mem_append]
    rcases List.mem_cons.1 h with rfl | h
    · exact .inl hn
    · exact .inr (mem_weightsAll h n hn)
theorem light_elem {t e : TypeId} {es sp : List (DataW H)} (hu : Tryd.prog.underlying t = some (.slice e)) (h : Light t (.slice es sp)) {d : DataW H} (hd : d ∈ es) : Light e d := by
  intro n hn
  refine h n ?_
  simp only [DataW.weights, hu, List.mem_cons, List.mem_append]
  exact .inr (.inl (mem_weightsAll hd n hn))
theorem fld {fs : Array Field} {cs : List Value} {xs : List (DataW H × List MemPlace)} {m : Nat} (hf : ∀ (i : Nat) (f : Field), fs[i]? = some f → DataW.trod enc Tryd.prog w base spare held m f.type ((cs.drop f.offset).take (Tryd.prog.cellsOf f.type)) = xs[i]?)
    {i : Nat} {f : Field} (hi : fs[i]? = some f) {t : TypeId} (ht : f.type = t) {k : Nat} (hk : Tryd.prog.cellsOf t = k) {c : List Value} (hc : (cs.drop f.offset).take k = c) {x : DataW H × List MemPlace} (hx : xs[i]? = some x) : DataW.trod enc Tryd.prog w base spare held m t c = some x := by
  have h := hf i f hi
  rw [ht, hk, hc, hx] at h
  exact h
theorem read_i64 {t : TypeId} {n : Nat} {c : Value} {x : DataW H × List MemPlace} (hu : Tryd.prog.underlying t = some (.int .i64)) (h : DataW.trod enc Tryd.prog w base spare held n t [c] = some x) : ∃ k, c = .int .i64 k ∧ i64 k := by
  obtain ⟨k, e, _, wk⟩ := DataW.trod_int hu h
  exact ⟨k, by simpa using e, by have := bounds_i64 wk; exact this⟩
theorem read_u64 {t : TypeId} {n : Nat} {c : Value} {x : DataW H × List MemPlace} (hu : Tryd.prog.underlying t = some (.int .u64)) (h : DataW.trod enc Tryd.prog w base spare held n t [c] = some x) : ∃ k, c = .int .u64 k ∧ u64 k := by
  obtain ⟨k, e, _, wk⟩ := DataW.trod_int hu h
  exact ⟨k, by simpa using e, by have := bounds_u64 wk; exact this⟩
theorem read_str {t : TypeId} {n : Nat} {c : Value} {x : DataW H × List MemPlace} (hu : Tryd.prog.underlying t = some .string) (h : DataW.trod enc Tryd.prog w base spare held n t [c] = some x) (hl : Light t x.1) : ∃ s, c = .string s ∧ okS s := by
  obtain ⟨s, e, rfl, _⟩ := DataW.trod_string hu h
  refine ⟨s, by simpa using e, ?_⟩
  have := hl s.data.toList.length (by simp [DataW.weights])
  exact Nat.le_trans (by show s.data.size ≤ _; simp) this
theorem varCells_get {l : List GVar} {i j : Nat} {u : Value} (h : i < l.length) (hj : j < 4) (hu : (varCells l)[i * 4 + j]? = some u) : l[i].cells[j]? = some u := by
  obtain ⟨a0, a1, a2, a3⟩ := varCells_at h
  match j, hj with
  | 0, _ => rw [a0] at hu; exact hu
  | 1, _ => rw [a1] at hu; exact hu
  | 2, _ => rw [a2] at hu; exact hu
  | 3, _ => rw [a3] at hu; exact hu
set_option maxRecDepth 100000 in
theorem read_value {n : Nat} {cs : List Value} {x : DataW H × List MemPlace} (h : DataW.trod enc Tryd.prog w base spare held n 23 cs = some x) (hl : Light 23 x.1) : ∃ v : GVal, cs = v.cells ∧ v.wf := by
  obtain ⟨xs, m, _, rfl, hcl, hlen, hf⟩ := DataW.trod_struct Tryd.underlying23 h
  match cs, hcl.trans cells_value, xs, hlen with
  | [c0, c1, c2], _, [x0, x1, x2], _ =>
    have g0 := fld hf (i := 0) rfl rfl cells_int (c := [c0]) rfl (x := x0) rfl
    have g1 := fld hf (i := 1) rfl rfl cells_int64 (c := [c1]) rfl (x := x1) rfl
    have g2 := fld hf (i := 2) rfl rfl cells_string (c := [c2]) rfl (x := x2) rfl
    obtain ⟨k, rfl, wk⟩ := read_i64 Tryd.underlying3 (x := x0) g0
    obtain ⟨l, rfl, wl⟩ := read_i64 Tryd.underlying2 (x := x1) g1
    obtain ⟨s, rfl, ws⟩ := read_str Tryd.underlying9 (x := x2) g2 (light_part Tryd.underlying23 hl (j := 2) rfl rfl)
    exact ⟨⟨k, l, s⟩, rfl, wk, wl, ws⟩
set_option maxRecDepth 100000 in
theorem read_var {n : Nat} {cs : List Value} {x : DataW H × List MemPlace} (h : DataW.trod enc Tryd.prog w base spare held n 60 cs = some x) (hl : Light 60 x.1) : ∃ v : GVar, cs = v.cells ∧ v.wf := by
  obtain ⟨xs, m, _, rfl, hcl, hlen, hf⟩ := DataW.trod_struct Tryd.underlying60 h
  match cs, hcl.trans cells_var, xs, hlen with
  | [c0, c1, c2, c3], _, [x0, x1], _ =>
    have g0 := fld hf (i := 0) rfl rfl cells_string (c := [c0]) rfl (x := x0) rfl
    have g1 := fld hf (i := 1) rfl rfl cells_value (c := [c1, c2, c3]) rfl (x := x1) rfl
    obtain ⟨s, rfl, ws⟩ := read_str Tryd.underlying9 (x := x0) g0 (light_part Tryd.underlying60 hl (j := 0) rfl rfl)
    obtain ⟨v, hv, wv⟩ := read_value (x := x1) (cs := [c1, c2, c3]) g1 (light_part Tryd.underlying60 hl (j := 1) rfl rfl)
    obtain ⟨rfl, rfl, rfl⟩ : c1 = .int .i64 v.k ∧ c2 = .int .i64 v.n ∧ c3 = .string v.s := by simpa [GVal.cells] using hv
    exact ⟨⟨s, v⟩, rfl, ws, wv⟩
set_option maxRecDepth 100000 in
theorem read_vars {n : Nat} {c : Value} {x : DataW H × List MemPlace} (h : DataW.trod enc Tryd.prog w base spare held n 29 [c] = some x) (hl : Light 29 x.1) :
    ∃ l : List GVar, Row w (fun _ => True) 4 l.length c (varCells l) ∧ ∀ y ∈ l, y.wf := by
  rcases Go.Deep.open_slice Tryd.underlying29 h with ⟨hcs, _⟩ | ⟨a, len, cap, m, n', D, Pl, hcs, _, hlc, hcm, hm, rfl, hi⟩
  · obtain rfl : c = .slice none 0 0 := by simpa using hcs
    exact ⟨[], Row.nil _ _ _, fun y hy => by cases hy⟩
  · obtain rfl : c = .slice (some a) len cap := by simpa using hcs
    have hlm : len ≤ m := by rw [hm]; split <;> omega
    have hex : ∀ i, ∃ v : GVar, i < len → v.wf ∧ ∀ j u, v.cells[j]? = some u → w.cell? (a.add (i * 4 + j)) = some u := by
      intro i
      by_cases hil : i < len
      · obtain ⟨cs', hc, ht⟩ := hi i (by omega)
        rw [cells_var] at hc
        obtain ⟨v, rfl, wv⟩ := read_var ht (light_elem Tryd.underlying29 hl (List.mem_map.2 ⟨i, List.mem_range.2 hil, rfl⟩))
        obtain ⟨_, hcl, hat⟩ := World.cells?_some hc
        refine ⟨v, fun _ => ⟨wv, fun j u hj => ?_⟩⟩
        have hj4 : j < 4 := (List.getElem?_eq_some_iff.1 hj).1
        have := hat j hj4
        rw [← Go.Deep.add_add, this, hj]
      · exact ⟨⟨ByteArray.empty, zeroV⟩, fun h => absurd h hil⟩
    obtain ⟨f, hf⟩ := Classical.axiomOfChoice hex
    refine ⟨(List.range len).map f, ⟨some a, cap, by simp, by simpa using hlc, hcm, ?_, fun h => (nomatch h), fun hn => ?_⟩, fun y hy => ?_⟩
    · rw [varCells_len]
    · have hn' : 0 < len := by simpa using hn
      have h0 := (hf 0 hn').2 0 _ rfl
      obtain ⟨b, o, s⟩ := a
      have hs : s = none := by simpa [Addr.add] using World.cell?_spot h0
      subst hs
      refine ⟨b, o, rfl, trivial, by simpa [Addr.add] using World.block_lt_of_cell? _ _ h0, fun j u hj => ?_⟩
      have hj2 : j < len * 4 := by
        have := (List.getElem?_eq_some_iff.1 hj).1
        rw [varCells_len] at this
        simpa using this
      have e : j = (j / 4) * 4 + j % 4 := by omega
      rw [e] at hj
      have hq : j / 4 < ((List.range len).map f).length := by simp; omega
      have hv := varCells_get hq (Nat.mod_lt j (by decide)) hj
      have := (hf (j / 4) (by omega)).2 (j % 4) u (by simpa using hv)
      rw [Base.add_plain] at this
      rw [e, ← Nat.add_assoc]
      simpa [Nat.add_assoc] using this
    · obtain ⟨i, hi', rfl⟩ := List.mem_map.1 hy
      exact (hf i (List.mem_range.1 hi')).1
end
end Go.Proofs.YthhgfdejadbigaaDoor
