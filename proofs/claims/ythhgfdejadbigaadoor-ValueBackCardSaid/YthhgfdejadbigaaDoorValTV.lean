/-
  Merged from GAx17, RefTk, ValC, ValD, ValE, ValTV.
-/
import Derived.Test.YthhgfdejadbigaaDoorGAx6
import Derived.Test.YthhgfdejadbigaaDoorLawD
import Derived.Test.YthhgfdejadbigaaDoorClone
namespace Go.Proofs.YthhgfdejadbigaaDoor.GA
open Go.RowKit Go.Proofs.YthhgfdejadbigaaDoorW.PrintWords Go.Proofs.YthhgfdejadbigaaDoorW.PrintLast Go.Proofs.YthhgfdejadbigaaDoorW.PrintMore
attribute [local go_sem] max2_int min2_int max_two min_two max_three min_three max_four min_four   -- for this text's walks alone
set_option linter.unusedVariables false
set_option linter.unusedSimpArgs false
def IsS53 (w0 W : World) (g : Nat) (f0 : ByteArray) (f1 : Int) : Prop := W.heap[g]? = some (.cells #[.string f0, .int .i64 f1] 53 (0, 0)) ∧ w0.heap.size ≤ g
theorem IsS53.grown {w0 W : World} {g : Nat} {f0 : ByteArray} {f1 : Int} {W1 : World} {row : Option Nat} (h : IsS53 w0 W g f0 f1) (hw : W.grownBy W1 row) (hne : some g ≠ row) : IsS53 w0 W1 g f0 f1 := by
  obtain ⟨hb, hg⟩ := h
  exact ⟨blk_grown hb hw hne, hg⟩
theorem IsS53.kept {w0 W : World} {g : Nat} {f0 : ByteArray} {f1 : Int} {W1 : World} {S : Nat → Prop} (h : IsS53 w0 W g f0 f1) (hk : Kept W W1 S) (hne : ¬ S g) : IsS53 w0 W1 g f0 f1 := by
  obtain ⟨hb, hg⟩ := h
  exact ⟨blk_kept hb hk hne, hg⟩
theorem IsS53.below {w0 W : World} {g : Nat} {f0 : ByteArray} {f1 : Int} {W1 : World} (h : IsS53 w0 W g f0 f1) (hw : Below W.heap.size W W1) : IsS53 w0 W1 g f0 f1 := h.grown (grown_of_below hw none) (by simp)
theorem IsS53.alloc {w0 W : World} {g : Nat} {f0 : ByteArray} {f1 : Int} (h : IsS53 w0 W g f0 f1) (o : Obj) : IsS53 w0 (W.alloc o) g f0 f1 := h.below (below_alloc (Below.refl _ _) o)
theorem IsS53.drewN {w0 W : World} {g : Nat} {f0 : ByteArray} {f1 : Int} (h : IsS53 w0 W g f0 f1) (m : Nat) : IsS53 w0 (W.drewN m) g f0 f1 := h
theorem IsS53.drew {w0 W : World} {g : Nat} {f0 : ByteArray} {f1 : Int} (h : IsS53 w0 W g f0 f1) : IsS53 w0 W.drew g f0 f1 := h
theorem IsS53.at_ {w0 W : World} {g : Nat} {f0 : ByteArray} {f1 : Int} {w' : World} {m : Nat} (hq : W.drewN m = w') (h : IsS53 w0 W g f0 f1) : IsS53 w0 w' g f0 f1 := by subst hq; exact IsS53.drewN h m
theorem IsS53.apart {w0 W : World} {g : Nat} {f0 : ByteArray} {f1 : Int} {α : Type} {d : Kd α} {e : Nat} {base : Nat} {ok : Nat → Prop} {v : Value} {xs : List α} (h : IsS53 w0 W g f0 f1) (ho : d.R e W base ok v xs) (ht : ∀ q, q ∈ e :: d.E → q ≠ 53) : d.R e W base (fun k => ok k ∧ k ≠ g) v xs := by
  obtain ⟨hb, hg⟩ := h
  exact Kd.R_types ho hb ht
theorem IsS53.own_ne {w0 W : World} {g : Nat} {f0 : ByteArray} {f1 : Int} {α : Type} {d : Kd α} {e : Nat} {base : Nat} {ok : Nat → Prop} {v : Value} {xs : List α} (h : IsS53 w0 W g f0 f1) (ho : d.R e W base ok v xs) (ht : e ≠ 53) : some g ≠ v.ownBlock := by
  obtain ⟨hb, hg⟩ := h
  exact Kd.R_ne ho hb ht
theorem IsS53.lt {w0 W : World} {g : Nat} {f0 : ByteArray} {f1 : Int} (h : IsS53 w0 W g f0 f1) : g < W.heap.size := by
  obtain ⟨hb, hg⟩ := h
  exact blk_lt hb
theorem IsS53.ge {w0 W : World} {g : Nat} {f0 : ByteArray} {f1 : Int} (h : IsS53 w0 W g f0 f1) : w0.heap.size ≤ g := by
  obtain ⟨hb, hg⟩ := h
  exact hg
theorem IsS53.far {w0 W : World} {g : Nat} {f0 : ByteArray} {f1 : Int} {p : Addr} (h : IsS53 w0 W g f0 f1) (hne : g ≠ p.block) (u : Value) : IsS53 w0 (W.setCell p u) g f0 f1 := by
  obtain ⟨hb, hg⟩ := h
  exact ⟨blk_far hb hne u, hg⟩
theorem cellS53_0 {W : World} {g : Nat} {f0 : ByteArray} {f1 : Int} (h : W.heap[g]? = some (.cells #[.string f0, .int .i64 f1] 53 (0, 0))) : W.cell? ⟨g, 0, none⟩ = some (.string f0) := (blk_cell h 0).trans rfl
theorem IsS53.set_0 {w0 W : World} {g : Nat} {f0 : ByteArray} {f1 : Int} (h : IsS53 w0 W g f0 f1) (x : ByteArray) : IsS53 w0 (W.setCell ⟨g, 0, none⟩ (.string x)) g x f1 := by
  obtain ⟨hb, hg⟩ := h
  exact ⟨by simpa using blk_set hb 0 (.string x), hg⟩
theorem cellS53_1 {W : World} {g : Nat} {f0 : ByteArray} {f1 : Int} (h : W.heap[g]? = some (.cells #[.string f0, .int .i64 f1] 53 (0, 0))) : W.cell? ⟨g, 1, none⟩ = some (.int .i64 f1) := (blk_cell h 1).trans rfl
theorem IsS53.set_1 {w0 W : World} {g : Nat} {f0 : ByteArray} {f1 : Int} (h : IsS53 w0 W g f0 f1) (x : Int) : IsS53 w0 (W.setCell ⟨g, 1, none⟩ (.int .i64 x)) g f0 x := by
  obtain ⟨hb, hg⟩ := h
  exact ⟨by simpa using blk_set hb 1 (.int .i64 x), hg⟩
theorem IsS53.new (w0 W : World) (f0 : ByteArray) (f1 : Int) (hB : Below w0.heap.size w0 W) : IsS53 w0 (W.alloc (.cells #[.string f0, .int .i64 f1] 53)) W.heap.size f0 f1 := ⟨by simpa using heap_alloc_new W _, hB.size⟩
def wherryref01_Reader_Byte.f (s0_0 : ByteArray) (s0_1 : Int) : Option (Int × ByteArray × Int) := if 0 ≤ s0_1 ∧ s0_0.size ≤ 9223372036854775807 then some (((Base.rdByte s0_0 s0_1.toNat).1 : Int), (Base.rdByte s0_0 s0_1.toNat).2.1, ((Base.rdByte s0_0 s0_1.toNat).2.2 : Int)) else none
theorem wherryref01_Reader_Byte.calls (g : Nat) (s0_0 : ByteArray) (s0_1 : Int) (r1 : Int) (r2 : ByteArray) (r3 : Int) (w0 w : World) (hI : IsS53 w0 w g s0_0 s0_1) (hB : Below w0.heap.size w0 w) (h : wherryref01_Reader_Byte.f s0_0 s0_1 = some (r1, r2, r3)) :
    Calls Tryd.prog 61 #[.pointer (some ⟨g, 0, none⟩)] w fun e w' => e = .returned (.int .u8 r1) ∧ IsS53 w0 w' g r2 r3 ∧ Below w0.heap.size w0 w' ∧ KeepBut w w' g none := by
  unfold wherryref01_Reader_Byte.f at h
  split at h
  · rename_i hw
    simp only [Option.some.injEq, Prod.mk.injEq] at h
    obtain ⟨rfl, rfl, rfl⟩ := h
    have hr : RdrR w g s0_0 s0_1.toNat := by unfold RdrR; rw [Int.toNat_of_nonneg hw.1]; exact hI.1
    refine (refrd_Byte g s0_0 s0_1.toNat w hr hw.2).mono ?_
    rintro e w' ⟨rfl, hr', hm⟩
    exact ⟨rfl, ⟨hr', hI.2⟩, below_mut hB hm hI.2, keep_mut hm⟩
  · cases h
def wherryref01_Reader_Text.f (s0_0 : ByteArray) (s0_1 : Int) (a1 : Int) : Option (ByteArray × ByteArray × Int) := if 0 ≤ s0_1 ∧ s0_0.size ≤ 9223372036854775807 ∧ -9223372036854775808 ≤ a1 ∧ a1 ≤ 9223372036854775807 then some (((Base.rdText a1 s0_0 s0_1.toNat).1), (Base.rdText a1 s0_0 s0_1.toNat).2.1, ((Base.rdText a1 s0_0 s0_1.toNat).2.2 : Int)) else none
theorem wherryref01_Reader_Text.calls (g : Nat) (s0_0 : ByteArray) (s0_1 : Int) (a1 : Int) (r1 : ByteArray) (r2 : ByteArray) (r3 : Int) (w0 w : World) (hI : IsS53 w0 w g s0_0 s0_1) (hB : Below w0.heap.size w0 w) (h : wherryref01_Reader_Text.f s0_0 s0_1 a1 = some (r1, r2, r3)) :
    Calls Tryd.prog 62 #[.pointer (some ⟨g, 0, none⟩), .int .i64 a1] w fun e w' => e = .returned (.string r1) ∧ IsS53 w0 w' g r2 r3 ∧ Below w0.heap.size w0 w' ∧ KeepBut w w' g none := by
  unfold wherryref01_Reader_Text.f at h
  split at h
  · rename_i hw
    simp only [Option.some.injEq, Prod.mk.injEq] at h
    obtain ⟨rfl, rfl, rfl⟩ := h
    have hr : RdrR w g s0_0 s0_1.toNat := by unfold RdrR; rw [Int.toNat_of_nonneg hw.1]; exact hI.1
    refine (refrd_Text g s0_0 s0_1.toNat a1 w hr hw.2.1 hw.2.2.1 hw.2.2.2).mono ?_
    rintro e w' ⟨rfl, hr', hm⟩
    exact ⟨rfl, ⟨hr', hI.2⟩, below_mut hB hm hI.2, keep_mut hm⟩
  · cases h
def wherryref01_Reader_Int.f (s0_0 : ByteArray) (s0_1 : Int) : Option (Int × ByteArray × Int) := if 0 ≤ s0_1 ∧ s0_0.size ≤ 9223372036854775807 then some (((Base.rdInt s0_0 s0_1.toNat).1), (Base.rdInt s0_0 s0_1.toNat).2.1, ((Base.rdInt s0_0 s0_1.toNat).2.2 : Int)) else none
theorem wherryref01_Reader_Int.calls (g : Nat) (s0_0 : ByteArray) (s0_1 : Int) (r1 : Int) (r2 : ByteArray) (r3 : Int) (w0 w : World) (hI : IsS53 w0 w g s0_0 s0_1) (hB : Below w0.heap.size w0 w) (h : wherryref01_Reader_Int.f s0_0 s0_1 = some (r1, r2, r3)) :
    Calls Tryd.prog 63 #[.pointer (some ⟨g, 0, none⟩)] w fun e w' => e = .returned (.int .i64 r1) ∧ IsS53 w0 w' g r2 r3 ∧ Below w0.heap.size w0 w' ∧ KeepBut w w' g none := by
  unfold wherryref01_Reader_Int.f at h
  split at h
  · rename_i hw
    simp only [Option.some.injEq, Prod.mk.injEq] at h
    obtain ⟨rfl, rfl, rfl⟩ := h
    have hr : RdrR w g s0_0 s0_1.toNat := by unfold RdrR; rw [Int.toNat_of_nonneg hw.1]; exact hI.1
    refine (refrd_Int g s0_0 s0_1.toNat w hr hw.2).mono ?_
    rintro e w' ⟨rfl, hr', hm⟩
    exact ⟨rfl, ⟨hr', hI.2⟩, below_mut hB hm hI.2, keep_mut hm⟩
  · cases h
def wherryref09_Take.f (s0_0 : ByteArray) (s0_1 : Int) : Option (Int × Int × ByteArray × Bool × ByteArray × Int) := (wherryref01_Reader_Byte.f s0_0 s0_1).bind fun bt321 => (if (wrap64 (bt321.1)) = 3 then ((wherryref01_Reader_Text.f bt321.2.1 bt321.2.2 1024).bind fun bt325 => ((wherryref09_May.f (wrap64 (bt321.1)) 0 bt325.1).bind fun t328 => (if bt325.2.2 = 0 then (if t328 = true then (some (wrap64 (bt321.1), 0, bt325.1, true, bt325.2.1, bt325.2.2)) else (some (0, 0, (⟨#[]⟩ : ByteArray), false, bt325.2.1, bt325.2.2))) else (some (0, 0, (⟨#[]⟩ : ByteArray), false, bt325.2.1, bt325.2.2))))) else ((wherryref01_Reader_Int.f bt321.2.1 bt321.2.2).bind fun bt329 => ((wherryref09_May.f (wrap64 (bt321.1)) bt329.1 (⟨#[]⟩ : ByteArray)).bind fun t332 => (if bt329.2.2 = 0 then (if t332 = true then (some (wrap64 (bt321.1), bt329.1, (⟨#[]⟩ : ByteArray), true, bt329.2.1, bt329.2.2)) else (some (0, 0, (⟨#[]⟩ : ByteArray), false, bt329.2.1, bt329.2.2))) else (some (0, 0, (⟨#[]⟩ : ByteArray), false, bt329.2.1, bt329.2.2))))))
set_option maxHeartbeats 8000000 in
set_option maxRecDepth 100000 in
theorem wherryref09_Take.calls (g : Nat) (s0_0 : ByteArray) (s0_1 : Int) (r1 : Int) (r2 : Int) (r3 : ByteArray) (r4 : Bool) (r5 : ByteArray) (r6 : Int) (w0 w : World) (hI : IsS53 w0 w g s0_0 s0_1) (hB : Below w0.heap.size w0 w) (h : wherryref09_Take.f s0_0 s0_1 = some (r1, r2, r3, r4, r5, r6)) :
    Calls Tryd.prog 32 #[.pointer (some ⟨g, 0, none⟩)] w fun e w' => e = .returned (.tuple #[.agg #[.int .i64 r1, .int .i64 r2, .string r3], .bool r4]) ∧ IsS53 w0 w' g r5 r6 ∧ Below w0.heap.size w0 w' ∧ KeepBut w w' g none := by
  have hu23 := Tryd.underlying23
  have HI0 := Aside0.mk hI
  have HK := Aside0.mk (KeepBut.refl w g none)
  have HL := Aside0.mk hB.size
  clear hI
  have HW0 := Aside0.mk hB.size
  have HB := Aside0.mk hB
  clear hB
  have H : ((wherryref01_Reader_Byte.f s0_0 s0_1).bind fun bt321 => (if (wrap64 (bt321.1)) = 3 then ((wherryref01_Reader_Text.f bt321.2.1 bt321.2.2 1024).bind fun bt325 => ((wherryref09_May.f (wrap64 (bt321.1)) 0 bt325.1).bind fun t328 => (if bt325.2.2 = 0 then (if t328 = true then (some (wrap64 (bt321.1), 0, bt325.1, true, bt325.2.1, bt325.2.2)) else (some (0, 0, (⟨#[]⟩ : ByteArray), false, bt325.2.1, bt325.2.2))) else (some (0, 0, (⟨#[]⟩ : ByteArray), false, bt325.2.1, bt325.2.2))))) else ((wherryref01_Reader_Int.f bt321.2.1 bt321.2.2).bind fun bt329 => ((wherryref09_May.f (wrap64 (bt321.1)) bt329.1 (⟨#[]⟩ : ByteArray)).bind fun t332 => (if bt329.2.2 = 0 then (if t332 = true then (some (wrap64 (bt321.1), bt329.1, (⟨#[]⟩ : ByteArray), true, bt329.2.1, bt329.2.2)) else (some (0, 0, (⟨#[]⟩ : ByteArray), false, bt329.2.1, bt329.2.2))) else (some (0, 0, (⟨#[]⟩ : ByteArray), false, bt329.2.1, bt329.2.2))))))) = some (r1, r2, r3, r4, r5, r6) := h
  clear h
  replace H := Option.bind_eq_some_iff.mp H
  obtain ⟨⟨t321, t322, t323⟩, A20, H⟩ := H
  replace H : (if (wrap64 (t321)) = 3 then ((wherryref01_Reader_Text.f t322 t323 1024).bind fun bt325 => ((wherryref09_May.f (wrap64 (t321)) 0 bt325.1).bind fun t328 => (if bt325.2.2 = 0 then (if t328 = true then (some (wrap64 (t321), 0, bt325.1, true, bt325.2.1, bt325.2.2)) else (some (0, 0, (⟨#[]⟩ : ByteArray), false, bt325.2.1, bt325.2.2))) else (some (0, 0, (⟨#[]⟩ : ByteArray), false, bt325.2.1, bt325.2.2))))) else ((wherryref01_Reader_Int.f t322 t323).bind fun bt329 => ((wherryref09_May.f (wrap64 (t321)) bt329.1 (⟨#[]⟩ : ByteArray)).bind fun t332 => (if bt329.2.2 = 0 then (if t332 = true then (some (wrap64 (t321), bt329.1, (⟨#[]⟩ : ByteArray), true, bt329.2.1, bt329.2.2)) else (some (0, 0, (⟨#[]⟩ : ByteArray), false, bt329.2.1, bt329.2.2))) else (some (0, 0, (⟨#[]⟩ : ByteArray), false, bt329.2.1, bt329.2.2)))))) = some (r1, r2, r3, r4, r5, r6) := H
  have A2 := Aside0.mk A20
  clear A20
  by_cases c3 : (wrap64 (t321)) = 3
  · rw [if_pos c3] at H
    have c3b0 : ((wrap64 (t321)) == 3) = true := beq_iff_eq.mpr c3
    have c3b1 : ((wrap64 (t321)) != 3) = false := bne_eq_false_iff_eq.mpr c3
    clear c3
    replace H := Option.bind_eq_some_iff.mp H
    obtain ⟨⟨t325, t326, t327⟩, A40, H⟩ := H
    replace H : ((wherryref09_May.f (wrap64 (t321)) 0 t325).bind fun t328 => (if t327 = 0 then (if t328 = true then (some (wrap64 (t321), 0, t325, true, t326, t327)) else (some (0, 0, (⟨#[]⟩ : ByteArray), false, t326, t327))) else (some (0, 0, (⟨#[]⟩ : ByteArray), false, t326, t327)))) = some (r1, r2, r3, r4, r5, r6) := H
    have A4 := Aside0.mk A40
    clear A40
    replace H := Option.bind_eq_some_iff.mp H
    obtain ⟨t328, A50, H⟩ := H
    replace H : (if t327 = 0 then (if t328 = true then (some (wrap64 (t321), 0, t325, true, t326, t327)) else (some (0, 0, (⟨#[]⟩ : ByteArray), false, t326, t327))) else (some (0, 0, (⟨#[]⟩ : ByteArray), false, t326, t327))) = some (r1, r2, r3, r4, r5, r6) := H
    have A5 := Aside0.mk A50
    clear A50
    by_cases c6 : t327 = 0
    · rw [if_pos c6] at H
      have c6b0 : (t327 == 0) = true := beq_iff_eq.mpr c6
      have c6b1 : (t327 != 0) = false := bne_eq_false_iff_eq.mpr c6
      clear c6
      by_cases c7 : t328 = true
      · subst c7
        have H1 : (some (wrap64 (t321), 0, t325, true, t326, t327)) = some (r1, r2, r3, r4, r5, r6) := by rw [if_pos rfl] at H; exact H
        clear H
        have H := H1
        clear H1
        simp only [Option.some.injEq, Prod.mk.injEq] at H
        obtain ⟨rfl, rfl, rfl, rfl, rfl, rfl⟩ := H
        go_enter Tryd.func32, Tryd.ntmps32
        go_wp2_with (first | ((with_reducible refine gate_dst (N := 2) rfl ?_); refine box_event ?hg (N := 2) ?hd (cs := #[.int .i64 0, .int .i64 0, .string (⟨#[]⟩ : ByteArray)]) (t := 23) ?hr ?_; (case hd => rfl); (case hg => rfl); (case hr => first | (go_simp; done) | (go_simp; rfl)); intro gb320 hg w8 hbox hb; have n0_ := Aside0.mk (IsS53.below (by repeat (first | (with_reducible first | exact HI0.out | apply IsS53.alloc | apply IsS53.drewN | apply IsS53.drew | apply IsS53.set_0 | apply IsS53.set_1) | exact HI0.out)) hb); have n1_ := Aside0.mk (KeepBut.trans (by repeat (first | (with_reducible first | exact HK.out | apply KeepBut.set_ | apply keep_drewN | apply keep_drew | apply keep_alloc) | exact HK.out)) (KeepBut.of_below hb g none) (.inl rfl)); have n2_ := Aside0.mk (below_step (by repeat (first | (with_reducible first | exact HB.out | apply below_alloc | apply pw_below_drewN | apply below_drew1 | refine below_set ?_ (IsS53.ge HI0.out)) | exact HB.out)) hb); have n3_ := Aside0.mk (hbox); have n4_ := Aside0.mk ((by rw [hg]; exact (keep_size (w := w) (g := g) (row := none) (by repeat (first | (with_reducible first | exact HK.out | apply KeepBut.set_ | apply keep_drewN | apply keep_drew | apply keep_alloc) | exact HK.out))) : w.heap.size ≤ gb320)); have n5_ := Aside0.mk ((Nat.le_trans HW0.out (by rw [hg]; exact (keep_size (w := w) (g := g) (row := none) (by repeat (first | (with_reducible first | exact HK.out | apply KeepBut.set_ | apply keep_drewN | apply keep_drew | apply keep_alloc) | exact HK.out))) : w.heap.size ≤ gb320) : w0.heap.size ≤ gb320)); have n6_ := Aside0.mk ((by rw [hg]; exact Nat.ne_of_lt (IsS53.lt (show IsS53 w0 _ g s0_0 s0_1 from by repeat (first | (with_reducible first | exact HI0.out | apply IsS53.alloc | apply IsS53.drewN | apply IsS53.drew | apply IsS53.set_0 | apply IsS53.set_1) | exact HI0.out))) : g ≠ gb320)); have n7_ := Aside0.mk ((by rw [hg]; exact Nat.ne_of_gt (IsS53.lt (show IsS53 w0 _ g s0_0 s0_1 from by repeat (first | (with_reducible first | exact HI0.out | apply IsS53.alloc | apply IsS53.drewN | apply IsS53.drew | apply IsS53.set_0 | apply IsS53.set_1) | exact HI0.out))) : gb320 ≠ g)); clear HI0; clear HK; clear HB; have HI0 := n0_; have HK := n1_; have HB := n2_; have BK320 := n3_; have GW320 := n4_; have GE320 := n5_; have NB0_320 := n6_; have NB320_0 := n7_; clear n0_ n1_ n2_ n3_ n4_ n5_ n6_ n7_; clear hb hbox hg) | ((with_reducible refine gate_callee (f := 61) rfl ?_); refine goesL_ (some 7) rfl rfl Tryd.func61 (by kernel_rfl) rfl #[.pointer (some ⟨g, 0, none⟩)] rfl (by (try simp only [List.map_toArray, List.map_cons, List.map_nil]); first | done | rfl | (simp only [List.length_drop, List.length_take]; rfl)) ?_; (with_reducible refine (wherryref01_Reader_Byte.calls g s0_0 s0_1 t321 t322 t323 w0 _ ?side1 ?side2 A2.out).mono ?_); (case side1 => repeat (first | (with_reducible first | exact HI0.out | apply IsS53.alloc | apply IsS53.drewN | apply IsS53.drew | apply IsS53.set_0 | apply IsS53.set_1 | refine IsS53.far ?_ NB0_320.out _) | exact HI0.out)); (case side2 => repeat (first | (with_reducible first | exact HB.out | apply below_alloc | apply pw_below_drewN | apply below_drew1 | refine below_set ?_ (IsS53.ge HI0.out) | refine below_set ?_ GE320.out) | exact HB.out)); rintro e w9 ⟨rfl, hi, hb, hk⟩; refine ⟨_, rfl, ?_⟩; have n0_ := Aside0.mk (KeepBut.blk hk (g' := gb320) (o := .cells #[.int .i64 0, .int .i64 0, .string (⟨#[]⟩ : ByteArray)] 23 (0, 0)) (by (with_reducible repeat (first | refine blk_drewN ?_ _ | refine blk_drew ?_ | refine blk_alloc ?_ _)); exact BK320.out) NB320_0.out (by simp)); have n1_ := Aside0.mk (KeepBut.trans (by repeat (first | (with_reducible first | exact HK.out | apply KeepBut.set_ | apply keep_drewN | apply keep_drew | apply keep_alloc | refine keep_far ?_ GW320.out _) | exact HK.out)) hk (.inl rfl)); have n2_ := Aside0.mk (hb); have n3_ := Aside0.mk (hi); clear BK320; clear HK; clear HB; clear HI0; have BK320 := n0_; have HK := n1_; have HB := n2_; have HI0 := n3_; clear n0_ n1_ n2_ n3_; (try clear hb); (try clear hb2); (try clear hk); (try clear hi)) | ((with_reducible refine gate_dst (N := 4) rfl ?_); refine box_event ?hg (N := 4) ?hd (cs := #[.int .i64 0, .int .i64 0, .string (⟨#[]⟩ : ByteArray)]) (t := 23) ?hr ?_; (case hd => rfl); (case hg => rfl); (case hr => first | (go_simp; done) | (go_simp; rfl)); intro gb324 hg w10 hbox hb; have n0_ := Aside0.mk (IsS53.below (by repeat (first | (with_reducible first | exact HI0.out | apply IsS53.alloc | apply IsS53.drewN | apply IsS53.drew | apply IsS53.set_0 | apply IsS53.set_1 | refine IsS53.far ?_ NB0_320.out _) | exact HI0.out)) hb); have n1_ := Aside0.mk (blk_below (g := gb320) (o := .cells #[.int .i64 0, .int .i64 0, .string (⟨#[]⟩ : ByteArray)] 23 (0, 0)) (by (with_reducible repeat (first | refine blk_drewN ?_ _ | refine blk_drew ?_ | refine blk_alloc ?_ _)); exact BK320.out) hb); have n2_ := Aside0.mk (KeepBut.trans (by repeat (first | (with_reducible first | exact HK.out | apply KeepBut.set_ | apply keep_drewN | apply keep_drew | apply keep_alloc | refine keep_far ?_ GW320.out _) | exact HK.out)) (KeepBut.of_below hb g none) (.inl rfl)); have n3_ := Aside0.mk (below_step (by repeat (first | (with_reducible first | exact HB.out | apply below_alloc | apply pw_below_drewN | apply below_drew1 | refine below_set ?_ (IsS53.ge HI0.out) | refine below_set ?_ GE320.out) | exact HB.out)) hb); have n4_ := Aside0.mk (hbox); have n5_ := Aside0.mk ((by rw [hg]; exact (keep_size (w := w) (g := g) (row := none) (by repeat (first | (with_reducible first | exact HK.out | apply KeepBut.set_ | apply keep_drewN | apply keep_drew | apply keep_alloc | refine keep_far ?_ GW320.out _) | exact HK.out))) : w.heap.size ≤ gb324)); have n6_ := Aside0.mk ((Nat.le_trans HW0.out (by rw [hg]; exact (keep_size (w := w) (g := g) (row := none) (by repeat (first | (with_reducible first | exact HK.out | apply KeepBut.set_ | apply keep_drewN | apply keep_drew | apply keep_alloc | refine keep_far ?_ GW320.out _) | exact HK.out))) : w.heap.size ≤ gb324) : w0.heap.size ≤ gb324)); have n7_ := Aside0.mk ((by rw [hg]; exact Nat.ne_of_lt (blk_lt (g := gb320) (o := .cells #[.int .i64 0, .int .i64 0, .string (⟨#[]⟩ : ByteArray)] 23 (0, 0)) (by (with_reducible repeat (first | refine blk_drewN ?_ _ | refine blk_drew ?_ | refine blk_alloc ?_ _)); exact BK320.out)) : gb320 ≠ gb324)); have n8_ := Aside0.mk ((by rw [hg]; exact Nat.ne_of_gt (blk_lt (g := gb320) (o := .cells #[.int .i64 0, .int .i64 0, .string (⟨#[]⟩ : ByteArray)] 23 (0, 0)) (by (with_reducible repeat (first | refine blk_drewN ?_ _ | refine blk_drew ?_ | refine blk_alloc ?_ _)); exact BK320.out)) : gb324 ≠ gb320)); have n9_ := Aside0.mk ((by rw [hg]; exact Nat.ne_of_lt (IsS53.lt (show IsS53 w0 _ g t322 t323 from by repeat (first | (with_reducible first | exact HI0.out | apply IsS53.alloc | apply IsS53.drewN | apply IsS53.drew | apply IsS53.set_0 | apply IsS53.set_1 | refine IsS53.far ?_ NB0_320.out _) | exact HI0.out))) : g ≠ gb324)); have n10_ := Aside0.mk ((by rw [hg]; exact Nat.ne_of_gt (IsS53.lt (show IsS53 w0 _ g t322 t323 from by repeat (first | (with_reducible first | exact HI0.out | apply IsS53.alloc | apply IsS53.drewN | apply IsS53.drew | apply IsS53.set_0 | apply IsS53.set_1 | refine IsS53.far ?_ NB0_320.out _) | exact HI0.out))) : gb324 ≠ g)); clear HI0; clear BK320; clear HK; clear HB; have HI0 := n0_; have BK320 := n1_; have HK := n2_; have HB := n3_; have BK324 := n4_; have GW324 := n5_; have GE324 := n6_; have NB320_324 := n7_; have NB324_320 := n8_; have NB0_324 := n9_; have NB324_0 := n10_; clear n0_ n1_ n2_ n3_ n4_ n5_ n6_ n7_ n8_ n9_ n10_; clear hb hbox hg; have hnb11 := NB324_320.out; have hnc11 := NB320_324.out; have hnb12 := NB324_0.out; have hnc12 := NB0_324.out; have hcz13_0 : w10.cell? ⟨gb324, 0, none⟩ = some (.int .i64 0) := (blk_cell BK324.out 0).trans rfl; have hcz13_1 : w10.cell? ⟨gb324, 1, none⟩ = some (.int .i64 0) := (blk_cell BK324.out 1).trans rfl; have hcz13_2 : w10.cell? ⟨gb324, 2, none⟩ = some (.string (⟨#[]⟩ : ByteArray)) := (blk_cell BK324.out 2).trans rfl; have hfz13_0 := blk_frozen BK324.out 0; have hfz13_1 := blk_frozen BK324.out 1; have hfz13_2 := blk_frozen BK324.out 2) | ((with_reducible refine gate_callee (f := 62) rfl ?_); refine goesL_ (some 14) rfl rfl Tryd.func62 (by kernel_rfl) rfl #[.pointer (some ⟨g, 0, none⟩), .int .i64 1024] rfl (by (try simp only [List.map_toArray, List.map_cons, List.map_nil]); first | done | rfl | (simp only [List.length_drop, List.length_take]; rfl)) ?_; (with_reducible refine (wherryref01_Reader_Text.calls g t322 t323 1024 t325 t326 t327 w0 _ ?side1 ?side2 A4.out).mono ?_); (case side1 => repeat (first | (with_reducible first | exact HI0.out | apply IsS53.alloc | apply IsS53.drewN | apply IsS53.drew | apply IsS53.set_0 | apply IsS53.set_1 | refine IsS53.far ?_ NB0_320.out _ | refine IsS53.far ?_ NB0_324.out _) | exact HI0.out)); (case side2 => repeat (first | (with_reducible first | exact HB.out | apply below_alloc | apply pw_below_drewN | apply below_drew1 | refine below_set ?_ (IsS53.ge HI0.out) | refine below_set ?_ GE320.out | refine below_set ?_ GE324.out) | exact HB.out)); rintro e w14 ⟨rfl, hi, hb, hk⟩; refine ⟨_, rfl, ?_⟩; have n0_ := Aside0.mk (KeepBut.blk hk (g' := gb320) (o := .cells #[.int .i64 0, .int .i64 0, .string (⟨#[]⟩ : ByteArray)] 23 (0, 0)) (by (with_reducible repeat (first | refine blk_drewN ?_ _ | refine blk_drew ?_ | refine blk_alloc ?_ _)); refine blk_far ?_ NB320_324.out _; (with_reducible repeat (first | refine blk_drewN ?_ _ | refine blk_drew ?_ | refine blk_alloc ?_ _)); refine blk_far ?_ NB320_324.out _; (with_reducible repeat (first | refine blk_drewN ?_ _ | refine blk_drew ?_ | refine blk_alloc ?_ _)); refine blk_far ?_ NB320_324.out _; (with_reducible repeat (first | refine blk_drewN ?_ _ | refine blk_drew ?_ | refine blk_alloc ?_ _)); exact BK320.out) NB320_0.out (by simp)); have n1_ := Aside0.mk (KeepBut.blk hk (g' := gb324) (o := .cells #[.int .i64 (wrap64 (t321)), .int .i64 0, .string (⟨#[]⟩ : ByteArray)] 23 (0, 0)) (by (with_reducible repeat (first | refine blk_drewN ?_ _ | refine blk_drew ?_ | refine blk_alloc ?_ _)); refine blk_put (cs := #[.int .i64 (wrap64 (t321)), .int .i64 0, .string (⟨#[]⟩ : ByteArray)]) ?_ 2 _ rfl; (with_reducible repeat (first | refine blk_drewN ?_ _ | refine blk_drew ?_ | refine blk_alloc ?_ _)); refine blk_put (cs := #[.int .i64 (wrap64 (t321)), .int .i64 0, .string (⟨#[]⟩ : ByteArray)]) ?_ 1 _ rfl; (with_reducible repeat (first | refine blk_drewN ?_ _ | refine blk_drew ?_ | refine blk_alloc ?_ _)); refine blk_put (cs := #[.int .i64 0, .int .i64 0, .string (⟨#[]⟩ : ByteArray)]) ?_ 0 _ rfl; (with_reducible repeat (first | refine blk_drewN ?_ _ | refine blk_drew ?_ | refine blk_alloc ?_ _)); exact BK324.out) NB324_0.out (by simp)); have n2_ := Aside0.mk (KeepBut.trans (by repeat (first | (with_reducible first | exact HK.out | apply KeepBut.set_ | apply keep_drewN | apply keep_drew | apply keep_alloc | refine keep_far ?_ GW320.out _ | refine keep_far ?_ GW324.out _) | exact HK.out)) hk (.inl rfl)); have n3_ := Aside0.mk (hb); have n4_ := Aside0.mk (hi); clear BK320; clear BK324; clear HK; clear HB; clear HI0; have BK320 := n0_; have BK324 := n1_; have HK := n2_; have HB := n3_; have HI0 := n4_; clear n0_ n1_ n2_ n3_ n4_; (try clear hb); (try clear hb2); (try clear hk); (try clear hi); have hcz15_0 : w14.cell? ⟨gb324, 0, none⟩ = some (.int .i64 (wrap64 (t321))) := (blk_cell BK324.out 0).trans rfl; have hcz15_1 : w14.cell? ⟨gb324, 1, none⟩ = some (.int .i64 0) := (blk_cell BK324.out 1).trans rfl; have hcz15_2 : w14.cell? ⟨gb324, 2, none⟩ = some (.string (⟨#[]⟩ : ByteArray)) := (blk_cell BK324.out 2).trans rfl; have hfz15_0 := blk_frozen BK324.out 0; have hfz15_1 := blk_frozen BK324.out 1; have hfz15_2 := blk_frozen BK324.out 2) | ((with_reducible refine gate_callee (f := 11) rfl ?_); refine goesL_ (some 20) rfl rfl Tryd.func11 (by kernel_rfl) rfl #[.agg #[.int .i64 (wrap64 (t321)), .int .i64 0, .string t325]] rfl (by (try simp only [List.map_toArray, List.map_cons, List.map_nil]); first | done | rfl | (simp only [List.length_drop, List.length_take]; rfl)) ?_; (with_reducible refine (wherryref09_May.calls (wrap64 (t321)) 0 t325 true _ A5.out).mono ?_); rintro e w16 ⟨rfl, hb⟩; refine ⟨_, rfl, ?_⟩; have n0_ := Aside0.mk (IsS53.below (show IsS53 w0 (w14.setCell ⟨gb324, 2, none⟩ (.string t325)) g t326 t327 from by repeat (first | (with_reducible first | exact HI0.out | apply IsS53.alloc | apply IsS53.drewN | apply IsS53.drew | apply IsS53.set_0 | apply IsS53.set_1 | refine IsS53.far ?_ NB0_320.out _ | refine IsS53.far ?_ NB0_324.out _) | exact HI0.out)) hb); have n1_ := Aside0.mk (blk_below (g := gb320) (o := .cells #[.int .i64 0, .int .i64 0, .string (⟨#[]⟩ : ByteArray)] 23 (0, 0)) (by (with_reducible repeat (first | refine blk_drewN ?_ _ | refine blk_drew ?_ | refine blk_alloc ?_ _)); refine blk_far ?_ NB320_324.out _; (with_reducible repeat (first | refine blk_drewN ?_ _ | refine blk_drew ?_ | refine blk_alloc ?_ _)); exact BK320.out) hb); have n2_ := Aside0.mk (blk_below (g := gb324) (o := .cells #[.int .i64 (wrap64 (t321)), .int .i64 0, .string t325] 23 (0, 0)) (by (with_reducible repeat (first | refine blk_drewN ?_ _ | refine blk_drew ?_ | refine blk_alloc ?_ _)); refine blk_put (cs := #[.int .i64 (wrap64 (t321)), .int .i64 0, .string (⟨#[]⟩ : ByteArray)]) ?_ 2 _ rfl; (with_reducible repeat (first | refine blk_drewN ?_ _ | refine blk_drew ?_ | refine blk_alloc ?_ _)); exact BK324.out) hb); have n3_ := Aside0.mk (KeepBut.trans (by repeat (first | (with_reducible first | exact HK.out | apply KeepBut.set_ | apply keep_drewN | apply keep_drew | apply keep_alloc | refine keep_far ?_ GW320.out _ | refine keep_far ?_ GW324.out _) | exact HK.out)) (KeepBut.of_below hb g none) (.inl rfl)); have n4_ := Aside0.mk (below_step (by repeat (first | (with_reducible first | exact HB.out | apply below_alloc | apply pw_below_drewN | apply below_drew1 | refine below_set ?_ (IsS53.ge HI0.out) | refine below_set ?_ GE320.out | refine below_set ?_ GE324.out) | exact HB.out)) hb); clear HI0; clear BK320; clear BK324; clear HK; clear HB; have HI0 := n0_; have BK320 := n1_; have BK324 := n2_; have HK := n3_; have HB := n4_; clear n0_ n1_ n2_ n3_ n4_; (try clear hb); (try clear hb2); (try clear hk); (try clear hi); obtain ⟨HGz17, hgz17⟩ := HI0.out; have hcz17_0 := cellS53_0 HGz17; have hcz17_1 := cellS53_1 HGz17; have hfz17_0 := blk_frozen HGz17 0; have hfz17_1 := blk_frozen HGz17 1; clear HGz17 hgz17; have hcz18_0 : w16.cell? ⟨gb324, 0, none⟩ = some (.int .i64 (wrap64 (t321))) := (blk_cell BK324.out 0).trans rfl; have hcz18_1 : w16.cell? ⟨gb324, 1, none⟩ = some (.int .i64 0) := (blk_cell BK324.out 1).trans rfl; have hcz18_2 : w16.cell? ⟨gb324, 2, none⟩ = some (.string t325) := (blk_cell BK324.out 2).trans rfl; have hfz18_0 := blk_frozen BK324.out 0; have hfz18_1 := blk_frozen BK324.out 1; have hfz18_2 := blk_frozen BK324.out 2; have hnb19 := NB320_0.out; have hnc19 := NB0_320.out; have hcz20_0 : w16.cell? ⟨gb320, 0, none⟩ = some (.int .i64 0) := (blk_cell BK320.out 0).trans rfl; have hcz20_1 : w16.cell? ⟨gb320, 1, none⟩ = some (.int .i64 0) := (blk_cell BK320.out 1).trans rfl; have hcz20_2 : w16.cell? ⟨gb320, 2, none⟩ = some (.string (⟨#[]⟩ : ByteArray)) := (blk_cell BK320.out 2).trans rfl; have hfz20_0 := blk_frozen BK320.out 0; have hfz20_1 := blk_frozen BK320.out 1; have hfz20_2 := blk_frozen BK320.out 2))
        refine bodyPost_ret (results_ct rfl _ _ gb320 23 #[.int .i64 (wrap64 (t321)), .int .i64 0, .string t325] (0, 0) _ rfl (by (with_reducible repeat (first | refine blk_drewN ?_ _ | refine blk_drew ?_ | refine blk_alloc ?_ _)); refine blk_put (cs := #[.int .i64 (wrap64 (t321)), .int .i64 0, .string (⟨#[]⟩ : ByteArray)]) ?_ 2 _ rfl; (with_reducible repeat (first | refine blk_drewN ?_ _ | refine blk_drew ?_ | refine blk_alloc ?_ _)); refine blk_put (cs := #[.int .i64 (wrap64 (t321)), .int .i64 0, .string (⟨#[]⟩ : ByteArray)]) ?_ 1 _ rfl; (with_reducible repeat (first | refine blk_drewN ?_ _ | refine blk_drew ?_ | refine blk_alloc ?_ _)); refine blk_put (cs := #[.int .i64 0, .int .i64 0, .string (⟨#[]⟩ : ByteArray)]) ?_ 0 _ rfl; (with_reducible repeat (first | refine blk_drewN ?_ _ | refine blk_drew ?_ | refine blk_alloc ?_ _)); exact BK320.out) Tryd.underlying23 rfl (by kernel_rfl)) rfl ?_
        exact ⟨by first | rfl | (simp [errW_none, errW_some] <;> rfl) | (simp [*, errW_none, errW_some] <;> rfl), by repeat (first | (with_reducible first | exact HI0.out | apply IsS53.alloc | apply IsS53.drewN | apply IsS53.drew | apply IsS53.set_0 | apply IsS53.set_1 | refine IsS53.far ?_ NB0_320.out _ | refine IsS53.far ?_ NB0_324.out _) | exact HI0.out), by repeat (first | (with_reducible first | exact HB.out | apply below_alloc | apply pw_below_drewN | apply below_drew1 | refine below_set ?_ (IsS53.ge HI0.out) | refine below_set ?_ GE320.out | refine below_set ?_ GE324.out) | exact HB.out), by repeat (first | (with_reducible first | exact HK.out | apply KeepBut.set_ | apply keep_drewN | apply keep_drew | apply keep_alloc | refine keep_far ?_ GW320.out _ | refine keep_far ?_ GW324.out _) | exact HK.out)⟩
      · replace c7 := Bool.eq_false_iff.mpr c7
        subst c7
        have H1 : (some (0, 0, (⟨#[]⟩ : ByteArray), false, t326, t327)) = some (r1, r2, r3, r4, r5, r6) := by rw [if_neg (show ¬ (false = true) by decide)] at H; exact H
        clear H
        have H := H1
        clear H1
        simp only [Option.some.injEq, Prod.mk.injEq] at H
        obtain ⟨rfl, rfl, rfl, rfl, rfl, rfl⟩ := H
        go_enter Tryd.func32, Tryd.ntmps32
        go_wp2_with (first | ((with_reducible refine gate_dst (N := 2) rfl ?_); refine box_event ?hg (N := 2) ?hd (cs := #[.int .i64 0, .int .i64 0, .string (⟨#[]⟩ : ByteArray)]) (t := 23) ?hr ?_; (case hd => rfl); (case hg => rfl); (case hr => first | (go_simp; done) | (go_simp; rfl)); intro gb320 hg w21 hbox hb; have n0_ := Aside0.mk (IsS53.below (by repeat (first | (with_reducible first | exact HI0.out | apply IsS53.alloc | apply IsS53.drewN | apply IsS53.drew | apply IsS53.set_0 | apply IsS53.set_1) | exact HI0.out)) hb); have n1_ := Aside0.mk (KeepBut.trans (by repeat (first | (with_reducible first | exact HK.out | apply KeepBut.set_ | apply keep_drewN | apply keep_drew | apply keep_alloc) | exact HK.out)) (KeepBut.of_below hb g none) (.inl rfl)); have n2_ := Aside0.mk (below_step (by repeat (first | (with_reducible first | exact HB.out | apply below_alloc | apply pw_below_drewN | apply below_drew1 | refine below_set ?_ (IsS53.ge HI0.out)) | exact HB.out)) hb); have n3_ := Aside0.mk (hbox); have n4_ := Aside0.mk ((by rw [hg]; exact (keep_size (w := w) (g := g) (row := none) (by repeat (first | (with_reducible first | exact HK.out | apply KeepBut.set_ | apply keep_drewN | apply keep_drew | apply keep_alloc) | exact HK.out))) : w.heap.size ≤ gb320)); have n5_ := Aside0.mk ((Nat.le_trans HW0.out (by rw [hg]; exact (keep_size (w := w) (g := g) (row := none) (by repeat (first | (with_reducible first | exact HK.out | apply KeepBut.set_ | apply keep_drewN | apply keep_drew | apply keep_alloc) | exact HK.out))) : w.heap.size ≤ gb320) : w0.heap.size ≤ gb320)); have n6_ := Aside0.mk ((by rw [hg]; exact Nat.ne_of_lt (IsS53.lt (show IsS53 w0 _ g s0_0 s0_1 from by repeat (first | (with_reducible first | exact HI0.out | apply IsS53.alloc | apply IsS53.drewN | apply IsS53.drew | apply IsS53.set_0 | apply IsS53.set_1) | exact HI0.out))) : g ≠ gb320)); have n7_ := Aside0.mk ((by rw [hg]; exact Nat.ne_of_gt (IsS53.lt (show IsS53 w0 _ g s0_0 s0_1 from by repeat (first | (with_reducible first | exact HI0.out | apply IsS53.alloc | apply IsS53.drewN | apply IsS53.drew | apply IsS53.set_0 | apply IsS53.set_1) | exact HI0.out))) : gb320 ≠ g)); clear HI0; clear HK; clear HB; have HI0 := n0_; have HK := n1_; have HB := n2_; have BK320 := n3_; have GW320 := n4_; have GE320 := n5_; have NB0_320 := n6_; have NB320_0 := n7_; clear n0_ n1_ n2_ n3_ n4_ n5_ n6_ n7_; clear hb hbox hg) | ((with_reducible refine gate_callee (f := 61) rfl ?_); refine goesL_ (some 7) rfl rfl Tryd.func61 (by kernel_rfl) rfl #[.pointer (some ⟨g, 0, none⟩)] rfl (by (try simp only [List.map_toArray, List.map_cons, List.map_nil]); first | done | rfl | (simp only [List.length_drop, List.length_take]; rfl)) ?_; (with_reducible refine (wherryref01_Reader_Byte.calls g s0_0 s0_1 t321 t322 t323 w0 _ ?side1 ?side2 A2.out).mono ?_); (case side1 => repeat (first | (with_reducible first | exact HI0.out | apply IsS53.alloc | apply IsS53.drewN | apply IsS53.drew | apply IsS53.set_0 | apply IsS53.set_1 | refine IsS53.far ?_ NB0_320.out _) | exact HI0.out)); (case side2 => repeat (first | (with_reducible first | exact HB.out | apply below_alloc | apply pw_below_drewN | apply below_drew1 | refine below_set ?_ (IsS53.ge HI0.out) | refine below_set ?_ GE320.out) | exact HB.out)); rintro e w22 ⟨rfl, hi, hb, hk⟩; refine ⟨_, rfl, ?_⟩; have n0_ := Aside0.mk (KeepBut.blk hk (g' := gb320) (o := .cells #[.int .i64 0, .int .i64 0, .string (⟨#[]⟩ : ByteArray)] 23 (0, 0)) (by (with_reducible repeat (first | refine blk_drewN ?_ _ | refine blk_drew ?_ | refine blk_alloc ?_ _)); exact BK320.out) NB320_0.out (by simp)); have n1_ := Aside0.mk (KeepBut.trans (by repeat (first | (with_reducible first | exact HK.out | apply KeepBut.set_ | apply keep_drewN | apply keep_drew | apply keep_alloc | refine keep_far ?_ GW320.out _) | exact HK.out)) hk (.inl rfl)); have n2_ := Aside0.mk (hb); have n3_ := Aside0.mk (hi); clear BK320; clear HK; clear HB; clear HI0; have BK320 := n0_; have HK := n1_; have HB := n2_; have HI0 := n3_; clear n0_ n1_ n2_ n3_; (try clear hb); (try clear hb2); (try clear hk); (try clear hi)) | ((with_reducible refine gate_dst (N := 4) rfl ?_); refine box_event ?hg (N := 4) ?hd (cs := #[.int .i64 0, .int .i64 0, .string (⟨#[]⟩ : ByteArray)]) (t := 23) ?hr ?_; (case hd => rfl); (case hg => rfl); (case hr => first | (go_simp; done) | (go_simp; rfl)); intro gb324 hg w23 hbox hb; have n0_ := Aside0.mk (IsS53.below (by repeat (first | (with_reducible first | exact HI0.out | apply IsS53.alloc | apply IsS53.drewN | apply IsS53.drew | apply IsS53.set_0 | apply IsS53.set_1 | refine IsS53.far ?_ NB0_320.out _) | exact HI0.out)) hb); have n1_ := Aside0.mk (blk_below (g := gb320) (o := .cells #[.int .i64 0, .int .i64 0, .string (⟨#[]⟩ : ByteArray)] 23 (0, 0)) (by (with_reducible repeat (first | refine blk_drewN ?_ _ | refine blk_drew ?_ | refine blk_alloc ?_ _)); exact BK320.out) hb); have n2_ := Aside0.mk (KeepBut.trans (by repeat (first | (with_reducible first | exact HK.out | apply KeepBut.set_ | apply keep_drewN | apply keep_drew | apply keep_alloc | refine keep_far ?_ GW320.out _) | exact HK.out)) (KeepBut.of_below hb g none) (.inl rfl)); have n3_ := Aside0.mk (below_step (by repeat (first | (with_reducible first | exact HB.out | apply below_alloc | apply pw_below_drewN | apply below_drew1 | refine below_set ?_ (IsS53.ge HI0.out) | refine below_set ?_ GE320.out) | exact HB.out)) hb); have n4_ := Aside0.mk (hbox); have n5_ := Aside0.mk ((by rw [hg]; exact (keep_size (w := w) (g := g) (row := none) (by repeat (first | (with_reducible first | exact HK.out | apply KeepBut.set_ | apply keep_drewN | apply keep_drew | apply keep_alloc | refine keep_far ?_ GW320.out _) | exact HK.out))) : w.heap.size ≤ gb324)); have n6_ := Aside0.mk ((Nat.le_trans HW0.out (by rw [hg]; exact (keep_size (w := w) (g := g) (row := none) (by repeat (first | (with_reducible first | exact HK.out | apply KeepBut.set_ | apply keep_drewN | apply keep_drew | apply keep_alloc | refine keep_far ?_ GW320.out _) | exact HK.out))) : w.heap.size ≤ gb324) : w0.heap.size ≤ gb324)); have n7_ := Aside0.mk ((by rw [hg]; exact Nat.ne_of_lt (blk_lt (g := gb320) (o := .cells #[.int .i64 0, .int .i64 0, .string (⟨#[]⟩ : ByteArray)] 23 (0, 0)) (by (with_reducible repeat (first | refine blk_drewN ?_ _ | refine blk_drew ?_ | refine blk_alloc ?_ _)); exact BK320.out)) : gb320 ≠ gb324)); have n8_ := Aside0.mk ((by rw [hg]; exact Nat.ne_of_gt (blk_lt (g := gb320) (o := .cells #[.int .i64 0, .int .i64 0, .string (⟨#[]⟩ : ByteArray)] 23 (0, 0)) (by (with_reducible repeat (first | refine blk_drewN ?_ _ | refine blk_drew ?_ | refine blk_alloc ?_ _)); exact BK320.out)) : gb324 ≠ gb320)); have n9_ := Aside0.mk ((by rw [hg]; exact Nat.ne_of_lt (IsS53.lt (show IsS53 w0 _ g t322 t323 from by repeat (first | (with_reducible first | exact HI0.out | apply IsS53.alloc | apply IsS53.drewN | apply IsS53.drew | apply IsS53.set_0 | apply IsS53.set_1 | refine IsS53.far ?_ NB0_320.out _) | exact HI0.out))) : g ≠ gb324)); have n10_ := Aside0.mk ((by rw [hg]; exact Nat.ne_of_gt (IsS53.lt (show IsS53 w0 _ g t322 t323 from by repeat (first | (with_reducible first | exact HI0.out | apply IsS53.alloc | apply IsS53.drewN | apply IsS53.drew | apply IsS53.set_0 | apply IsS53.set_1 | refine IsS53.far ?_ NB0_320.out _) | exact HI0.out))) : gb324 ≠ g)); clear HI0; clear BK320; clear HK; clear HB; have HI0 := n0_; have BK320 := n1_; have HK := n2_; have HB := n3_; have BK324 := n4_; have GW324 := n5_; have GE324 := n6_; have NB320_324 := n7_; have NB324_320 := n8_; have NB0_324 := n9_; have NB324_0 := n10_; clear n0_ n1_ n2_ n3_ n4_ n5_ n6_ n7_ n8_ n9_ n10_; clear hb hbox hg; have hnb24 := NB324_320.out; have hnc24 := NB320_324.out; have hnb25 := NB324_0.out; have hnc25 := NB0_324.out; have hcz26_0 : w23.cell? ⟨gb324, 0, none⟩ = some (.int .i64 0) := (blk_cell BK324.out 0).trans rfl; have hcz26_1 : w23.cell? ⟨gb324, 1, none⟩ = some (.int .i64 0) := (blk_cell BK324.out 1).trans rfl; have hcz26_2 : w23.cell? ⟨gb324, 2, none⟩ = some (.string (⟨#[]⟩ : ByteArray)) := (blk_cell BK324.out 2).trans rfl; have hfz26_0 := blk_frozen BK324.out 0; have hfz26_1 := blk_frozen BK324.out 1; have hfz26_2 := blk_frozen BK324.out 2) | ((with_reducible refine gate_callee (f := 62) rfl ?_); refine goesL_ (some 14) rfl rfl Tryd.func62 (by kernel_rfl) rfl #[.pointer (some ⟨g, 0, none⟩), .int .i64 1024] rfl (by (try simp only [List.map_toArray, List.map_cons, List.map_nil]); first | done | rfl | (simp only [List.length_drop, List.length_take]; rfl)) ?_; (with_reducible refine (wherryref01_Reader_Text.calls g t322 t323 1024 t325 t326 t327 w0 _ ?side1 ?side2 A4.out).mono ?_); (case side1 => repeat (first | (with_reducible first | exact HI0.out | apply IsS53.alloc | apply IsS53.drewN | apply IsS53.drew | apply IsS53.set_0 | apply IsS53.set_1 | refine IsS53.far ?_ NB0_320.out _ | refine IsS53.far ?_ NB0_324.out _) | exact HI0.out)); (case side2 => repeat (first | (with_reducible first | exact HB.out | apply below_alloc | apply pw_below_drewN | apply below_drew1 | refine below_set ?_ (IsS53.ge HI0.out) | refine below_set ?_ GE320.out | refine below_set ?_ GE324.out) | exact HB.out)); rintro e w27 ⟨rfl, hi, hb, hk⟩; refine ⟨_, rfl, ?_⟩; have n0_ := Aside0.mk (KeepBut.blk hk (g' := gb320) (o := .cells #[.int .i64 0, .int .i64 0, .string (⟨#[]⟩ : ByteArray)] 23 (0, 0)) (by (with_reducible repeat (first | refine blk_drewN ?_ _ | refine blk_drew ?_ | refine blk_alloc ?_ _)); refine blk_far ?_ NB320_324.out _; (with_reducible repeat (first | refine blk_drewN ?_ _ | refine blk_drew ?_ | refine blk_alloc ?_ _)); refine blk_far ?_ NB320_324.out _; (with_reducible repeat (first | refine blk_drewN ?_ _ | refine blk_drew ?_ | refine blk_alloc ?_ _)); refine blk_far ?_ NB320_324.out _; (with_reducible repeat (first | refine blk_drewN ?_ _ | refine blk_drew ?_ | refine blk_alloc ?_ _)); exact BK320.out) NB320_0.out (by simp)); have n1_ := Aside0.mk (KeepBut.blk hk (g' := gb324) (o := .cells #[.int .i64 (wrap64 (t321)), .int .i64 0, .string (⟨#[]⟩ : ByteArray)] 23 (0, 0)) (by (with_reducible repeat (first | refine blk_drewN ?_ _ | refine blk_drew ?_ | refine blk_alloc ?_ _)); refine blk_put (cs := #[.int .i64 (wrap64 (t321)), .int .i64 0, .string (⟨#[]⟩ : ByteArray)]) ?_ 2 _ rfl; (with_reducible repeat (first | refine blk_drewN ?_ _ | refine blk_drew ?_ | refine blk_alloc ?_ _)); refine blk_put (cs := #[.int .i64 (wrap64 (t321)), .int .i64 0, .string (⟨#[]⟩ : ByteArray)]) ?_ 1 _ rfl; (with_reducible repeat (first | refine blk_drewN ?_ _ | refine blk_drew ?_ | refine blk_alloc ?_ _)); refine blk_put (cs := #[.int .i64 0, .int .i64 0, .string (⟨#[]⟩ : ByteArray)]) ?_ 0 _ rfl; (with_reducible repeat (first | refine blk_drewN ?_ _ | refine blk_drew ?_ | refine blk_alloc ?_ _)); exact BK324.out) NB324_0.out (by simp)); have n2_ := Aside0.mk (KeepBut.trans (by repeat (first | (with_reducible first | exact HK.out | apply KeepBut.set_ | apply keep_drewN | apply keep_drew | apply keep_alloc | refine keep_far ?_ GW320.out _ | refine keep_far ?_ GW324.out _) | exact HK.out)) hk (.inl rfl)); have n3_ := Aside0.mk (hb); have n4_ := Aside0.mk (hi); clear BK320; clear BK324; clear HK; clear HB; clear HI0; have BK320 := n0_; have BK324 := n1_; have HK := n2_; have HB := n3_; have HI0 := n4_; clear n0_ n1_ n2_ n3_ n4_; (try clear hb); (try clear hb2); (try clear hk); (try clear hi); have hcz28_0 : w27.cell? ⟨gb324, 0, none⟩ = some (.int .i64 (wrap64 (t321))) := (blk_cell BK324.out 0).trans rfl; have hcz28_1 : w27.cell? ⟨gb324, 1, none⟩ = some (.int .i64 0) := (blk_cell BK324.out 1).trans rfl; have hcz28_2 : w27.cell? ⟨gb324, 2, none⟩ = some (.string (⟨#[]⟩ : ByteArray)) := (blk_cell BK324.out 2).trans rfl; have hfz28_0 := blk_frozen BK324.out 0; have hfz28_1 := blk_frozen BK324.out 1; have hfz28_2 := blk_frozen BK324.out 2) | ((with_reducible refine gate_callee (f := 11) rfl ?_); refine goesL_ (some 20) rfl rfl Tryd.func11 (by kernel_rfl) rfl #[.agg #[.int .i64 (wrap64 (t321)), .int .i64 0, .string t325]] rfl (by (try simp only [List.map_toArray, List.map_cons, List.map_nil]); first | done | rfl | (simp only [List.length_drop, List.length_take]; rfl)) ?_; (with_reducible refine (wherryref09_May.calls (wrap64 (t321)) 0 t325 false _ A5.out).mono ?_); rintro e w29 ⟨rfl, hb⟩; refine ⟨_, rfl, ?_⟩; have n0_ := Aside0.mk (IsS53.below (show IsS53 w0 (w27.setCell ⟨gb324, 2, none⟩ (.string t325)) g t326 t327 from by repeat (first | (with_reducible first | exact HI0.out | apply IsS53.alloc | apply IsS53.drewN | apply IsS53.drew | apply IsS53.set_0 | apply IsS53.set_1 | refine IsS53.far ?_ NB0_320.out _ | refine IsS53.far ?_ NB0_324.out _) | exact HI0.out)) hb); have n1_ := Aside0.mk (blk_below (g := gb320) (o := .cells #[.int .i64 0, .int .i64 0, .string (⟨#[]⟩ : ByteArray)] 23 (0, 0)) (by (with_reducible repeat (first | refine blk_drewN ?_ _ | refine blk_drew ?_ | refine blk_alloc ?_ _)); refine blk_far ?_ NB320_324.out _; (with_reducible repeat (first | refine blk_drewN ?_ _ | refine blk_drew ?_ | refine blk_alloc ?_ _)); exact BK320.out) hb); have n2_ := Aside0.mk (blk_below (g := gb324) (o := .cells #[.int .i64 (wrap64 (t321)), .int .i64 0, .string t325] 23 (0, 0)) (by (with_reducible repeat (first | refine blk_drewN ?_ _ | refine blk_drew ?_ | refine blk_alloc ?_ _)); refine blk_put (cs := #[.int .i64 (wrap64 (t321)), .int .i64 0, .string (⟨#[]⟩ : ByteArray)]) ?_ 2 _ rfl; (with_reducible repeat (first | refine blk_drewN ?_ _ | refine blk_drew ?_ | refine blk_alloc ?_ _)); exact BK324.out) hb); have n3_ := Aside0.mk (KeepBut.trans (by repeat (first | (with_reducible first | exact HK.out | apply KeepBut.set_ | apply keep_drewN | apply keep_drew | apply keep_alloc | refine keep_far ?_ GW320.out _ | refine keep_far ?_ GW324.out _) | exact HK.out)) (KeepBut.of_below hb g none) (.inl rfl)); have n4_ := Aside0.mk (below_step (by repeat (first | (with_reducible first | exact HB.out | apply below_alloc | apply pw_below_drewN | apply below_drew1 | refine below_set ?_ (IsS53.ge HI0.out) | refine below_set ?_ GE320.out | refine below_set ?_ GE324.out) | exact HB.out)) hb); clear HI0; clear BK320; clear BK324; clear HK; clear HB; have HI0 := n0_; have BK320 := n1_; have BK324 := n2_; have HK := n3_; have HB := n4_; clear n0_ n1_ n2_ n3_ n4_; (try clear hb); (try clear hb2); (try clear hk); (try clear hi); obtain ⟨HGz30, hgz30⟩ := HI0.out; have hcz30_0 := cellS53_0 HGz30; have hcz30_1 := cellS53_1 HGz30; have hfz30_0 := blk_frozen HGz30 0; have hfz30_1 := blk_frozen HGz30 1; clear HGz30 hgz30; have hnb31 := NB320_0.out; have hnc31 := NB0_320.out; have hcz32_0 : w29.cell? ⟨gb320, 0, none⟩ = some (.int .i64 0) := (blk_cell BK320.out 0).trans rfl; have hcz32_1 : w29.cell? ⟨gb320, 1, none⟩ = some (.int .i64 0) := (blk_cell BK320.out 1).trans rfl; have hcz32_2 : w29.cell? ⟨gb320, 2, none⟩ = some (.string (⟨#[]⟩ : ByteArray)) := (blk_cell BK320.out 2).trans rfl; have hfz32_0 := blk_frozen BK320.out 0; have hfz32_1 := blk_frozen BK320.out 1; have hfz32_2 := blk_frozen BK320.out 2))
        refine bodyPost_ret (results_ct rfl _ _ gb320 23 #[.int .i64 0, .int .i64 0, .string (⟨#[]⟩ : ByteArray)] (0, 0) _ rfl (by (with_reducible repeat (first | refine blk_drewN ?_ _ | refine blk_drew ?_ | refine blk_alloc ?_ _)); refine blk_put (cs := #[.int .i64 0, .int .i64 0, .string (⟨#[]⟩ : ByteArray)]) ?_ 2 _ rfl; (with_reducible repeat (first | refine blk_drewN ?_ _ | refine blk_drew ?_ | refine blk_alloc ?_ _)); refine blk_put (cs := #[.int .i64 0, .int .i64 0, .string (⟨#[]⟩ : ByteArray)]) ?_ 1 _ rfl; (with_reducible repeat (first | refine blk_drewN ?_ _ | refine blk_drew ?_ | refine blk_alloc ?_ _)); refine blk_put (cs := #[.int .i64 0, .int .i64 0, .string (⟨#[]⟩ : ByteArray)]) ?_ 0 _ rfl; (with_reducible repeat (first | refine blk_drewN ?_ _ | refine blk_drew ?_ | refine blk_alloc ?_ _)); exact BK320.out) Tryd.underlying23 rfl (by kernel_rfl)) rfl ?_
        exact ⟨by first | rfl | (simp [errW_none, errW_some] <;> rfl) | (simp [*, errW_none, errW_some] <;> rfl), by repeat (first | (with_reducible first | exact HI0.out | apply IsS53.alloc | apply IsS53.drewN | apply IsS53.drew | apply IsS53.set_0 | apply IsS53.set_1 | refine IsS53.far ?_ NB0_320.out _ | refine IsS53.far ?_ NB0_324.out _) | exact HI0.out), by repeat (first | (with_reducible first | exact HB.out | apply below_alloc | apply pw_below_drewN | apply below_drew1 | refine below_set ?_ (IsS53.ge HI0.out) | refine below_set ?_ GE320.out | refine below_set ?_ GE324.out) | exact HB.out), by repeat (first | (with_reducible first | exact HK.out | apply KeepBut.set_ | apply keep_drewN | apply keep_drew | apply keep_alloc | refine keep_far ?_ GW320.out _ | refine keep_far ?_ GW324.out _) | exact HK.out)⟩
    · rw [if_neg c6] at H
      have c6b0 : (t327 == 0) = false := beq_eq_false_iff_ne.mpr c6
      have c6b1 : (t327 != 0) = true := bne_iff_ne.mpr c6
      simp only [Option.some.injEq, Prod.mk.injEq] at H
      obtain ⟨rfl, rfl, rfl, rfl, rfl, rfl⟩ := H
      go_enter Tryd.func32, Tryd.ntmps32
      go_wp2_with (first | ((with_reducible refine gate_dst (N := 2) rfl ?_); refine box_event ?hg (N := 2) ?hd (cs := #[.int .i64 0, .int .i64 0, .string (⟨#[]⟩ : ByteArray)]) (t := 23) ?hr ?_; (case hd => rfl); (case hg => rfl); (case hr => first | (go_simp; done) | (go_simp; rfl)); intro gb320 hg w33 hbox hb; have n0_ := Aside0.mk (IsS53.below (by repeat (first | (with_reducible first | exact HI0.out | apply IsS53.alloc | apply IsS53.drewN | apply IsS53.drew | apply IsS53.set_0 | apply IsS53.set_1) | exact HI0.out)) hb); have n1_ := Aside0.mk (KeepBut.trans (by repeat (first | (with_reducible first | exact HK.out | apply KeepBut.set_ | apply keep_drewN | apply keep_drew | apply keep_alloc) | exact HK.out)) (KeepBut.of_below hb g none) (.inl rfl)); have n2_ := Aside0.mk (below_step (by repeat (first | (with_reducible first | exact HB.out | apply below_alloc | apply pw_below_drewN | apply below_drew1 | refine below_set ?_ (IsS53.ge HI0.out)) | exact HB.out)) hb); have n3_ := Aside0.mk (hbox); have n4_ := Aside0.mk ((by rw [hg]; exact (keep_size (w := w) (g := g) (row := none) (by repeat (first | (with_reducible first | exact HK.out | apply KeepBut.set_ | apply keep_drewN | apply keep_drew | apply keep_alloc) | exact HK.out))) : w.heap.size ≤ gb320)); have n5_ := Aside0.mk ((Nat.le_trans HW0.out (by rw [hg]; exact (keep_size (w := w) (g := g) (row := none) (by repeat (first | (with_reducible first | exact HK.out | apply KeepBut.set_ | apply keep_drewN | apply keep_drew | apply keep_alloc) | exact HK.out))) : w.heap.size ≤ gb320) : w0.heap.size ≤ gb320)); have n6_ := Aside0.mk ((by rw [hg]; exact Nat.ne_of_lt (IsS53.lt (show IsS53 w0 _ g s0_0 s0_1 from by repeat (first | (with_reducible first | exact HI0.out | apply IsS53.alloc | apply IsS53.drewN | apply IsS53.drew | apply IsS53.set_0 | apply IsS53.set_1) | exact HI0.out))) : g ≠ gb320)); have n7_ := Aside0.mk ((by rw [hg]; exact Nat.ne_of_gt (IsS53.lt (show IsS53 w0 _ g s0_0 s0_1 from by repeat (first | (with_reducible first | exact HI0.out | apply IsS53.alloc | apply IsS53.drewN | apply IsS53.drew | apply IsS53.set_0 | apply IsS53.set_1) | exact HI0.out))) : gb320 ≠ g)); clear HI0; clear HK; clear HB; have HI0 := n0_; have HK := n1_; have HB := n2_; have BK320 := n3_; have GW320 := n4_; have GE320 := n5_; have NB0_320 := n6_; have NB320_0 := n7_; clear n0_ n1_ n2_ n3_ n4_ n5_ n6_ n7_; clear hb hbox hg) | ((with_reducible refine gate_callee (f := 61) rfl ?_); refine goesL_ (some 7) rfl rfl Tryd.func61 (by kernel_rfl) rfl #[.pointer (some ⟨g, 0, none⟩)] rfl (by (try simp only [List.map_toArray, List.map_cons, List.map_nil]); first | done | rfl | (simp only [List.length_drop, List.length_take]; rfl)) ?_; (with_reducible refine (wherryref01_Reader_Byte.calls g s0_0 s0_1 t321 t322 t323 w0 _ ?side1 ?side2 A2.out).mono ?_); (case side1 => repeat (first | (with_reducible first | exact HI0.out | apply IsS53.alloc | apply IsS53.drewN | apply IsS53.drew | apply IsS53.set_0 | apply IsS53.set_1 | refine IsS53.far ?_ NB0_320.out _) | exact HI0.out)); (case side2 => repeat (first | (with_reducible first | exact HB.out | apply below_alloc | apply pw_below_drewN | apply below_drew1 | refine below_set ?_ (IsS53.ge HI0.out) | refine below_set ?_ GE320.out) | exact HB.out)); rintro e w34 ⟨rfl, hi, hb, hk⟩; refine ⟨_, rfl, ?_⟩; have n0_ := Aside0.mk (KeepBut.blk hk (g' := gb320) (o := .cells #[.int .i64 0, .int .i64 0, .string (⟨#[]⟩ : ByteArray)] 23 (0, 0)) (by (with_reducible repeat (first | refine blk_drewN ?_ _ | refine blk_drew ?_ | refine blk_alloc ?_ _)); exact BK320.out) NB320_0.out (by simp)); have n1_ := Aside0.mk (KeepBut.trans (by repeat (first | (with_reducible first | exact HK.out | apply KeepBut.set_ | apply keep_drewN | apply keep_drew | apply keep_alloc | refine keep_far ?_ GW320.out _) | exact HK.out)) hk (.inl rfl)); have n2_ := Aside0.mk (hb); have n3_ := Aside0.mk (hi); clear BK320; clear HK; clear HB; clear HI0; have BK320 := n0_; have HK := n1_; have HB := n2_; have HI0 := n3_; clear n0_ n1_ n2_ n3_; (try clear hb); (try clear hb2); (try clear hk); (try clear hi)) | ((with_reducible refine gate_dst (N := 4) rfl ?_); refine box_event ?hg (N := 4) ?hd (cs := #[.int .i64 0, .int .i64 0, .string (⟨#[]⟩ : ByteArray)]) (t := 23) ?hr ?_; (case hd => rfl); (case hg => rfl); (case hr => first | (go_simp; done) | (go_simp; rfl)); intro gb324 hg w35 hbox hb; have n0_ := Aside0.mk (IsS53.below (by repeat (first | (with_reducible first | exact HI0.out | apply IsS53.alloc | apply IsS53.drewN | apply IsS53.drew | apply IsS53.set_0 | apply IsS53.set_1 | refine IsS53.far ?_ NB0_320.out _) | exact HI0.out)) hb); have n1_ := Aside0.mk (blk_below (g := gb320) (o := .cells #[.int .i64 0, .int .i64 0, .string (⟨#[]⟩ : ByteArray)] 23 (0, 0)) (by (with_reducible repeat (first | refine blk_drewN ?_ _ | refine blk_drew ?_ | refine blk_alloc ?_ _)); exact BK320.out) hb); have n2_ := Aside0.mk (KeepBut.trans (by repeat (first | (with_reducible first | exact HK.out | apply KeepBut.set_ | apply keep_drewN | apply keep_drew | apply keep_alloc | refine keep_far ?_ GW320.out _) | exact HK.out)) (KeepBut.of_below hb g none) (.inl rfl)); have n3_ := Aside0.mk (below_step (by repeat (first | (with_reducible first | exact HB.out | apply below_alloc | apply pw_below_drewN | apply below_drew1 | refine below_set ?_ (IsS53.ge HI0.out) | refine below_set ?_ GE320.out) | exact HB.out)) hb); have n4_ := Aside0.mk (hbox); have n5_ := Aside0.mk ((by rw [hg]; exact (keep_size (w := w) (g := g) (row := none) (by repeat (first | (with_reducible first | exact HK.out | apply KeepBut.set_ | apply keep_drewN | apply keep_drew | apply keep_alloc | refine keep_far ?_ GW320.out _) | exact HK.out))) : w.heap.size ≤ gb324)); have n6_ := Aside0.mk ((Nat.le_trans HW0.out (by rw [hg]; exact (keep_size (w := w) (g := g) (row := none) (by repeat (first | (with_reducible first | exact HK.out | apply KeepBut.set_ | apply keep_drewN | apply keep_drew | apply keep_alloc | refine keep_far ?_ GW320.out _) | exact HK.out))) : w.heap.size ≤ gb324) : w0.heap.size ≤ gb324)); have n7_ := Aside0.mk ((by rw [hg]; exact Nat.ne_of_lt (blk_lt (g := gb320) (o := .cells #[.int .i64 0, .int .i64 0, .string (⟨#[]⟩ : ByteArray)] 23 (0, 0)) (by (with_reducible repeat (first | refine blk_drewN ?_ _ | refine blk_drew ?_ | refine blk_alloc ?_ _)); exact BK320.out)) : gb320 ≠ gb324)); have n8_ := Aside0.mk ((by rw [hg]; exact Nat.ne_of_gt (blk_lt (g := gb320) (o := .cells #[.int .i64 0, .int .i64 0, .string (⟨#[]⟩ : ByteArray)] 23 (0, 0)) (by (with_reducible repeat (first | refine blk_drewN ?_ _ | refine blk_drew ?_ | refine blk_alloc ?_ _)); exact BK320.out)) : gb324 ≠ gb320)); have n9_ := Aside0.mk ((by rw [hg]; exact Nat.ne_of_lt (IsS53.lt (show IsS53 w0 _ g t322 t323 from by repeat (first | (with_reducible first | exact HI0.out | apply IsS53.alloc | apply IsS53.drewN | apply IsS53.drew | apply IsS53.set_0 | apply IsS53.set_1 | refine IsS53.far ?_ NB0_320.out _) | exact HI0.out))) : g ≠ gb324)); have n10_ := Aside0.mk ((by rw [hg]; exact Nat.ne_of_gt (IsS53.lt (show IsS53 w0 _ g t322 t323 from by repeat (first | (with_reducible first | exact HI0.out | apply IsS53.alloc | apply IsS53.drewN | apply IsS53.drew | apply IsS53.set_0 | apply IsS53.set_1 | refine IsS53.far ?_ NB0_320.out _) | exact HI0.out))) : gb324 ≠ g)); clear HI0; clear BK320; clear HK; clear HB; have HI0 := n0_; have BK320 := n1_; have HK := n2_; have HB := n3_; have BK324 := n4_; have GW324 := n5_; have GE324 := n6_; have NB320_324 := n7_; have NB324_320 := n8_; have NB0_324 := n9_; have NB324_0 := n10_; clear n0_ n1_ n2_ n3_ n4_ n5_ n6_ n7_ n8_ n9_ n10_; clear hb hbox hg; have hnb36 := NB324_320.out; have hnc36 := NB320_324.out; have hnb37 := NB324_0.out; have hnc37 := NB0_324.out; have hcz38_0 : w35.cell? ⟨gb324, 0, none⟩ = some (.int .i64 0) := (blk_cell BK324.out 0).trans rfl; have hcz38_1 : w35.cell? ⟨gb324, 1, none⟩ = some (.int .i64 0) := (blk_cell BK324.out 1).trans rfl; have hcz38_2 : w35.cell? ⟨gb324, 2, none⟩ = some (.string (⟨#[]⟩ : ByteArray)) := (blk_cell BK324.out 2).trans rfl; have hfz38_0 := blk_frozen BK324.out 0; have hfz38_1 := blk_frozen BK324.out 1; have hfz38_2 := blk_frozen BK324.out 2) | ((with_reducible refine gate_callee (f := 62) rfl ?_); refine goesL_ (some 14) rfl rfl Tryd.func62 (by kernel_rfl) rfl #[.pointer (some ⟨g, 0, none⟩), .int .i64 1024] rfl (by (try simp only [List.map_toArray, List.map_cons, List.map_nil]); first | done | rfl | (simp only [List.length_drop, List.length_take]; rfl)) ?_; (with_reducible refine (wherryref01_Reader_Text.calls g t322 t323 1024 t325 t326 t327 w0 _ ?side1 ?side2 A4.out).mono ?_); (case side1 => repeat (first | (with_reducible first | exact HI0.out | apply IsS53.alloc | apply IsS53.drewN | apply IsS53.drew | apply IsS53.set_0 | apply IsS53.set_1 | refine IsS53.far ?_ NB0_320.out _ | refine IsS53.far ?_ NB0_324.out _) | exact HI0.out)); (case side2 => repeat (first | (with_reducible first | exact HB.out | apply below_alloc | apply pw_below_drewN | apply below_drew1 | refine below_set ?_ (IsS53.ge HI0.out) | refine below_set ?_ GE320.out | refine below_set ?_ GE324.out) | exact HB.out)); rintro e w39 ⟨rfl, hi, hb, hk⟩; refine ⟨_, rfl, ?_⟩; have n0_ := Aside0.mk (KeepBut.blk hk (g' := gb320) (o := .cells #[.int .i64 0, .int .i64 0, .string (⟨#[]⟩ : ByteArray)] 23 (0, 0)) (by (with_reducible repeat (first | refine blk_drewN ?_ _ | refine blk_drew ?_ | refine blk_alloc ?_ _)); refine blk_far ?_ NB320_324.out _; (with_reducible repeat (first | refine blk_drewN ?_ _ | refine blk_drew ?_ | refine blk_alloc ?_ _)); refine blk_far ?_ NB320_324.out _; (with_reducible repeat (first | refine blk_drewN ?_ _ | refine blk_drew ?_ | refine blk_alloc ?_ _)); refine blk_far ?_ NB320_324.out _; (with_reducible repeat (first | refine blk_drewN ?_ _ | refine blk_drew ?_ | refine blk_alloc ?_ _)); exact BK320.out) NB320_0.out (by simp)); have n1_ := Aside0.mk (KeepBut.blk hk (g' := gb324) (o := .cells #[.int .i64 (wrap64 (t321)), .int .i64 0, .string (⟨#[]⟩ : ByteArray)] 23 (0, 0)) (by (with_reducible repeat (first | refine blk_drewN ?_ _ | refine blk_drew ?_ | refine blk_alloc ?_ _)); refine blk_put (cs := #[.int .i64 (wrap64 (t321)), .int .i64 0, .string (⟨#[]⟩ : ByteArray)]) ?_ 2 _ rfl; (with_reducible repeat (first | refine blk_drewN ?_ _ | refine blk_drew ?_ | refine blk_alloc ?_ _)); refine blk_put (cs := #[.int .i64 (wrap64 (t321)), .int .i64 0, .string (⟨#[]⟩ : ByteArray)]) ?_ 1 _ rfl; (with_reducible repeat (first | refine blk_drewN ?_ _ | refine blk_drew ?_ | refine blk_alloc ?_ _)); refine blk_put (cs := #[.int .i64 0, .int .i64 0, .string (⟨#[]⟩ : ByteArray)]) ?_ 0 _ rfl; (with_reducible repeat (first | refine blk_drewN ?_ _ | refine blk_drew ?_ | refine blk_alloc ?_ _)); exact BK324.out) NB324_0.out (by simp)); have n2_ := Aside0.mk (KeepBut.trans (by repeat (first | (with_reducible first | exact HK.out | apply KeepBut.set_ | apply keep_drewN | apply keep_drew | apply keep_alloc | refine keep_far ?_ GW320.out _ | refine keep_far ?_ GW324.out _) | exact HK.out)) hk (.inl rfl)); have n3_ := Aside0.mk (hb); have n4_ := Aside0.mk (hi); clear BK320; clear BK324; clear HK; clear HB; clear HI0; have BK320 := n0_; have BK324 := n1_; have HK := n2_; have HB := n3_; have HI0 := n4_; clear n0_ n1_ n2_ n3_ n4_; (try clear hb); (try clear hb2); (try clear hk); (try clear hi); have hcz40_0 : w39.cell? ⟨gb324, 0, none⟩ = some (.int .i64 (wrap64 (t321))) := (blk_cell BK324.out 0).trans rfl; have hcz40_1 : w39.cell? ⟨gb324, 1, none⟩ = some (.int .i64 0) := (blk_cell BK324.out 1).trans rfl; have hcz40_2 : w39.cell? ⟨gb324, 2, none⟩ = some (.string (⟨#[]⟩ : ByteArray)) := (blk_cell BK324.out 2).trans rfl; have hfz40_0 := blk_frozen BK324.out 0; have hfz40_1 := blk_frozen BK324.out 1; have hfz40_2 := blk_frozen BK324.out 2) | ((with_reducible refine gate_callee (f := 11) rfl ?_); refine goesL_ (some 20) rfl rfl Tryd.func11 (by kernel_rfl) rfl #[.agg #[.int .i64 (wrap64 (t321)), .int .i64 0, .string t325]] rfl (by (try simp only [List.map_toArray, List.map_cons, List.map_nil]); first | done | rfl | (simp only [List.length_drop, List.length_take]; rfl)) ?_; (with_reducible refine (wherryref09_May.calls (wrap64 (t321)) 0 t325 t328 _ A5.out).mono ?_); rintro e w41 ⟨rfl, hb⟩; refine ⟨_, rfl, ?_⟩; have n0_ := Aside0.mk (IsS53.below (show IsS53 w0 (w39.setCell ⟨gb324, 2, none⟩ (.string t325)) g t326 t327 from by repeat (first | (with_reducible first | exact HI0.out | apply IsS53.alloc | apply IsS53.drewN | apply IsS53.drew | apply IsS53.set_0 | apply IsS53.set_1 | refine IsS53.far ?_ NB0_320.out _ | refine IsS53.far ?_ NB0_324.out _) | exact HI0.out)) hb); have n1_ := Aside0.mk (blk_below (g := gb320) (o := .cells #[.int .i64 0, .int .i64 0, .string (⟨#[]⟩ : ByteArray)] 23 (0, 0)) (by (with_reducible repeat (first | refine blk_drewN ?_ _ | refine blk_drew ?_ | refine blk_alloc ?_ _)); refine blk_far ?_ NB320_324.out _; (with_reducible repeat (first | refine blk_drewN ?_ _ | refine blk_drew ?_ | refine blk_alloc ?_ _)); exact BK320.out) hb); have n2_ := Aside0.mk (blk_below (g := gb324) (o := .cells #[.int .i64 (wrap64 (t321)), .int .i64 0, .string t325] 23 (0, 0)) (by (with_reducible repeat (first | refine blk_drewN ?_ _ | refine blk_drew ?_ | refine blk_alloc ?_ _)); refine blk_put (cs := #[.int .i64 (wrap64 (t321)), .int .i64 0, .string (⟨#[]⟩ : ByteArray)]) ?_ 2 _ rfl; (with_reducible repeat (first | refine blk_drewN ?_ _ | refine blk_drew ?_ | refine blk_alloc ?_ _)); exact BK324.out) hb); have n3_ := Aside0.mk (KeepBut.trans (by repeat (first | (with_reducible first | exact HK.out | apply KeepBut.set_ | apply keep_drewN | apply keep_drew | apply keep_alloc | refine keep_far ?_ GW320.out _ | refine keep_far ?_ GW324.out _) | exact HK.out)) (KeepBut.of_below hb g none) (.inl rfl)); have n4_ := Aside0.mk (below_step (by repeat (first | (with_reducible first | exact HB.out | apply below_alloc | apply pw_below_drewN | apply below_drew1 | refine below_set ?_ (IsS53.ge HI0.out) | refine below_set ?_ GE320.out | refine below_set ?_ GE324.out) | exact HB.out)) hb); clear HI0; clear BK320; clear BK324; clear HK; clear HB; have HI0 := n0_; have BK320 := n1_; have BK324 := n2_; have HK := n3_; have HB := n4_; clear n0_ n1_ n2_ n3_ n4_; (try clear hb); (try clear hb2); (try clear hk); (try clear hi); obtain ⟨HGz42, hgz42⟩ := HI0.out; have hcz42_0 := cellS53_0 HGz42; have hcz42_1 := cellS53_1 HGz42; have hfz42_0 := blk_frozen HGz42 0; have hfz42_1 := blk_frozen HGz42 1; clear HGz42 hgz42; have hnb43 := NB320_0.out; have hnc43 := NB0_320.out; have hcz44_0 : w41.cell? ⟨gb320, 0, none⟩ = some (.int .i64 0) := (blk_cell BK320.out 0).trans rfl; have hcz44_1 : w41.cell? ⟨gb320, 1, none⟩ = some (.int .i64 0) := (blk_cell BK320.out 1).trans rfl; have hcz44_2 : w41.cell? ⟨gb320, 2, none⟩ = some (.string (⟨#[]⟩ : ByteArray)) := (blk_cell BK320.out 2).trans rfl; have hfz44_0 := blk_frozen BK320.out 0; have hfz44_1 := blk_frozen BK320.out 1; have hfz44_2 := blk_frozen BK320.out 2))
      refine bodyPost_ret (results_ct rfl _ _ gb320 23 #[.int .i64 0, .int .i64 0, .string (⟨#[]⟩ : ByteArray)] (0, 0) _ rfl (by (with_reducible repeat (first | refine blk_drewN ?_ _ | refine blk_drew ?_ | refine blk_alloc ?_ _)); refine blk_put (cs := #[.int .i64 0, .int .i64 0, .string (⟨#[]⟩ : ByteArray)]) ?_ 2 _ rfl; (with_reducible repeat (first | refine blk_drewN ?_ _ | refine blk_drew ?_ | refine blk_alloc ?_ _)); refine blk_put (cs := #[.int .i64 0, .int .i64 0, .string (⟨#[]⟩ : ByteArray)]) ?_ 1 _ rfl; (with_reducible repeat (first | refine blk_drewN ?_ _ | refine blk_drew ?_ | refine blk_alloc ?_ _)); refine blk_put (cs := #[.int .i64 0, .int .i64 0, .string (⟨#[]⟩ : ByteArray)]) ?_ 0 _ rfl; (with_reducible repeat (first | refine blk_drewN ?_ _ | refine blk_drew ?_ | refine blk_alloc ?_ _)); exact BK320.out) Tryd.underlying23 rfl (by kernel_rfl)) rfl ?_
      exact ⟨by first | rfl | (simp [errW_none, errW_some] <;> rfl) | (simp [*, errW_none, errW_some] <;> rfl), by repeat (first | (with_reducible first | exact HI0.out | apply IsS53.alloc | apply IsS53.drewN | apply IsS53.drew | apply IsS53.set_0 | apply IsS53.set_1 | refine IsS53.far ?_ NB0_320.out _ | refine IsS53.far ?_ NB0_324.out _) | exact HI0.out), by repeat (first | (with_reducible first | exact HB.out | apply below_alloc | apply pw_below_drewN | apply below_drew1 | refine below_set ?_ (IsS53.ge HI0.out) | refine below_set ?_ GE320.out | refine below_set ?_ GE324.out) | exact HB.out), by repeat (first | (with_reducible first | exact HK.out | apply KeepBut.set_ | apply keep_drewN | apply keep_drew | apply keep_alloc | refine keep_far ?_ GW320.out _ | refine keep_far ?_ GW324.out _) | exact HK.out)⟩
  · rw [if_neg c3] at H
    have c3b0 : ((wrap64 (t321)) == 3) = false := beq_eq_false_iff_ne.mpr c3
    have c3b1 : ((wrap64 (t321)) != 3) = true := bne_iff_ne.mpr c3
    replace H := Option.bind_eq_some_iff.mp H
    obtain ⟨⟨t329, t330, t331⟩, A450, H⟩ := H
    replace H : ((wherryref09_May.f (wrap64 (t321)) t329 (⟨#[]⟩ : ByteArray)).bind fun t332 => (if t331 = 0 then (if t332 = true then (some (wrap64 (t321), t329, (⟨#[]⟩ : ByteArray), true, t330, t331)) else (some (0, 0, (⟨#[]⟩ : ByteArray), false, t330, t331))) else (some (0, 0, (⟨#[]⟩ : ByteArray), false, t330, t331)))) = some (r1, r2, r3, r4, r5, r6) := H
    have A45 := Aside0.mk A450
    clear A450
    replace H := Option.bind_eq_some_iff.mp H
    obtain ⟨t332, A460, H⟩ := H
    replace H : (if t331 = 0 then (if t332 = true then (some (wrap64 (t321), t329, (⟨#[]⟩ : ByteArray), true, t330, t331)) else (some (0, 0, (⟨#[]⟩ : ByteArray), false, t330, t331))) else (some (0, 0, (⟨#[]⟩ : ByteArray), false, t330, t331))) = some (r1, r2, r3, r4, r5, r6) := H
    have A46 := Aside0.mk A460
    clear A460
    by_cases c47 : t331 = 0
    · rw [if_pos c47] at H
      have c47b0 : (t331 == 0) = true := beq_iff_eq.mpr c47
      have c47b1 : (t331 != 0) = false := bne_eq_false_iff_eq.mpr c47
      clear c47
      by_cases c48 : t332 = true
      · subst c48
        have H1 : (some (wrap64 (t321), t329, (⟨#[]⟩ : ByteArray), true, t330, t331)) = some (r1, r2, r3, r4, r5, r6) := by rw [if_pos rfl] at H; exact H
        clear H
        have H := H1
        clear H1
        simp only [Option.some.injEq, Prod.mk.injEq] at H
        obtain ⟨rfl, rfl, rfl, rfl, rfl, rfl⟩ := H
        go_enter Tryd.func32, Tryd.ntmps32
        go_wp2_with (first | ((with_reducible refine gate_dst (N := 2) rfl ?_); refine box_event ?hg (N := 2) ?hd (cs := #[.int .i64 0, .int .i64 0, .string (⟨#[]⟩ : ByteArray)]) (t := 23) ?hr ?_; (case hd => rfl); (case hg => rfl); (case hr => first | (go_simp; done) | (go_simp; rfl)); intro gb320 hg w49 hbox hb; have n0_ := Aside0.mk (IsS53.below (by repeat (first | (with_reducible first | exact HI0.out | apply IsS53.alloc | apply IsS53.drewN | apply IsS53.drew | apply IsS53.set_0 | apply IsS53.set_1) | exact HI0.out)) hb); have n1_ := Aside0.mk (KeepBut.trans (by repeat (first | (with_reducible first | exact HK.out | apply KeepBut.set_ | apply keep_drewN | apply keep_drew | apply keep_alloc) | exact HK.out)) (KeepBut.of_below hb g none) (.inl rfl)); have n2_ := Aside0.mk (below_step (by repeat (first | (with_reducible first | exact HB.out | apply below_alloc | apply pw_below_drewN | apply below_drew1 | refine below_set ?_ (IsS53.ge HI0.out)) | exact HB.out)) hb); have n3_ := Aside0.mk (hbox); have n4_ := Aside0.mk ((by rw [hg]; exact (keep_size (w := w) (g := g) (row := none) (by repeat (first | (with_reducible first | exact HK.out | apply KeepBut.set_ | apply keep_drewN | apply keep_drew | apply keep_alloc) | exact HK.out))) : w.heap.size ≤ gb320)); have n5_ := Aside0.mk ((Nat.le_trans HW0.out (by rw [hg]; exact (keep_size (w := w) (g := g) (row := none) (by repeat (first | (with_reducible first | exact HK.out | apply KeepBut.set_ | apply keep_drewN | apply keep_drew | apply keep_alloc) | exact HK.out))) : w.heap.size ≤ gb320) : w0.heap.size ≤ gb320)); have n6_ := Aside0.mk ((by rw [hg]; exact Nat.ne_of_lt (IsS53.lt (show IsS53 w0 _ g s0_0 s0_1 from by repeat (first | (with_reducible first | exact HI0.out | apply IsS53.alloc | apply IsS53.drewN | apply IsS53.drew | apply IsS53.set_0 | apply IsS53.set_1) | exact HI0.out))) : g ≠ gb320)); have n7_ := Aside0.mk ((by rw [hg]; exact Nat.ne_of_gt (IsS53.lt (show IsS53 w0 _ g s0_0 s0_1 from by repeat (first | (with_reducible first | exact HI0.out | apply IsS53.alloc | apply IsS53.drewN | apply IsS53.drew | apply IsS53.set_0 | apply IsS53.set_1) | exact HI0.out))) : gb320 ≠ g)); clear HI0; clear HK; clear HB; have HI0 := n0_; have HK := n1_; have HB := n2_; have BK320 := n3_; have GW320 := n4_; have GE320 := n5_; have NB0_320 := n6_; have NB320_0 := n7_; clear n0_ n1_ n2_ n3_ n4_ n5_ n6_ n7_; clear hb hbox hg) | ((with_reducible refine gate_callee (f := 61) rfl ?_); refine goesL_ (some 7) rfl rfl Tryd.func61 (by kernel_rfl) rfl #[.pointer (some ⟨g, 0, none⟩)] rfl (by (try simp only [List.map_toArray, List.map_cons, List.map_nil]); first | done | rfl | (simp only [List.length_drop, List.length_take]; rfl)) ?_; (with_reducible refine (wherryref01_Reader_Byte.calls g s0_0 s0_1 t321 t322 t323 w0 _ ?side1 ?side2 A2.out).mono ?_); (case side1 => repeat (first | (with_reducible first | exact HI0.out | apply IsS53.alloc | apply IsS53.drewN | apply IsS53.drew | apply IsS53.set_0 | apply IsS53.set_1 | refine IsS53.far ?_ NB0_320.out _) | exact HI0.out)); (case side2 => repeat (first | (with_reducible first | exact HB.out | apply below_alloc | apply pw_below_drewN | apply below_drew1 | refine below_set ?_ (IsS53.ge HI0.out) | refine below_set ?_ GE320.out) | exact HB.out)); rintro e w50 ⟨rfl, hi, hb, hk⟩; refine ⟨_, rfl, ?_⟩; have n0_ := Aside0.mk (KeepBut.blk hk (g' := gb320) (o := .cells #[.int .i64 0, .int .i64 0, .string (⟨#[]⟩ : ByteArray)] 23 (0, 0)) (by (with_reducible repeat (first | refine blk_drewN ?_ _ | refine blk_drew ?_ | refine blk_alloc ?_ _)); exact BK320.out) NB320_0.out (by simp)); have n1_ := Aside0.mk (KeepBut.trans (by repeat (first | (with_reducible first | exact HK.out | apply KeepBut.set_ | apply keep_drewN | apply keep_drew | apply keep_alloc | refine keep_far ?_ GW320.out _) | exact HK.out)) hk (.inl rfl)); have n2_ := Aside0.mk (hb); have n3_ := Aside0.mk (hi); clear BK320; clear HK; clear HB; clear HI0; have BK320 := n0_; have HK := n1_; have HB := n2_; have HI0 := n3_; clear n0_ n1_ n2_ n3_; (try clear hb); (try clear hb2); (try clear hk); (try clear hi)) | ((with_reducible refine gate_dst (N := 4) rfl ?_); refine box_event ?hg (N := 4) ?hd (cs := #[.int .i64 0, .int .i64 0, .string (⟨#[]⟩ : ByteArray)]) (t := 23) ?hr ?_; (case hd => rfl); (case hg => rfl); (case hr => first | (go_simp; done) | (go_simp; rfl)); intro gb324 hg w51 hbox hb; have n0_ := Aside0.mk (IsS53.below (by repeat (first | (with_reducible first | exact HI0.out | apply IsS53.alloc | apply IsS53.drewN | apply IsS53.drew | apply IsS53.set_0 | apply IsS53.set_1 | refine IsS53.far ?_ NB0_320.out _) | exact HI0.out)) hb); have n1_ := Aside0.mk (blk_below (g := gb320) (o := .cells #[.int .i64 0, .int .i64 0, .string (⟨#[]⟩ : ByteArray)] 23 (0, 0)) (by (with_reducible repeat (first | refine blk_drewN ?_ _ | refine blk_drew ?_ | refine blk_alloc ?_ _)); exact BK320.out) hb); have n2_ := Aside0.mk (KeepBut.trans (by repeat (first | (with_reducible first | exact HK.out | apply KeepBut.set_ | apply keep_drewN | apply keep_drew | apply keep_alloc | refine keep_far ?_ GW320.out _) | exact HK.out)) (KeepBut.of_below hb g none) (.inl rfl)); have n3_ := Aside0.mk (below_step (by repeat (first | (with_reducible first | exact HB.out | apply below_alloc | apply pw_below_drewN | apply below_drew1 | refine below_set ?_ (IsS53.ge HI0.out) | refine below_set ?_ GE320.out) | exact HB.out)) hb); have n4_ := Aside0.mk (hbox); have n5_ := Aside0.mk ((by rw [hg]; exact (keep_size (w := w) (g := g) (row := none) (by repeat (first | (with_reducible first | exact HK.out | apply KeepBut.set_ | apply keep_drewN | apply keep_drew | apply keep_alloc | refine keep_far ?_ GW320.out _) | exact HK.out))) : w.heap.size ≤ gb324)); have n6_ := Aside0.mk ((Nat.le_trans HW0.out (by rw [hg]; exact (keep_size (w := w) (g := g) (row := none) (by repeat (first | (with_reducible first | exact HK.out | apply KeepBut.set_ | apply keep_drewN | apply keep_drew | apply keep_alloc | refine keep_far ?_ GW320.out _) | exact HK.out))) : w.heap.size ≤ gb324) : w0.heap.size ≤ gb324)); have n7_ := Aside0.mk ((by rw [hg]; exact Nat.ne_of_lt (blk_lt (g := gb320) (o := .cells #[.int .i64 0, .int .i64 0, .string (⟨#[]⟩ : ByteArray)] 23 (0, 0)) (by (with_reducible repeat (first | refine blk_drewN ?_ _ | refine blk_drew ?_ | refine blk_alloc ?_ _)); exact BK320.out)) : gb320 ≠ gb324)); have n8_ := Aside0.mk ((by rw [hg]; exact Nat.ne_of_gt (blk_lt (g := gb320) (o := .cells #[.int .i64 0, .int .i64 0, .string (⟨#[]⟩ : ByteArray)] 23 (0, 0)) (by (with_reducible repeat (first | refine blk_drewN ?_ _ | refine blk_drew ?_ | refine blk_alloc ?_ _)); exact BK320.out)) : gb324 ≠ gb320)); have n9_ := Aside0.mk ((by rw [hg]; exact Nat.ne_of_lt (IsS53.lt (show IsS53 w0 _ g t322 t323 from by repeat (first | (with_reducible first | exact HI0.out | apply IsS53.alloc | apply IsS53.drewN | apply IsS53.drew | apply IsS53.set_0 | apply IsS53.set_1 | refine IsS53.far ?_ NB0_320.out _) | exact HI0.out))) : g ≠ gb324)); have n10_ := Aside0.mk ((by rw [hg]; exact Nat.ne_of_gt (IsS53.lt (show IsS53 w0 _ g t322 t323 from by repeat (first | (with_reducible first | exact HI0.out | apply IsS53.alloc | apply IsS53.drewN | apply IsS53.drew | apply IsS53.set_0 | apply IsS53.set_1 | refine IsS53.far ?_ NB0_320.out _) | exact HI0.out))) : gb324 ≠ g)); clear HI0; clear BK320; clear HK; clear HB; have HI0 := n0_; have BK320 := n1_; have HK := n2_; have HB := n3_; have BK324 := n4_; have GW324 := n5_; have GE324 := n6_; have NB320_324 := n7_; have NB324_320 := n8_; have NB0_324 := n9_; have NB324_0 := n10_; clear n0_ n1_ n2_ n3_ n4_ n5_ n6_ n7_ n8_ n9_ n10_; clear hb hbox hg; have hnb52 := NB324_320.out; have hnc52 := NB320_324.out; have hnb53 := NB324_0.out; have hnc53 := NB0_324.out; have hcz54_0 : w51.cell? ⟨gb324, 0, none⟩ = some (.int .i64 0) := (blk_cell BK324.out 0).trans rfl; have hcz54_1 : w51.cell? ⟨gb324, 1, none⟩ = some (.int .i64 0) := (blk_cell BK324.out 1).trans rfl; have hcz54_2 : w51.cell? ⟨gb324, 2, none⟩ = some (.string (⟨#[]⟩ : ByteArray)) := (blk_cell BK324.out 2).trans rfl; have hfz54_0 := blk_frozen BK324.out 0; have hfz54_1 := blk_frozen BK324.out 1; have hfz54_2 := blk_frozen BK324.out 2) | ((with_reducible refine gate_callee (f := 63) rfl ?_); refine goesL_ (some 17) rfl rfl Tryd.func63 (by kernel_rfl) rfl #[.pointer (some ⟨g, 0, none⟩)] rfl (by (try simp only [List.map_toArray, List.map_cons, List.map_nil]); first | done | rfl | (simp only [List.length_drop, List.length_take]; rfl)) ?_; (with_reducible refine (wherryref01_Reader_Int.calls g t322 t323 t329 t330 t331 w0 _ ?side1 ?side2 A45.out).mono ?_); (case side1 => repeat (first | (with_reducible first | exact HI0.out | apply IsS53.alloc | apply IsS53.drewN | apply IsS53.drew | apply IsS53.set_0 | apply IsS53.set_1 | refine IsS53.far ?_ NB0_320.out _ | refine IsS53.far ?_ NB0_324.out _) | exact HI0.out)); (case side2 => repeat (first | (with_reducible first | exact HB.out | apply below_alloc | apply pw_below_drewN | apply below_drew1 | refine below_set ?_ (IsS53.ge HI0.out) | refine below_set ?_ GE320.out | refine below_set ?_ GE324.out) | exact HB.out)); rintro e w55 ⟨rfl, hi, hb, hk⟩; refine ⟨_, rfl, ?_⟩; have n0_ := Aside0.mk (KeepBut.blk hk (g' := gb320) (o := .cells #[.int .i64 0, .int .i64 0, .string (⟨#[]⟩ : ByteArray)] 23 (0, 0)) (by (with_reducible repeat (first | refine blk_drewN ?_ _ | refine blk_drew ?_ | refine blk_alloc ?_ _)); refine blk_far ?_ NB320_324.out _; (with_reducible repeat (first | refine blk_drewN ?_ _ | refine blk_drew ?_ | refine blk_alloc ?_ _)); refine blk_far ?_ NB320_324.out _; (with_reducible repeat (first | refine blk_drewN ?_ _ | refine blk_drew ?_ | refine blk_alloc ?_ _)); refine blk_far ?_ NB320_324.out _; (with_reducible repeat (first | refine blk_drewN ?_ _ | refine blk_drew ?_ | refine blk_alloc ?_ _)); exact BK320.out) NB320_0.out (by simp)); have n1_ := Aside0.mk (KeepBut.blk hk (g' := gb324) (o := .cells #[.int .i64 (wrap64 (t321)), .int .i64 0, .string (⟨#[]⟩ : ByteArray)] 23 (0, 0)) (by (with_reducible repeat (first | refine blk_drewN ?_ _ | refine blk_drew ?_ | refine blk_alloc ?_ _)); refine blk_put (cs := #[.int .i64 (wrap64 (t321)), .int .i64 0, .string (⟨#[]⟩ : ByteArray)]) ?_ 2 _ rfl; (with_reducible repeat (first | refine blk_drewN ?_ _ | refine blk_drew ?_ | refine blk_alloc ?_ _)); refine blk_put (cs := #[.int .i64 (wrap64 (t321)), .int .i64 0, .string (⟨#[]⟩ : ByteArray)]) ?_ 1 _ rfl; (with_reducible repeat (first | refine blk_drewN ?_ _ | refine blk_drew ?_ | refine blk_alloc ?_ _)); refine blk_put (cs := #[.int .i64 0, .int .i64 0, .string (⟨#[]⟩ : ByteArray)]) ?_ 0 _ rfl; (with_reducible repeat (first | refine blk_drewN ?_ _ | refine blk_drew ?_ | refine blk_alloc ?_ _)); exact BK324.out) NB324_0.out (by simp)); have n2_ := Aside0.mk (KeepBut.trans (by repeat (first | (with_reducible first | exact HK.out | apply KeepBut.set_ | apply keep_drewN | apply keep_drew | apply keep_alloc | refine keep_far ?_ GW320.out _ | refine keep_far ?_ GW324.out _) | exact HK.out)) hk (.inl rfl)); have n3_ := Aside0.mk (hb); have n4_ := Aside0.mk (hi); clear BK320; clear BK324; clear HK; clear HB; clear HI0; have BK320 := n0_; have BK324 := n1_; have HK := n2_; have HB := n3_; have HI0 := n4_; clear n0_ n1_ n2_ n3_ n4_; (try clear hb); (try clear hb2); (try clear hk); (try clear hi); have hcz56_0 : w55.cell? ⟨gb324, 0, none⟩ = some (.int .i64 (wrap64 (t321))) := (blk_cell BK324.out 0).trans rfl; have hcz56_1 : w55.cell? ⟨gb324, 1, none⟩ = some (.int .i64 0) := (blk_cell BK324.out 1).trans rfl; have hcz56_2 : w55.cell? ⟨gb324, 2, none⟩ = some (.string (⟨#[]⟩ : ByteArray)) := (blk_cell BK324.out 2).trans rfl; have hfz56_0 := blk_frozen BK324.out 0; have hfz56_1 := blk_frozen BK324.out 1; have hfz56_2 := blk_frozen BK324.out 2) | ((with_reducible refine gate_callee (f := 11) rfl ?_); refine goesL_ (some 20) rfl rfl Tryd.func11 (by kernel_rfl) rfl #[.agg #[.int .i64 (wrap64 (t321)), .int .i64 t329, .string (⟨#[]⟩ : ByteArray)]] rfl (by (try simp only [List.map_toArray, List.map_cons, List.map_nil]); first | done | rfl | (simp only [List.length_drop, List.length_take]; rfl)) ?_; (with_reducible refine (wherryref09_May.calls (wrap64 (t321)) t329 (⟨#[]⟩ : ByteArray) true _ A46.out).mono ?_); rintro e w57 ⟨rfl, hb⟩; refine ⟨_, rfl, ?_⟩; have n0_ := Aside0.mk (IsS53.below (show IsS53 w0 (w55.setCell ⟨gb324, 1, none⟩ (.int .i64 t329)) g t330 t331 from by repeat (first | (with_reducible first | exact HI0.out | apply IsS53.alloc | apply IsS53.drewN | apply IsS53.drew | apply IsS53.set_0 | apply IsS53.set_1 | refine IsS53.far ?_ NB0_320.out _ | refine IsS53.far ?_ NB0_324.out _) | exact HI0.out)) hb); have n1_ := Aside0.mk (blk_below (g := gb320) (o := .cells #[.int .i64 0, .int .i64 0, .string (⟨#[]⟩ : ByteArray)] 23 (0, 0)) (by (with_reducible repeat (first | refine blk_drewN ?_ _ | refine blk_drew ?_ | refine blk_alloc ?_ _)); refine blk_far ?_ NB320_324.out _; (with_reducible repeat (first | refine blk_drewN ?_ _ | refine blk_drew ?_ | refine blk_alloc ?_ _)); exact BK320.out) hb); have n2_ := Aside0.mk (blk_below (g := gb324) (o := .cells #[.int .i64 (wrap64 (t321)), .int .i64 t329, .string (⟨#[]⟩ : ByteArray)] 23 (0, 0)) (by (with_reducible repeat (first | refine blk_drewN ?_ _ | refine blk_drew ?_ | refine blk_alloc ?_ _)); refine blk_put (cs := #[.int .i64 (wrap64 (t321)), .int .i64 0, .string (⟨#[]⟩ : ByteArray)]) ?_ 1 _ rfl; (with_reducible repeat (first | refine blk_drewN ?_ _ | refine blk_drew ?_ | refine blk_alloc ?_ _)); exact BK324.out) hb); have n3_ := Aside0.mk (KeepBut.trans (by repeat (first | (with_reducible first | exact HK.out | apply KeepBut.set_ | apply keep_drewN | apply keep_drew | apply keep_alloc | refine keep_far ?_ GW320.out _ | refine keep_far ?_ GW324.out _) | exact HK.out)) (KeepBut.of_below hb g none) (.inl rfl)); have n4_ := Aside0.mk (below_step (by repeat (first | (with_reducible first | exact HB.out | apply below_alloc | apply pw_below_drewN | apply below_drew1 | refine below_set ?_ (IsS53.ge HI0.out) | refine below_set ?_ GE320.out | refine below_set ?_ GE324.out) | exact HB.out)) hb); clear HI0; clear BK320; clear BK324; clear HK; clear HB; have HI0 := n0_; have BK320 := n1_; have BK324 := n2_; have HK := n3_; have HB := n4_; clear n0_ n1_ n2_ n3_ n4_; (try clear hb); (try clear hb2); (try clear hk); (try clear hi); obtain ⟨HGz58, hgz58⟩ := HI0.out; have hcz58_0 := cellS53_0 HGz58; have hcz58_1 := cellS53_1 HGz58; have hfz58_0 := blk_frozen HGz58 0; have hfz58_1 := blk_frozen HGz58 1; clear HGz58 hgz58; have hcz59_0 : w57.cell? ⟨gb324, 0, none⟩ = some (.int .i64 (wrap64 (t321))) := (blk_cell BK324.out 0).trans rfl; have hcz59_1 : w57.cell? ⟨gb324, 1, none⟩ = some (.int .i64 t329) := (blk_cell BK324.out 1).trans rfl; have hcz59_2 : w57.cell? ⟨gb324, 2, none⟩ = some (.string (⟨#[]⟩ : ByteArray)) := (blk_cell BK324.out 2).trans rfl; have hfz59_0 := blk_frozen BK324.out 0; have hfz59_1 := blk_frozen BK324.out 1; have hfz59_2 := blk_frozen BK324.out 2; have hnb60 := NB320_0.out; have hnc60 := NB0_320.out; have hcz61_0 : w57.cell? ⟨gb320, 0, none⟩ = some (.int .i64 0) := (blk_cell BK320.out 0).trans rfl; have hcz61_1 : w57.cell? ⟨gb320, 1, none⟩ = some (.int .i64 0) := (blk_cell BK320.out 1).trans rfl; have hcz61_2 : w57.cell? ⟨gb320, 2, none⟩ = some (.string (⟨#[]⟩ : ByteArray)) := (blk_cell BK320.out 2).trans rfl; have hfz61_0 := blk_frozen BK320.out 0; have hfz61_1 := blk_frozen BK320.out 1; have hfz61_2 := blk_frozen BK320.out 2))
        refine bodyPost_ret (results_ct rfl _ _ gb320 23 #[.int .i64 (wrap64 (t321)), .int .i64 t329, .string (⟨#[]⟩ : ByteArray)] (0, 0) _ rfl (by (with_reducible repeat (first | refine blk_drewN ?_ _ | refine blk_drew ?_ | refine blk_alloc ?_ _)); refine blk_put (cs := #[.int .i64 (wrap64 (t321)), .int .i64 t329, .string (⟨#[]⟩ : ByteArray)]) ?_ 2 _ rfl; (with_reducible repeat (first | refine blk_drewN ?_ _ | refine blk_drew ?_ | refine blk_alloc ?_ _)); refine blk_put (cs := #[.int .i64 (wrap64 (t321)), .int .i64 0, .string (⟨#[]⟩ : ByteArray)]) ?_ 1 _ rfl; (with_reducible repeat (first | refine blk_drewN ?_ _ | refine blk_drew ?_ | refine blk_alloc ?_ _)); refine blk_put (cs := #[.int .i64 0, .int .i64 0, .string (⟨#[]⟩ : ByteArray)]) ?_ 0 _ rfl; (with_reducible repeat (first | refine blk_drewN ?_ _ | refine blk_drew ?_ | refine blk_alloc ?_ _)); exact BK320.out) Tryd.underlying23 rfl (by kernel_rfl)) rfl ?_
        exact ⟨by first | rfl | (simp [errW_none, errW_some] <;> rfl) | (simp [*, errW_none, errW_some] <;> rfl), by repeat (first | (with_reducible first | exact HI0.out | apply IsS53.alloc | apply IsS53.drewN | apply IsS53.drew | apply IsS53.set_0 | apply IsS53.set_1 | refine IsS53.far ?_ NB0_320.out _ | refine IsS53.far ?_ NB0_324.out _) | exact HI0.out), by repeat (first | (with_reducible first | exact HB.out | apply below_alloc | apply pw_below_drewN | apply below_drew1 | refine below_set ?_ (IsS53.ge HI0.out) | refine below_set ?_ GE320.out | refine below_set ?_ GE324.out) | exact HB.out), by repeat (first | (with_reducible first | exact HK.out | apply KeepBut.set_ | apply keep_drewN | apply keep_drew | apply keep_alloc | refine keep_far ?_ GW320.out _ | refine keep_far ?_ GW324.out _) | exact HK.out)⟩
      · replace c48 := Bool.eq_false_iff.mpr c48
        subst c48
        have H1 : (some (0, 0, (⟨#[]⟩ : ByteArray), false, t330, t331)) = some (r1, r2, r3, r4, r5, r6) := by rw [if_neg (show ¬ (false = true) by decide)] at H; exact H
        clear H
        have H := H1
        clear H1
        simp only [Option.some.injEq, Prod.mk.injEq] at H
        obtain ⟨rfl, rfl, rfl, rfl, rfl, rfl⟩ := H
        go_enter Tryd.func32, Tryd.ntmps32
        go_wp2_with (first | ((with_reducible refine gate_dst (N := 2) rfl ?_); refine box_event ?hg (N := 2) ?hd (cs := #[.int .i64 0, .int .i64 0, .string (⟨#[]⟩ : ByteArray)]) (t := 23) ?hr ?_; (case hd => rfl); (case hg => rfl); (case hr => first | (go_simp; done) | (go_simp; rfl)); intro gb320 hg w62 hbox hb; have n0_ := Aside0.mk (IsS53.below (by repeat (first | (with_reducible first | exact HI0.out | apply IsS53.alloc | apply IsS53.drewN | apply IsS53.drew | apply IsS53.set_0 | apply IsS53.set_1) | exact HI0.out)) hb); have n1_ := Aside0.mk (KeepBut.trans (by repeat (first | (with_reducible first | exact HK.out | apply KeepBut.set_ | apply keep_drewN | apply keep_drew | apply keep_alloc) | exact HK.out)) (KeepBut.of_below hb g none) (.inl rfl)); have n2_ := Aside0.mk (below_step (by repeat (first | (with_reducible first | exact HB.out | apply below_alloc | apply pw_below_drewN | apply below_drew1 | refine below_set ?_ (IsS53.ge HI0.out)) | exact HB.out)) hb); have n3_ := Aside0.mk (hbox); have n4_ := Aside0.mk ((by rw [hg]; exact (keep_size (w := w) (g := g) (row := none) (by repeat (first | (with_reducible first | exact HK.out | apply KeepBut.set_ | apply keep_drewN | apply keep_drew | apply keep_alloc) | exact HK.out))) : w.heap.size ≤ gb320)); have n5_ := Aside0.mk ((Nat.le_trans HW0.out (by rw [hg]; exact (keep_size (w := w) (g := g) (row := none) (by repeat (first | (with_reducible first | exact HK.out | apply KeepBut.set_ | apply keep_drewN | apply keep_drew | apply keep_alloc) | exact HK.out))) : w.heap.size ≤ gb320) : w0.heap.size ≤ gb320)); have n6_ := Aside0.mk ((by rw [hg]; exact Nat.ne_of_lt (IsS53.lt (show IsS53 w0 _ g s0_0 s0_1 from by repeat (first | (with_reducible first | exact HI0.out | apply IsS53.alloc | apply IsS53.drewN | apply IsS53.drew | apply IsS53.set_0 | apply IsS53.set_1) | exact HI0.out))) : g ≠ gb320)); have n7_ := Aside0.mk ((by rw [hg]; exact Nat.ne_of_gt (IsS53.lt (show IsS53 w0 _ g s0_0 s0_1 from by repeat (first | (with_reducible first | exact HI0.out | apply IsS53.alloc | apply IsS53.drewN | apply IsS53.drew | apply IsS53.set_0 | apply IsS53.set_1) | exact HI0.out))) : gb320 ≠ g)); clear HI0; clear HK; clear HB; have HI0 := n0_; have HK := n1_; have HB := n2_; have BK320 := n3_; have GW320 := n4_; have GE320 := n5_; have NB0_320 := n6_; have NB320_0 := n7_; clear n0_ n1_ n2_ n3_ n4_ n5_ n6_ n7_; clear hb hbox hg) | ((with_reducible refine gate_callee (f := 61) rfl ?_); refine goesL_ (some 7) rfl rfl Tryd.func61 (by kernel_rfl) rfl #[.pointer (some ⟨g, 0, none⟩)] rfl (by (try simp only [List.map_toArray, List.map_cons, List.map_nil]); first | done | rfl | (simp only [List.length_drop, List.length_take]; rfl)) ?_; (with_reducible refine (wherryref01_Reader_Byte.calls g s0_0 s0_1 t321 t322 t323 w0 _ ?side1 ?side2 A2.out).mono ?_); (case side1 => repeat (first | (with_reducible first | exact HI0.out | apply IsS53.alloc | apply IsS53.drewN | apply IsS53.drew | apply IsS53.set_0 | apply IsS53.set_1 | refine IsS53.far ?_ NB0_320.out _) | exact HI0.out)); (case side2 => repeat (first | (with_reducible first | exact HB.out | apply below_alloc | apply pw_below_drewN | apply below_drew1 | refine below_set ?_ (IsS53.ge HI0.out) | refine below_set ?_ GE320.out) | exact HB.out)); rintro e w63 ⟨rfl, hi, hb, hk⟩; refine ⟨_, rfl, ?_⟩; have n0_ := Aside0.mk (KeepBut.blk hk (g' := gb320) (o := .cells #[.int .i64 0, .int .i64 0, .string (⟨#[]⟩ : ByteArray)] 23 (0, 0)) (by (with_reducible repeat (first | refine blk_drewN ?_ _ | refine blk_drew ?_ | refine blk_alloc ?_ _)); exact BK320.out) NB320_0.out (by simp)); have n1_ := Aside0.mk (KeepBut.trans (by repeat (first | (with_reducible first | exact HK.out | apply KeepBut.set_ | apply keep_drewN | apply keep_drew | apply keep_alloc | refine keep_far ?_ GW320.out _) | exact HK.out)) hk (.inl rfl)); have n2_ := Aside0.mk (hb); have n3_ := Aside0.mk (hi); clear BK320; clear HK; clear HB; clear HI0; have BK320 := n0_; have HK := n1_; have HB := n2_; have HI0 := n3_; clear n0_ n1_ n2_ n3_; (try clear hb); (try clear hb2); (try clear hk); (try clear hi)) | ((with_reducible refine gate_dst (N := 4) rfl ?_); refine box_event ?hg (N := 4) ?hd (cs := #[.int .i64 0, .int .i64 0, .string (⟨#[]⟩ : ByteArray)]) (t := 23) ?hr ?_; (case hd => rfl); (case hg => rfl); (case hr => first | (go_simp; done) | (go_simp; rfl)); intro gb324 hg w64 hbox hb; have n0_ := Aside0.mk (IsS53.below (by repeat (first | (with_reducible first | exact HI0.out | apply IsS53.alloc | apply IsS53.drewN | apply IsS53.drew | apply IsS53.set_0 | apply IsS53.set_1 | refine IsS53.far ?_ NB0_320.out _) | exact HI0.out)) hb); have n1_ := Aside0.mk (blk_below (g := gb320) (o := .cells #[.int .i64 0, .int .i64 0, .string (⟨#[]⟩ : ByteArray)] 23 (0, 0)) (by (with_reducible repeat (first | refine blk_drewN ?_ _ | refine blk_drew ?_ | refine blk_alloc ?_ _)); exact BK320.out) hb); have n2_ := Aside0.mk (KeepBut.trans (by repeat (first | (with_reducible first | exact HK.out | apply KeepBut.set_ | apply keep_drewN | apply keep_drew | apply keep_alloc | refine keep_far ?_ GW320.out _) | exact HK.out)) (KeepBut.of_below hb g none) (.inl rfl)); have n3_ := Aside0.mk (below_step (by repeat (first | (with_reducible first | exact HB.out | apply below_alloc | apply pw_below_drewN | apply below_drew1 | refine below_set ?_ (IsS53.ge HI0.out) | refine below_set ?_ GE320.out) | exact HB.out)) hb); have n4_ := Aside0.mk (hbox); have n5_ := Aside0.mk ((by rw [hg]; exact (keep_size (w := w) (g := g) (row := none) (by repeat (first | (with_reducible first | exact HK.out | apply KeepBut.set_ | apply keep_drewN | apply keep_drew | apply keep_alloc | refine keep_far ?_ GW320.out _) | exact HK.out))) : w.heap.size ≤ gb324)); have n6_ := Aside0.mk ((Nat.le_trans HW0.out (by rw [hg]; exact (keep_size (w := w) (g := g) (row := none) (by repeat (first | (with_reducible first | exact HK.out | apply KeepBut.set_ | apply keep_drewN | apply keep_drew | apply keep_alloc | refine keep_far ?_ GW320.out _) | exact HK.out))) : w.heap.size ≤ gb324) : w0.heap.size ≤ gb324)); have n7_ := Aside0.mk ((by rw [hg]; exact Nat.ne_of_lt (blk_lt (g := gb320) (o := .cells #[.int .i64 0, .int .i64 0, .string (⟨#[]⟩ : ByteArray)] 23 (0, 0)) (by (with_reducible repeat (first | refine blk_drewN ?_ _ | refine blk_drew ?_ | refine blk_alloc ?_ _)); exact BK320.out)) : gb320 ≠ gb324)); have n8_ := Aside0.mk ((by rw [hg]; exact Nat.ne_of_gt (blk_lt (g := gb320) (o := .cells #[.int .i64 0, .int .i64 0, .string (⟨#[]⟩ : ByteArray)] 23 (0, 0)) (by (with_reducible repeat (first | refine blk_drewN ?_ _ | refine blk_drew ?_ | refine blk_alloc ?_ _)); exact BK320.out)) : gb324 ≠ gb320)); have n9_ := Aside0.mk ((by rw [hg]; exact Nat.ne_of_lt (IsS53.lt (show IsS53 w0 _ g t322 t323 from by repeat (first | (with_reducible first | exact HI0.out | apply IsS53.alloc | apply IsS53.drewN | apply IsS53.drew | apply IsS53.set_0 | apply IsS53.set_1 | refine IsS53.far ?_ NB0_320.out _) | exact HI0.out))) : g ≠ gb324)); have n10_ := Aside0.mk ((by rw [hg]; exact Nat.ne_of_gt (IsS53.lt (show IsS53 w0 _ g t322 t323 from by repeat (first | (with_reducible first | exact HI0.out | apply IsS53.alloc | apply IsS53.drewN | apply IsS53.drew | apply IsS53.set_0 | apply IsS53.set_1 | refine IsS53.far ?_ NB0_320.out _) | exact HI0.out))) : gb324 ≠ g)); clear HI0; clear BK320; clear HK; clear HB; have HI0 := n0_; have BK320 := n1_; have HK := n2_; have HB := n3_; have BK324 := n4_; have GW324 := n5_; have GE324 := n6_; have NB320_324 := n7_; have NB324_320 := n8_; have NB0_324 := n9_; have NB324_0 := n10_; clear n0_ n1_ n2_ n3_ n4_ n5_ n6_ n7_ n8_ n9_ n10_; clear hb hbox hg; have hnb65 := NB324_320.out; have hnc65 := NB320_324.out; have hnb66 := NB324_0.out; have hnc66 := NB0_324.out; have hcz67_0 : w64.cell? ⟨gb324, 0, none⟩ = some (.int .i64 0) := (blk_cell BK324.out 0).trans rfl; have hcz67_1 : w64.cell? ⟨gb324, 1, none⟩ = some (.int .i64 0) := (blk_cell BK324.out 1).trans rfl; have hcz67_2 : w64.cell? ⟨gb324, 2, none⟩ = some (.string (⟨#[]⟩ : ByteArray)) := (blk_cell BK324.out 2).trans rfl; have hfz67_0 := blk_frozen BK324.out 0; have hfz67_1 := blk_frozen BK324.out 1; have hfz67_2 := blk_frozen BK324.out 2) | ((with_reducible refine gate_callee (f := 63) rfl ?_); refine goesL_ (some 17) rfl rfl Tryd.func63 (by kernel_rfl) rfl #[.pointer (some ⟨g, 0, none⟩)] rfl (by (try simp only [List.map_toArray, List.map_cons, List.map_nil]); first | done | rfl | (simp only [List.length_drop, List.length_take]; rfl)) ?_; (with_reducible refine (wherryref01_Reader_Int.calls g t322 t323 t329 t330 t331 w0 _ ?side1 ?side2 A45.out).mono ?_); (case side1 => repeat (first | (with_reducible first | exact HI0.out | apply IsS53.alloc | apply IsS53.drewN | apply IsS53.drew | apply IsS53.set_0 | apply IsS53.set_1 | refine IsS53.far ?_ NB0_320.out _ | refine IsS53.far ?_ NB0_324.out _) | exact HI0.out)); (case side2 => repeat (first | (with_reducible first | exact HB.out | apply below_alloc | apply pw_below_drewN | apply below_drew1 | refine below_set ?_ (IsS53.ge HI0.out) | refine below_set ?_ GE320.out | refine below_set ?_ GE324.out) | exact HB.out)); rintro e w68 ⟨rfl, hi, hb, hk⟩; refine ⟨_, rfl, ?_⟩; have n0_ := Aside0.mk (KeepBut.blk hk (g' := gb320) (o := .cells #[.int .i64 0, .int .i64 0, .string (⟨#[]⟩ : ByteArray)] 23 (0, 0)) (by (with_reducible repeat (first | refine blk_drewN ?_ _ | refine blk_drew ?_ | refine blk_alloc ?_ _)); refine blk_far ?_ NB320_324.out _; (with_reducible repeat (first | refine blk_drewN ?_ _ | refine blk_drew ?_ | refine blk_alloc ?_ _)); refine blk_far ?_ NB320_324.out _; (with_reducible repeat (first | refine blk_drewN ?_ _ | refine blk_drew ?_ | refine blk_alloc ?_ _)); refine blk_far ?_ NB320_324.out _; (with_reducible repeat (first | refine blk_drewN ?_ _ | refine blk_drew ?_ | refine blk_alloc ?_ _)); exact BK320.out) NB320_0.out (by simp)); have n1_ := Aside0.mk (KeepBut.blk hk (g' := gb324) (o := .cells #[.int .i64 (wrap64 (t321)), .int .i64 0, .string (⟨#[]⟩ : ByteArray)] 23 (0, 0)) (by (with_reducible repeat (first | refine blk_drewN ?_ _ | refine blk_drew ?_ | refine blk_alloc ?_ _)); refine blk_put (cs := #[.int .i64 (wrap64 (t321)), .int .i64 0, .string (⟨#[]⟩ : ByteArray)]) ?_ 2 _ rfl; (with_reducible repeat (first | refine blk_drewN ?_ _ | refine blk_drew ?_ | refine blk_alloc ?_ _)); refine blk_put (cs := #[.int .i64 (wrap64 (t321)), .int .i64 0, .string (⟨#[]⟩ : ByteArray)]) ?_ 1 _ rfl; (with_reducible repeat (first | refine blk_drewN ?_ _ | refine blk_drew ?_ | refine blk_alloc ?_ _)); refine blk_put (cs := #[.int .i64 0, .int .i64 0, .string (⟨#[]⟩ : ByteArray)]) ?_ 0 _ rfl; (with_reducible repeat (first | refine blk_drewN ?_ _ | refine blk_drew ?_ | refine blk_alloc ?_ _)); exact BK324.out) NB324_0.out (by simp)); have n2_ := Aside0.mk (KeepBut.trans (by repeat (first | (with_reducible first | exact HK.out | apply KeepBut.set_ | apply keep_drewN | apply keep_drew | apply keep_alloc | refine keep_far ?_ GW320.out _ | refine keep_far ?_ GW324.out _) | exact HK.out)) hk (.inl rfl)); have n3_ := Aside0.mk (hb); have n4_ := Aside0.mk (hi); clear BK320; clear BK324; clear HK; clear HB; clear HI0; have BK320 := n0_; have BK324 := n1_; have HK := n2_; have HB := n3_; have HI0 := n4_; clear n0_ n1_ n2_ n3_ n4_; (try clear hb); (try clear hb2); (try clear hk); (try clear hi); have hcz69_0 : w68.cell? ⟨gb324, 0, none⟩ = some (.int .i64 (wrap64 (t321))) := (blk_cell BK324.out 0).trans rfl; have hcz69_1 : w68.cell? ⟨gb324, 1, none⟩ = some (.int .i64 0) := (blk_cell BK324.out 1).trans rfl; have hcz69_2 : w68.cell? ⟨gb324, 2, none⟩ = some (.string (⟨#[]⟩ : ByteArray)) := (blk_cell BK324.out 2).trans rfl; have hfz69_0 := blk_frozen BK324.out 0; have hfz69_1 := blk_frozen BK324.out 1; have hfz69_2 := blk_frozen BK324.out 2) | ((with_reducible refine gate_callee (f := 11) rfl ?_); refine goesL_ (some 20) rfl rfl Tryd.func11 (by kernel_rfl) rfl #[.agg #[.int .i64 (wrap64 (t321)), .int .i64 t329, .string (⟨#[]⟩ : ByteArray)]] rfl (by (try simp only [List.map_toArray, List.map_cons, List.map_nil]); first | done | rfl | (simp only [List.length_drop, List.length_take]; rfl)) ?_; (with_reducible refine (wherryref09_May.calls (wrap64 (t321)) t329 (⟨#[]⟩ : ByteArray) false _ A46.out).mono ?_); rintro e w70 ⟨rfl, hb⟩; refine ⟨_, rfl, ?_⟩; have n0_ := Aside0.mk (IsS53.below (show IsS53 w0 (w68.setCell ⟨gb324, 1, none⟩ (.int .i64 t329)) g t330 t331 from by repeat (first | (with_reducible first | exact HI0.out | apply IsS53.alloc | apply IsS53.drewN | apply IsS53.drew | apply IsS53.set_0 | apply IsS53.set_1 | refine IsS53.far ?_ NB0_320.out _ | refine IsS53.far ?_ NB0_324.out _) | exact HI0.out)) hb); have n1_ := Aside0.mk (blk_below (g := gb320) (o := .cells #[.int .i64 0, .int .i64 0, .string (⟨#[]⟩ : ByteArray)] 23 (0, 0)) (by (with_reducible repeat (first | refine blk_drewN ?_ _ | refine blk_drew ?_ | refine blk_alloc ?_ _)); refine blk_far ?_ NB320_324.out _; (with_reducible repeat (first | refine blk_drewN ?_ _ | refine blk_drew ?_ | refine blk_alloc ?_ _)); exact BK320.out) hb); have n2_ := Aside0.mk (blk_below (g := gb324) (o := .cells #[.int .i64 (wrap64 (t321)), .int .i64 t329, .string (⟨#[]⟩ : ByteArray)] 23 (0, 0)) (by (with_reducible repeat (first | refine blk_drewN ?_ _ | refine blk_drew ?_ | refine blk_alloc ?_ _)); refine blk_put (cs := #[.int .i64 (wrap64 (t321)), .int .i64 0, .string (⟨#[]⟩ : ByteArray)]) ?_ 1 _ rfl; (with_reducible repeat (first | refine blk_drewN ?_ _ | refine blk_drew ?_ | refine blk_alloc ?_ _)); exact BK324.out) hb); have n3_ := Aside0.mk (KeepBut.trans (by repeat (first | (with_reducible first | exact HK.out | apply KeepBut.set_ | apply keep_drewN | apply keep_drew | apply keep_alloc | refine keep_far ?_ GW320.out _ | refine keep_far ?_ GW324.out _) | exact HK.out)) (KeepBut.of_below hb g none) (.inl rfl)); have n4_ := Aside0.mk (below_step (by repeat (first | (with_reducible first | exact HB.out | apply below_alloc | apply pw_below_drewN | apply below_drew1 | refine below_set ?_ (IsS53.ge HI0.out) | refine below_set ?_ GE320.out | refine below_set ?_ GE324.out) | exact HB.out)) hb); clear HI0; clear BK320; clear BK324; clear HK; clear HB; have HI0 := n0_; have BK320 := n1_; have BK324 := n2_; have HK := n3_; have HB := n4_; clear n0_ n1_ n2_ n3_ n4_; (try clear hb); (try clear hb2); (try clear hk); (try clear hi); obtain ⟨HGz71, hgz71⟩ := HI0.out; have hcz71_0 := cellS53_0 HGz71; have hcz71_1 := cellS53_1 HGz71; have hfz71_0 := blk_frozen HGz71 0; have hfz71_1 := blk_frozen HGz71 1; clear HGz71 hgz71; have hnb72 := NB320_0.out; have hnc72 := NB0_320.out; have hcz73_0 : w70.cell? ⟨gb320, 0, none⟩ = some (.int .i64 0) := (blk_cell BK320.out 0).trans rfl; have hcz73_1 : w70.cell? ⟨gb320, 1, none⟩ = some (.int .i64 0) := (blk_cell BK320.out 1).trans rfl; have hcz73_2 : w70.cell? ⟨gb320, 2, none⟩ = some (.string (⟨#[]⟩ : ByteArray)) := (blk_cell BK320.out 2).trans rfl; have hfz73_0 := blk_frozen BK320.out 0; have hfz73_1 := blk_frozen BK320.out 1; have hfz73_2 := blk_frozen BK320.out 2))
        refine bodyPost_ret (results_ct rfl _ _ gb320 23 #[.int .i64 0, .int .i64 0, .string (⟨#[]⟩ : ByteArray)] (0, 0) _ rfl (by (with_reducible repeat (first | refine blk_drewN ?_ _ | refine blk_drew ?_ | refine blk_alloc ?_ _)); refine blk_put (cs := #[.int .i64 0, .int .i64 0, .string (⟨#[]⟩ : ByteArray)]) ?_ 2 _ rfl; (with_reducible repeat (first | refine blk_drewN ?_ _ | refine blk_drew ?_ | refine blk_alloc ?_ _)); refine blk_put (cs := #[.int .i64 0, .int .i64 0, .string (⟨#[]⟩ : ByteArray)]) ?_ 1 _ rfl; (with_reducible repeat (first | refine blk_drewN ?_ _ | refine blk_drew ?_ | refine blk_alloc ?_ _)); refine blk_put (cs := #[.int .i64 0, .int .i64 0, .string (⟨#[]⟩ : ByteArray)]) ?_ 0 _ rfl; (with_reducible repeat (first | refine blk_drewN ?_ _ | refine blk_drew ?_ | refine blk_alloc ?_ _)); exact BK320.out) Tryd.underlying23 rfl (by kernel_rfl)) rfl ?_
        exact ⟨by first | rfl | (simp [errW_none, errW_some] <;> rfl) | (simp [*, errW_none, errW_some] <;> rfl), by repeat (first | (with_reducible first | exact HI0.out | apply IsS53.alloc | apply IsS53.drewN | apply IsS53.drew | apply IsS53.set_0 | apply IsS53.set_1 | refine IsS53.far ?_ NB0_320.out _ | refine IsS53.far ?_ NB0_324.out _) | exact HI0.out), by repeat (first | (with_reducible first | exact HB.out | apply below_alloc | apply pw_below_drewN | apply below_drew1 | refine below_set ?_ (IsS53.ge HI0.out) | refine below_set ?_ GE320.out | refine below_set ?_ GE324.out) | exact HB.out), by repeat (first | (with_reducible first | exact HK.out | apply KeepBut.set_ | apply keep_drewN | apply keep_drew | apply keep_alloc | refine keep_far ?_ GW320.out _ | refine keep_far ?_ GW324.out _) | exact HK.out)⟩
    · rw [if_neg c47] at H
      have c47b0 : (t331 == 0) = false := beq_eq_false_iff_ne.mpr c47
      have c47b1 : (t331 != 0) = true := bne_iff_ne.mpr c47
      simp only [Option.some.injEq, Prod.mk.injEq] at H
      obtain ⟨rfl, rfl, rfl, rfl, rfl, rfl⟩ := H
      go_enter Tryd.func32, Tryd.ntmps32
      go_wp2_with (first | ((with_reducible refine gate_dst (N := 2) rfl ?_); refine box_event ?hg (N := 2) ?hd (cs := #[.int .i64 0, .int .i64 0, .string (⟨#[]⟩ : ByteArray)]) (t := 23) ?hr ?_; (case hd => rfl); (case hg => rfl); (case hr => first | (go_simp; done) | (go_simp; rfl)); intro gb320 hg w74 hbox hb; have n0_ := Aside0.mk (IsS53.below (by repeat (first | (with_reducible first | exact HI0.out | apply IsS53.alloc | apply IsS53.drewN | apply IsS53.drew | apply IsS53.set_0 | apply IsS53.set_1) | exact HI0.out)) hb); have n1_ := Aside0.mk (KeepBut.trans (by repeat (first | (with_reducible first | exact HK.out | apply KeepBut.set_ | apply keep_drewN | apply keep_drew | apply keep_alloc) | exact HK.out)) (KeepBut.of_below hb g none) (.inl rfl)); have n2_ := Aside0.mk (below_step (by repeat (first | (with_reducible first | exact HB.out | apply below_alloc | apply pw_below_drewN | apply below_drew1 | refine below_set ?_ (IsS53.ge HI0.out)) | exact HB.out)) hb); have n3_ := Aside0.mk (hbox); have n4_ := Aside0.mk ((by rw [hg]; exact (keep_size (w := w) (g := g) (row := none) (by repeat (first | (with_reducible first | exact HK.out | apply KeepBut.set_ | apply keep_drewN | apply keep_drew | apply keep_alloc) | exact HK.out))) : w.heap.size ≤ gb320)); have n5_ := Aside0.mk ((Nat.le_trans HW0.out (by rw [hg]; exact (keep_size (w := w) (g := g) (row := none) (by repeat (first | (with_reducible first | exact HK.out | apply KeepBut.set_ | apply keep_drewN | apply keep_drew | apply keep_alloc) | exact HK.out))) : w.heap.size ≤ gb320) : w0.heap.size ≤ gb320)); have n6_ := Aside0.mk ((by rw [hg]; exact Nat.ne_of_lt (IsS53.lt (show IsS53 w0 _ g s0_0 s0_1 from by repeat (first | (with_reducible first | exact HI0.out | apply IsS53.alloc | apply IsS53.drewN | apply IsS53.drew | apply IsS53.set_0 | apply IsS53.set_1) | exact HI0.out))) : g ≠ gb320)); have n7_ := Aside0.mk ((by rw [hg]; exact Nat.ne_of_gt (IsS53.lt (show IsS53 w0 _ g s0_0 s0_1 from by repeat (first | (with_reducible first | exact HI0.out | apply IsS53.alloc | apply IsS53.drewN | apply IsS53.drew | apply IsS53.set_0 | apply IsS53.set_1) | exact HI0.out))) : gb320 ≠ g)); clear HI0; clear HK; clear HB; have HI0 := n0_; have HK := n1_; have HB := n2_; have BK320 := n3_; have GW320 := n4_; have GE320 := n5_; have NB0_320 := n6_; have NB320_0 := n7_; clear n0_ n1_ n2_ n3_ n4_ n5_ n6_ n7_; clear hb hbox hg) | ((with_reducible refine gate_callee (f := 61) rfl ?_); refine goesL_ (some 7) rfl rfl Tryd.func61 (by kernel_rfl) rfl #[.pointer (some ⟨g, 0, none⟩)] rfl (by (try simp only [List.map_toArray, List.map_cons, List.map_nil]); first | done | rfl | (simp only [List.length_drop, List.length_take]; rfl)) ?_; (with_reducible refine (wherryref01_Reader_Byte.calls g s0_0 s0_1 t321 t322 t323 w0 _ ?side1 ?side2 A2.out).mono ?_); (case side1 => repeat (first | (with_reducible first | exact HI0.out | apply IsS53.alloc | apply IsS53.drewN | apply IsS53.drew | apply IsS53.set_0 | apply IsS53.set_1 | refine IsS53.far ?_ NB0_320.out _) | exact HI0.out)); (case side2 => repeat (first | (with_reducible first | exact HB.out | apply below_alloc | apply pw_below_drewN | apply below_drew1 | refine below_set ?_ (IsS53.ge HI0.out) | refine below_set ?_ GE320.out) | exact HB.out)); rintro e w75 ⟨rfl, hi, hb, hk⟩; refine ⟨_, rfl, ?_⟩; have n0_ := Aside0.mk (KeepBut.blk hk (g' := gb320) (o := .cells #[.int .i64 0, .int .i64 0, .string (⟨#[]⟩ : ByteArray)] 23 (0, 0)) (by (with_reducible repeat (first | refine blk_drewN ?_ _ | refine blk_drew ?_ | refine blk_alloc ?_ _)); exact BK320.out) NB320_0.out (by simp)); have n1_ := Aside0.mk (KeepBut.trans (by repeat (first | (with_reducible first | exact HK.out | apply KeepBut.set_ | apply keep_drewN | apply keep_drew | apply keep_alloc | refine keep_far ?_ GW320.out _) | exact HK.out)) hk (.inl rfl)); have n2_ := Aside0.mk (hb); have n3_ := Aside0.mk (hi); clear BK320; clear HK; clear HB; clear HI0; have BK320 := n0_; have HK := n1_; have HB := n2_; have HI0 := n3_; clear n0_ n1_ n2_ n3_; (try clear hb); (try clear hb2); (try clear hk); (try clear hi)) | ((with_reducible refine gate_dst (N := 4) rfl ?_); refine box_event ?hg (N := 4) ?hd (cs := #[.int .i64 0, .int .i64 0, .string (⟨#[]⟩ : ByteArray)]) (t := 23) ?hr ?_; (case hd => rfl); (case hg => rfl); (case hr => first | (go_simp; done) | (go_simp; rfl)); intro gb324 hg w76 hbox hb; have n0_ := Aside0.mk (IsS53.below (by repeat (first | (with_reducible first | exact HI0.out | apply IsS53.alloc | apply IsS53.drewN | apply IsS53.drew | apply IsS53.set_0 | apply IsS53.set_1 | refine IsS53.far ?_ NB0_320.out _) | exact HI0.out)) hb); have n1_ := Aside0.mk (blk_below (g := gb320) (o := .cells #[.int .i64 0, .int .i64 0, .string (⟨#[]⟩ : ByteArray)] 23 (0, 0)) (by (with_reducible repeat (first | refine blk_drewN ?_ _ | refine blk_drew ?_ | refine blk_alloc ?_ _)); exact BK320.out) hb); have n2_ := Aside0.mk (KeepBut.trans (by repeat (first | (with_reducible first | exact HK.out | apply KeepBut.set_ | apply keep_drewN | apply keep_drew | apply keep_alloc | refine keep_far ?_ GW320.out _) | exact HK.out)) (KeepBut.of_below hb g none) (.inl rfl)); have n3_ := Aside0.mk (below_step (by repeat (first | (with_reducible first | exact HB.out | apply below_alloc | apply pw_below_drewN | apply below_drew1 | refine below_set ?_ (IsS53.ge HI0.out) | refine below_set ?_ GE320.out) | exact HB.out)) hb); have n4_ := Aside0.mk (hbox); have n5_ := Aside0.mk ((by rw [hg]; exact (keep_size (w := w) (g := g) (row := none) (by repeat (first | (with_reducible first | exact HK.out | apply KeepBut.set_ | apply keep_drewN | apply keep_drew | apply keep_alloc | refine keep_far ?_ GW320.out _) | exact HK.out))) : w.heap.size ≤ gb324)); have n6_ := Aside0.mk ((Nat.le_trans HW0.out (by rw [hg]; exact (keep_size (w := w) (g := g) (row := none) (by repeat (first | (with_reducible first | exact HK.out | apply KeepBut.set_ | apply keep_drewN | apply keep_drew | apply keep_alloc | refine keep_far ?_ GW320.out _) | exact HK.out))) : w.heap.size ≤ gb324) : w0.heap.size ≤ gb324)); have n7_ := Aside0.mk ((by rw [hg]; exact Nat.ne_of_lt (blk_lt (g := gb320) (o := .cells #[.int .i64 0, .int .i64 0, .string (⟨#[]⟩ : ByteArray)] 23 (0, 0)) (by (with_reducible repeat (first | refine blk_drewN ?_ _ | refine blk_drew ?_ | refine blk_alloc ?_ _)); exact BK320.out)) : gb320 ≠ gb324)); have n8_ := Aside0.mk ((by rw [hg]; exact Nat.ne_of_gt (blk_lt (g := gb320) (o := .cells #[.int .i64 0, .int .i64 0, .string (⟨#[]⟩ : ByteArray)] 23 (0, 0)) (by (with_reducible repeat (first | refine blk_drewN ?_ _ | refine blk_drew ?_ | refine blk_alloc ?_ _)); exact BK320.out)) : gb324 ≠ gb320)); have n9_ := Aside0.mk ((by rw [hg]; exact Nat.ne_of_lt (IsS53.lt (show IsS53 w0 _ g t322 t323 from by repeat (first | (with_reducible first | exact HI0.out | apply IsS53.alloc | apply IsS53.drewN | apply IsS53.drew | apply IsS53.set_0 | apply IsS53.set_1 | refine IsS53.far ?_ NB0_320.out _) | exact HI0.out))) : g ≠ gb324)); have n10_ := Aside0.mk ((by rw [hg]; exact Nat.ne_of_gt (IsS53.lt (show IsS53 w0 _ g t322 t323 from by repeat (first | (with_reducible first | exact HI0.out | apply IsS53.alloc | apply IsS53.drewN | apply IsS53.drew | apply IsS53.set_0 | apply IsS53.set_1 | refine IsS53.far ?_ NB0_320.out _) | exact HI0.out))) : gb324 ≠ g)); clear HI0; clear BK320; clear HK; clear HB; have HI0 := n0_; have BK320 := n1_; have HK := n2_; have HB := n3_; have BK324 := n4_; have GW324 := n5_; have GE324 := n6_; have NB320_324 := n7_; have NB324_320 := n8_; have NB0_324 := n9_; have NB324_0 := n10_; clear n0_ n1_ n2_ n3_ n4_ n5_ n6_ n7_ n8_ n9_ n10_; clear hb hbox hg; have hnb77 := NB324_320.out; have hnc77 := NB320_324.out; have hnb78 := NB324_0.out; have hnc78 := NB0_324.out; have hcz79_0 : w76.cell? ⟨gb324, 0, none⟩ = some (.int .i64 0) := (blk_cell BK324.out 0).trans rfl; have hcz79_1 : w76.cell? ⟨gb324, 1, none⟩ = some (.int .i64 0) := (blk_cell BK324.out 1).trans rfl; have hcz79_2 : w76.cell? ⟨gb324, 2, none⟩ = some (.string (⟨#[]⟩ : ByteArray)) := (blk_cell BK324.out 2).trans rfl; have hfz79_0 := blk_frozen BK324.out 0; have hfz79_1 := blk_frozen BK324.out 1; have hfz79_2 := blk_frozen BK324.out 2) | ((with_reducible refine gate_callee (f := 63) rfl ?_); refine goesL_ (some 17) rfl rfl Tryd.func63 (by kernel_rfl) rfl #[.pointer (some ⟨g, 0, none⟩)] rfl (by (try simp only [List.map_toArray, List.map_cons, List.map_nil]); first | done | rfl | (simp only [List.length_drop, List.length_take]; rfl)) ?_; (with_reducible refine (wherryref01_Reader_Int.calls g t322 t323 t329 t330 t331 w0 _ ?side1 ?side2 A45.out).mono ?_); (case side1 => repeat (first | (with_reducible first | exact HI0.out | apply IsS53.alloc | apply IsS53.drewN | apply IsS53.drew | apply IsS53.set_0 | apply IsS53.set_1 | refine IsS53.far ?_ NB0_320.out _ | refine IsS53.far ?_ NB0_324.out _) | exact HI0.out)); (case side2 => repeat (first | (with_reducible first | exact HB.out | apply below_alloc | apply pw_below_drewN | apply below_drew1 | refine below_set ?_ (IsS53.ge HI0.out) | refine below_set ?_ GE320.out | refine below_set ?_ GE324.out) | exact HB.out)); rintro e w80 ⟨rfl, hi, hb, hk⟩; refine ⟨_, rfl, ?_⟩; have n0_ := Aside0.mk (KeepBut.blk hk (g' := gb320) (o := .cells #[.int .i64 0, .int .i64 0, .string (⟨#[]⟩ : ByteArray)] 23 (0, 0)) (by (with_reducible repeat (first | refine blk_drewN ?_ _ | refine blk_drew ?_ | refine blk_alloc ?_ _)); refine blk_far ?_ NB320_324.out _; (with_reducible repeat (first | refine blk_drewN ?_ _ | refine blk_drew ?_ | refine blk_alloc ?_ _)); refine blk_far ?_ NB320_324.out _; (with_reducible repeat (first | refine blk_drewN ?_ _ | refine blk_drew ?_ | refine blk_alloc ?_ _)); refine blk_far ?_ NB320_324.out _; (with_reducible repeat (first | refine blk_drewN ?_ _ | refine blk_drew ?_ | refine blk_alloc ?_ _)); exact BK320.out) NB320_0.out (by simp)); have n1_ := Aside0.mk (KeepBut.blk hk (g' := gb324) (o := .cells #[.int .i64 (wrap64 (t321)), .int .i64 0, .string (⟨#[]⟩ : ByteArray)] 23 (0, 0)) (by (with_reducible repeat (first | refine blk_drewN ?_ _ | refine blk_drew ?_ | refine blk_alloc ?_ _)); refine blk_put (cs := #[.int .i64 (wrap64 (t321)), .int .i64 0, .string (⟨#[]⟩ : ByteArray)]) ?_ 2 _ rfl; (with_reducible repeat (first | refine blk_drewN ?_ _ | refine blk_drew ?_ | refine blk_alloc ?_ _)); refine blk_put (cs := #[.int .i64 (wrap64 (t321)), .int .i64 0, .string (⟨#[]⟩ : ByteArray)]) ?_ 1 _ rfl; (with_reducible repeat (first | refine blk_drewN ?_ _ | refine blk_drew ?_ | refine blk_alloc ?_ _)); refine blk_put (cs := #[.int .i64 0, .int .i64 0, .string (⟨#[]⟩ : ByteArray)]) ?_ 0 _ rfl; (with_reducible repeat (first | refine blk_drewN ?_ _ | refine blk_drew ?_ | refine blk_alloc ?_ _)); exact BK324.out) NB324_0.out (by simp)); have n2_ := Aside0.mk (KeepBut.trans (by repeat (first | (with_reducible first | exact HK.out | apply KeepBut.set_ | apply keep_drewN | apply keep_drew | apply keep_alloc | refine keep_far ?_ GW320.out _ | refine keep_far ?_ GW324.out _) | exact HK.out)) hk (.inl rfl)); have n3_ := Aside0.mk (hb); have n4_ := Aside0.mk (hi); clear BK320; clear BK324; clear HK; clear HB; clear HI0; have BK320 := n0_; have BK324 := n1_; have HK := n2_; have HB := n3_; have HI0 := n4_; clear n0_ n1_ n2_ n3_ n4_; (try clear hb); (try clear hb2); (try clear hk); (try clear hi); have hcz81_0 : w80.cell? ⟨gb324, 0, none⟩ = some (.int .i64 (wrap64 (t321))) := (blk_cell BK324.out 0).trans rfl; have hcz81_1 : w80.cell? ⟨gb324, 1, none⟩ = some (.int .i64 0) := (blk_cell BK324.out 1).trans rfl; have hcz81_2 : w80.cell? ⟨gb324, 2, none⟩ = some (.string (⟨#[]⟩ : ByteArray)) := (blk_cell BK324.out 2).trans rfl; have hfz81_0 := blk_frozen BK324.out 0; have hfz81_1 := blk_frozen BK324.out 1; have hfz81_2 := blk_frozen BK324.out 2) | ((with_reducible refine gate_callee (f := 11) rfl ?_); refine goesL_ (some 20) rfl rfl Tryd.func11 (by kernel_rfl) rfl #[.agg #[.int .i64 (wrap64 (t321)), .int .i64 t329, .string (⟨#[]⟩ : ByteArray)]] rfl (by (try simp only [List.map_toArray, List.map_cons, List.map_nil]); first | done | rfl | (simp only [List.length_drop, List.length_take]; rfl)) ?_; (with_reducible refine (wherryref09_May.calls (wrap64 (t321)) t329 (⟨#[]⟩ : ByteArray) t332 _ A46.out).mono ?_); rintro e w82 ⟨rfl, hb⟩; refine ⟨_, rfl, ?_⟩; have n0_ := Aside0.mk (IsS53.below (show IsS53 w0 (w80.setCell ⟨gb324, 1, none⟩ (.int .i64 t329)) g t330 t331 from by repeat (first | (with_reducible first | exact HI0.out | apply IsS53.alloc | apply IsS53.drewN | apply IsS53.drew | apply IsS53.set_0 | apply IsS53.set_1 | refine IsS53.far ?_ NB0_320.out _ | refine IsS53.far ?_ NB0_324.out _) | exact HI0.out)) hb); have n1_ := Aside0.mk (blk_below (g := gb320) (o := .cells #[.int .i64 0, .int .i64 0, .string (⟨#[]⟩ : ByteArray)] 23 (0, 0)) (by (with_reducible repeat (first | refine blk_drewN ?_ _ | refine blk_drew ?_ | refine blk_alloc ?_ _)); refine blk_far ?_ NB320_324.out _; (with_reducible repeat (first | refine blk_drewN ?_ _ | refine blk_drew ?_ | refine blk_alloc ?_ _)); exact BK320.out) hb); have n2_ := Aside0.mk (blk_below (g := gb324) (o := .cells #[.int .i64 (wrap64 (t321)), .int .i64 t329, .string (⟨#[]⟩ : ByteArray)] 23 (0, 0)) (by (with_reducible repeat (first | refine blk_drewN ?_ _ | refine blk_drew ?_ | refine blk_alloc ?_ _)); refine blk_put (cs := #[.int .i64 (wrap64 (t321)), .int .i64 0, .string (⟨#[]⟩ : ByteArray)]) ?_ 1 _ rfl; (with_reducible repeat (first | refine blk_drewN ?_ _ | refine blk_drew ?_ | refine blk_alloc ?_ _)); exact BK324.out) hb); have n3_ := Aside0.mk (KeepBut.trans (by repeat (first | (with_reducible first | exact HK.out | apply KeepBut.set_ | apply keep_drewN | apply keep_drew | apply keep_alloc | refine keep_far ?_ GW320.out _ | refine keep_far ?_ GW324.out _) | exact HK.out)) (KeepBut.of_below hb g none) (.inl rfl)); have n4_ := Aside0.mk (below_step (by repeat (first | (with_reducible first | exact HB.out | apply below_alloc | apply pw_below_drewN | apply below_drew1 | refine below_set ?_ (IsS53.ge HI0.out) | refine below_set ?_ GE320.out | refine below_set ?_ GE324.out) | exact HB.out)) hb); clear HI0; clear BK320; clear BK324; clear HK; clear HB; have HI0 := n0_; have BK320 := n1_; have BK324 := n2_; have HK := n3_; have HB := n4_; clear n0_ n1_ n2_ n3_ n4_; (try clear hb); (try clear hb2); (try clear hk); (try clear hi); obtain ⟨HGz83, hgz83⟩ := HI0.out; have hcz83_0 := cellS53_0 HGz83; have hcz83_1 := cellS53_1 HGz83; have hfz83_0 := blk_frozen HGz83 0; have hfz83_1 := blk_frozen HGz83 1; clear HGz83 hgz83; have hnb84 := NB320_0.out; have hnc84 := NB0_320.out; have hcz85_0 : w82.cell? ⟨gb320, 0, none⟩ = some (.int .i64 0) := (blk_cell BK320.out 0).trans rfl; have hcz85_1 : w82.cell? ⟨gb320, 1, none⟩ = some (.int .i64 0) := (blk_cell BK320.out 1).trans rfl; have hcz85_2 : w82.cell? ⟨gb320, 2, none⟩ = some (.string (⟨#[]⟩ : ByteArray)) := (blk_cell BK320.out 2).trans rfl; have hfz85_0 := blk_frozen BK320.out 0; have hfz85_1 := blk_frozen BK320.out 1; have hfz85_2 := blk_frozen BK320.out 2))
      refine bodyPost_ret (results_ct rfl _ _ gb320 23 #[.int .i64 0, .int .i64 0, .string (⟨#[]⟩ : ByteArray)] (0, 0) _ rfl (by (with_reducible repeat (first | refine blk_drewN ?_ _ | refine blk_drew ?_ | refine blk_alloc ?_ _)); refine blk_put (cs := #[.int .i64 0, .int .i64 0, .string (⟨#[]⟩ : ByteArray)]) ?_ 2 _ rfl; (with_reducible repeat (first | refine blk_drewN ?_ _ | refine blk_drew ?_ | refine blk_alloc ?_ _)); refine blk_put (cs := #[.int .i64 0, .int .i64 0, .string (⟨#[]⟩ : ByteArray)]) ?_ 1 _ rfl; (with_reducible repeat (first | refine blk_drewN ?_ _ | refine blk_drew ?_ | refine blk_alloc ?_ _)); refine blk_put (cs := #[.int .i64 0, .int .i64 0, .string (⟨#[]⟩ : ByteArray)]) ?_ 0 _ rfl; (with_reducible repeat (first | refine blk_drewN ?_ _ | refine blk_drew ?_ | refine blk_alloc ?_ _)); exact BK320.out) Tryd.underlying23 rfl (by kernel_rfl)) rfl ?_
      exact ⟨by first | rfl | (simp [errW_none, errW_some] <;> rfl) | (simp [*, errW_none, errW_some] <;> rfl), by repeat (first | (with_reducible first | exact HI0.out | apply IsS53.alloc | apply IsS53.drewN | apply IsS53.drew | apply IsS53.set_0 | apply IsS53.set_1 | refine IsS53.far ?_ NB0_320.out _ | refine IsS53.far ?_ NB0_324.out _) | exact HI0.out), by repeat (first | (with_reducible first | exact HB.out | apply below_alloc | apply pw_below_drewN | apply below_drew1 | refine below_set ?_ (IsS53.ge HI0.out) | refine below_set ?_ GE320.out | refine below_set ?_ GE324.out) | exact HB.out), by repeat (first | (with_reducible first | exact HK.out | apply KeepBut.set_ | apply keep_drewN | apply keep_drew | apply keep_alloc | refine keep_far ?_ GW320.out _ | refine keep_far ?_ GW324.out _) | exact HK.out)⟩
end Go.Proofs.YthhgfdejadbigaaDoor.GA
/-
  The reference's Take (chapter 9), as the program's: contract.
-/
set_option linter.unusedVariables false
set_option linter.unusedSimpArgs false
namespace Go.Proofs.YthhgfdejadbigaaDoor.GA
open Go Go.RowKit Go.Proofs.YthhgfdejadbigaaDoorW.PrintWords Go.Proofs.YthhgfdejadbigaaDoorW.PrintLast Go.Proofs.YthhgfdejadbigaaDoorW.PrintMore
open Go.Proofs.Base (rdByte rdInt rdText takeRaw takeOk takeV zeroV Mut)
theorem take_fT {s : ByteArray} {e : Nat} (h3 : (rdByte s e).1 = 3) : takeRaw s e = (⟨((3 : Nat) : Int), 0, (rdText 1024 (rdByte s e).2.1 (rdByte s e).2.2).1⟩, (rdText 1024 (rdByte s e).2.1 (rdByte s e).2.2).2.1, (rdText 1024 (rdByte s e).2.1 (rdByte s e).2.2).2.2) := by
  unfold takeRaw
  rw [if_pos h3]
  generalize rdText 1024 (rdByte s e).2.1 (rdByte s e).2.2 = q
  obtain ⟨q1, q2, q3⟩ := q
  exact rfl
theorem take_fI {s : ByteArray} {e : Nat} (h3 : ¬ (rdByte s e).1 = 3) : takeRaw s e = (⟨((rdByte s e).1 : Int), (rdInt (rdByte s e).2.1 (rdByte s e).2.2).1, (⟨#[]⟩ : ByteArray)⟩, (rdInt (rdByte s e).2.1 (rdByte s e).2.2).2.1, (rdInt (rdByte s e).2.1 (rdByte s e).2.2).2.2) := by
  unfold takeRaw
  rw [if_neg h3]
  generalize rdInt (rdByte s e).2.1 (rdByte s e).2.2 = q
  obtain ⟨q1, q2, q3⟩ := q
  exact rfl
theorem wrap_byte {n : Nat} (h : n < 256) : wrap64 (n : Int) = (n : Int) := by unfold wrap64; omega
end Go.Proofs.YthhgfdejadbigaaDoor.GA
/-
  The walks of value: VarsBytes, Take, TakeVars.
-/
set_option linter.unusedVariables false
set_option linter.unusedSimpArgs false
namespace Go.Proofs.YthhgfdejadbigaaDoor
open Go Go.RowKit Go.Proofs.Base
open Go.Sort (grow)
end Go.Proofs.YthhgfdejadbigaaDoor
/-
  The walks of value: Take, TakeVars.
-/
set_option linter.unusedVariables false
set_option linter.unusedSimpArgs false
namespace Go.Proofs.YthhgfdejadbigaaDoor
open Go Go.RowKit Go.Proofs.Base
open Go.Sort (grow)
theorem Rdr.setOther {w : World} {g : Nat} {s : ByteArray} {e : Nat} (h : Rdr w g s e) {b o : Nat} (hne : g ≠ b) (v : Value) : Rdr (w.setCell ⟨b, o, none⟩ v) g s e := (Below.heap_setCell _ _ _ _ hne).trans h
set_option maxRecDepth 100000 in
set_option maxHeartbeats 2000000 in
theorem val_Take (g : Nat) (s : ByteArray) (e0 : Nat) (w : World) (hr : Rdr w g s e0) (hs : s.size ≤ 9223372036854775807) :
    Calls Tryd.prog 30 #[.pointer (some ⟨g, 0, none⟩)] w fun e w' => e = .returned (.tuple #[.agg #[.int .i64 (takeV s e0).k, .int .i64 (takeV s e0).n, .string (takeV s e0).s], .bool (takeOk s e0)]) ∧ Rdr w' g (takeRaw s e0).2.1 (takeRaw s e0).2.2 ∧ Mut (fun b => b = g) w w' := by
  have hg := hr.facts.2.2.2.2
  have hr1 := hr.alloc (.cells #[.int .i64 0, .int .i64 0, .string ByteArray.empty] 23)
  have HR := Lib.hid hr
  clear hr
  have hb := rdByte_lt s e0
  by_cases h3 : (rdByte s e0).1 = 3
  · have hraw : takeRaw s e0 = (⟨3, 0, (rdText 1024 (rdByte s e0).2.1 (rdByte s e0).2.2).1⟩, (rdText 1024 (rdByte s e0).2.1 (rdByte s e0).2.2).2) := by unfold takeRaw; rw [if_pos h3]
    have HRaw := Lib.hid hraw
    clear hraw
    have h3b : ((rdByte s e0).1 : Int) = 3 := by omega
    go_enter Tryd.func30, Tryd.ntmps30
    go_wp2_with fail
    refine (rd_Byte g s e0 _ hr1 hs).mono ?_
    rintro e w1 ⟨rfl, hq1, hm1⟩
    have ho1 := hm1.blk (heap_alloc_new w _) (show ¬ w.heap.size = g by omega)
    have hz1 := hm1.size
    rw [World.size_alloc] at hz1
    have HO1 := Lib.hid ho1
    have HM1 := Lib.hid hm1
    clear ho1 hm1 hr1
    have hr2 := hq1.alloc (.cells #[.int .i64 3, .int .i64 0, .string ByteArray.empty] 23)
    go_wp2_with fail
    refine (rd_Text g (rdByte s e0).2.1 (rdByte s e0).2.2 1024 _ hr2 (by have := rdByte_size s e0; omega) (by omega) (by omega)).mono ?_
    rintro e w2 ⟨rfl, hq2, hm2⟩
    have ho2 := hm2.blk (block_below ((Below.refl _ _).alloc (Nat.le_refl _) _) HO1.out) (show ¬ w.heap.size = g by omega)
    have hv2 := hm2.blk (heap_alloc_new w1 _) (show ¬ w1.heap.size = g by omega)
    have hz2 := hm2.size
    rw [World.size_alloc] at hz2
    have vc0 := cell_of_blk hv2 0
    have vc1 := cell_of_blk hv2 1
    have vc2 := cell_of_blk hv2 2
    have vf0 := frozen_of_blk hv2 0
    have vf1 := frozen_of_blk hv2 1
    have vf2 := frozen_of_blk hv2 2
    have hM02 : Mut (fun b => b = g) w w2 := ((((Mut.refl _ w).alloc _).trans HM1.out (fun _ _ h => h)).alloc _).trans hm2 (fun _ _ h => h)
    have HV2 := Lib.hid (set_blk (o := 2) hv2 (.string (rdText 1024 (rdByte s e0).2.1 (rdByte s e0).2.2).1))
    have HO2 := Lib.hid ho2
    have HQ2 := Lib.hid hq2
    have HM02 := Lib.hid hM02
    clear ho2 hv2 hq2 hM02 hm2 hq1 hr2
    go_wp2_with fail
    have hq3 : Rdr (w2.setCell ⟨w1.heap.size, 2, none⟩ (.string (rdText 1024 (rdByte s e0).2.1 (rdByte s e0).2.2).1)) g (rdText 1024 (rdByte s e0).2.1 (rdByte s e0).2.2).2.1 (rdText 1024 (rdByte s e0).2.1 (rdByte s e0).2.2).2.2 := by
      unfold Rdr
      rw [Below.heap_setCell _ _ _ _ (show g ≠ w1.heap.size by omega)]
      exact HQ2.out
    have ho3 : (w2.setCell ⟨w1.heap.size, 2, none⟩ (.string (rdText 1024 (rdByte s e0).2.1 (rdByte s e0).2.2).1)).heap[w.heap.size]? = _ := (Below.heap_setCell _ _ _ _ (show w.heap.size ≠ w1.heap.size by omega)).trans HO2.out
    have hm3 : Mut (fun b => b = g) w (w2.setCell ⟨w1.heap.size, 2, none⟩ (.string (rdText 1024 (rdByte s e0).2.1 (rdByte s e0).2.2).1)) := HM02.out.setCell (p := ⟨w1.heap.size, 2, none⟩) (fun h => absurd h (show ¬ w1.heap.size < w.heap.size by omega)) _
    have hv3 := HV2.out
    have hz3 : w1.heap.size < (w2.setCell ⟨w1.heap.size, 2, none⟩ (.string (rdText 1024 (rdByte s e0).2.1 (rdByte s e0).2.2).1)).heap.size := lt_of_blk hv3
    generalize w2.setCell ⟨w1.heap.size, 2, none⟩ (.string (rdText 1024 (rdByte s e0).2.1 (rdByte s e0).2.2).1) = W3 at *
    generalize hgen : rdText 1024 (rdByte s e0).2.1 (rdByte s e0).2.2 = q at *
    obtain ⟨q1, s2, e2⟩ := q
    clear vc0 vc1 vc2 vf0 vf1 vf2 HV2 HQ2 HO2 HM02 HO1 HM1 hz2 hgen
    have hv4 : W3.heap[w1.heap.size]? = some (.cells #[.int .i64 3, .int .i64 0, .string q1] 23 (0, 0)) := hv3
    have HR3 := Lib.hid hq3
    have HO3 := Lib.hid ho3
    have HM3 := Lib.hid hm3
    have HV4 := Lib.hid hv4
    have fv0 := cell_of_blk hv4 0
    have fv1 := cell_of_blk hv4 1
    have fv2 := cell_of_blk hv4 2
    have fo0 := cell_of_blk ho3 0
    have fo1 := cell_of_blk ho3 1
    have fo2 := cell_of_blk ho3 2
    have ff0 := frozen_of_blk ho3 0
    have ff1 := frozen_of_blk ho3 1
    have ff2 := frozen_of_blk ho3 2
    clear hv3 hv4 hq3 ho3 hm3
    have hmm9 : True := trivial
    by_cases h2 : e2 = 0
    · have h2b := bne_f (a := (e2 : Int)) (b := 0) (by omega)
      by_cases hmm : mayV 3 0 q1 = true
      · have hmay := hmm
        have htk : takeOk s e0 = true := by unfold takeOk GVal.may; rw [HRaw.out]; simp [h2, hmm]
        have hv : takeV s e0 = ⟨3, 0, q1⟩ := by unfold takeV; rw [htk, HRaw.out]; rfl
        have HTK := Lib.hid htk
        have HV := Lib.hid hv
        have hM := fun W => val_May 3 0 q1 W
        simp only [hmm] at hM
        have HMay := Lib.hid hM
        clear htk hv hM hmm hmay
        go_wp2_with (go_at_call 60; refine (rd_Err g s2 e2 _ HR3.out).mono ?_; rintro e w' ⟨rfl, rfl⟩)
        refine (HMay.out _).mono ?_
        rintro e w4 ⟨rfl, hb4⟩
        have hv5 := block_below hb4 HV4.out
        have ho5 := block_below hb4 HO3.out
        have HO5 := Lib.hid ho5
        have HM4 := Lib.hid (HM3.out.trans (Mut.of_below hb4 (fun _ => False)) (fun _ _ h => h.elim))
        have HQ4 := Lib.hid (show Rdr w4 g s2 e2 from block_below hb4 HR3.out)
        have gv0 := cell_of_blk hv5 0
        have gv1 := cell_of_blk hv5 1
        have gv2 := cell_of_blk hv5 2
        have go0 := cell_of_blk ho5 0
        have go1 := cell_of_blk ho5 1
        have go2 := cell_of_blk ho5 2
        have gf0 := frozen_of_blk ho5 0
        have gf1 := frozen_of_blk ho5 1
        have gf2 := frozen_of_blk ho5 2
        clear hv5 ho5 fv0 fv1 fv2 fo0 fo1 fo2 ff0 ff1 ff2 hb4
        go_wp2_with fail
        have hb6 := set_blk3 HO5.out (.int .i64 3) (.int .i64 0) (.string q1)
        have r0 := cell_of_blk hb6 0
        have r1 := cell_of_blk hb6 1
        have r2 := cell_of_blk hb6 2
        refine bodyPost_ret (v := .tuple #[.agg #[.int .i64 3, .int .i64 0, .string q1], .bool true]) (by simp [results, Tryd.results30, go_sem, r0, r1, r2]) rfl ⟨?_, ?_, ?_⟩
        · first | (rw [HV.out, HTK.out]; done) | (rw [HV.out, HTK.out]; rfl)
        · rw [HRaw.out]; exact ((HQ4.out.setOther (by omega) _).setOther (by omega) _).setOther (by omega) _
        · exact ((HM4.out.setCell (p := ⟨w.heap.size, 0, none⟩) (fun h => absurd h (Nat.lt_irrefl _)) _).setCell (p := ⟨w.heap.size, 1, none⟩) (fun h => absurd h (Nat.lt_irrefl _)) _).setCell (p := ⟨w.heap.size, 2, none⟩) (fun h => absurd h (Nat.lt_irrefl _)) _
      · have hmm : mayV 3 0 q1 = false := by simpa using hmm
        have htk : takeOk s e0 = false := by unfold takeOk GVal.may; rw [HRaw.out]; simp [hmm]
        have hv : takeV s e0 = zeroV := by unfold takeV; rw [htk]; rfl
        have HTK := Lib.hid htk
        have HV := Lib.hid hv
        have hM := fun W => val_May 3 0 q1 W
        simp only [hmm] at hM
        have HMay := Lib.hid hM
        clear htk hv hM hmm
        go_wp2_with (go_at_call 60; refine (rd_Err g s2 e2 _ HR3.out).mono ?_; rintro e w' ⟨rfl, rfl⟩)
        refine (HMay.out _).mono ?_
        rintro e w4 ⟨rfl, hb4⟩
        have ho5 := block_below hb4 HO3.out
        have HO5 := Lib.hid ho5
        have HM4 := Lib.hid (HM3.out.trans (Mut.of_below hb4 (fun _ => False)) (fun _ _ h => h.elim))
        have HQ4 := Lib.hid (show Rdr w4 g s2 e2 from block_below hb4 HR3.out)
        have go0 := cell_of_blk ho5 0
        have go1 := cell_of_blk ho5 1
        have go2 := cell_of_blk ho5 2
        have gf0 := frozen_of_blk ho5 0
        have gf1 := frozen_of_blk ho5 1
        have gf2 := frozen_of_blk ho5 2
        clear ho5 fv0 fv1 fv2 fo0 fo1 fo2 ff0 ff1 ff2 hb4
        go_wp2_with fail
        have hb6 := set_blk3 HO5.out (.int .i64 0) (.int .i64 0) (.string ⟨#[]⟩)
        have r0 := cell_of_blk hb6 0
        have r1 := cell_of_blk hb6 1
        have r2 := cell_of_blk hb6 2
        refine bodyPost_ret (v := .tuple #[.agg #[.int .i64 0, .int .i64 0, .string ⟨#[]⟩], .bool false]) (by simp [results, Tryd.results30, go_sem, r0, r1, r2]) rfl ⟨?_, ?_, ?_⟩
        · first | (rw [HV.out, HTK.out]; done) | (rw [HV.out, HTK.out]; rfl)
        · rw [HRaw.out]; exact ((HQ4.out.setOther (by omega) _).setOther (by omega) _).setOther (by omega) _
        · exact ((HM4.out.setCell (p := ⟨w.heap.size, 0, none⟩) (fun h => absurd h (Nat.lt_irrefl _)) _).setCell (p := ⟨w.heap.size, 1, none⟩) (fun h => absurd h (Nat.lt_irrefl _)) _).setCell (p := ⟨w.heap.size, 2, none⟩) (fun h => absurd h (Nat.lt_irrefl _)) _
    · have h2b := bne_t (a := (e2 : Int)) (b := 0) (by omega)
      have htk : takeOk s e0 = false := by unfold takeOk; rw [HRaw.out]; simp [h2]
      have hv : takeV s e0 = zeroV := by unfold takeV; rw [htk]; rfl
      have HTK := Lib.hid htk
      have HV := Lib.hid hv
      clear htk hv
      go_wp2_with (go_at_call 60; refine (rd_Err g s2 e2 _ HR3.out).mono ?_; rintro e w' ⟨rfl, rfl⟩)
      have hb6 := set_blk3 HO3.out (.int .i64 0) (.int .i64 0) (.string ⟨#[]⟩)
      have r0 := cell_of_blk hb6 0
      have r1 := cell_of_blk hb6 1
      have r2 := cell_of_blk hb6 2
      refine bodyPost_ret (v := .tuple #[.agg #[.int .i64 0, .int .i64 0, .string ⟨#[]⟩], .bool false]) (by simp [results, Tryd.results30, go_sem, r0, r1, r2]) rfl ⟨?_, ?_, ?_⟩
      · first | (rw [HV.out, HTK.out]; done) | (rw [HV.out, HTK.out]; rfl)
      · rw [HRaw.out]; exact ((HR3.out.setOther (by omega) _).setOther (by omega) _).setOther (by omega) _
      · exact ((HM3.out.setCell (p := ⟨w.heap.size, 0, none⟩) (fun h => absurd h (Nat.lt_irrefl _)) _).setCell (p := ⟨w.heap.size, 1, none⟩) (fun h => absurd h (Nat.lt_irrefl _)) _).setCell (p := ⟨w.heap.size, 2, none⟩) (fun h => absurd h (Nat.lt_irrefl _)) _
  · have hraw : takeRaw s e0 = (⟨(rdByte s e0).1, (rdInt (rdByte s e0).2.1 (rdByte s e0).2.2).1, ByteArray.empty⟩, (rdInt (rdByte s e0).2.1 (rdByte s e0).2.2).2) := by unfold takeRaw; rw [if_neg h3]
    have HRaw := Lib.hid hraw
    clear hraw
    have h3b := beq_f (a := ((rdByte s e0).1 : Int)) (b := 3) (by omega)
    have HH3 := Lib.hid h3
    clear h3
    go_enter Tryd.func30, Tryd.ntmps30
    go_wp2_with fail
    refine (rd_Byte g s e0 _ hr1 hs).mono ?_
    rintro e w1 ⟨rfl, hq1, hm1⟩
    have ho1 := hm1.blk (heap_alloc_new w _) (show ¬ w.heap.size = g by omega)
    have hz1 := hm1.size
    rw [World.size_alloc] at hz1
    have HO1 := Lib.hid ho1
    have HM1 := Lib.hid hm1
    clear ho1 hm1 hr1
    have hr2 := hq1.alloc (.cells #[.int .i64 ((rdByte s e0).1 : Int), .int .i64 0, .string ByteArray.empty] 23)
    go_wp2_with fail
    refine (rd_Int g (rdByte s e0).2.1 (rdByte s e0).2.2 _ hr2 (by have := rdByte_size s e0; omega)).mono ?_
    rintro e w2 ⟨rfl, hq2, hm2⟩
    have ho2 := hm2.blk (block_below ((Below.refl _ _).alloc (Nat.le_refl _) _) HO1.out) (show ¬ w.heap.size = g by omega)
    have hv2 := hm2.blk (heap_alloc_new w1 _) (show ¬ w1.heap.size = g by omega)
    have hz2 := hm2.size
    rw [World.size_alloc] at hz2
    have vc0 := cell_of_blk hv2 0
    have vc1 := cell_of_blk hv2 1
    have vc2 := cell_of_blk hv2 2
    have vf0 := frozen_of_blk hv2 0
    have vf1 := frozen_of_blk hv2 1
    have vf2 := frozen_of_blk hv2 2
    have hM02 : Mut (fun b => b = g) w w2 := ((((Mut.refl _ w).alloc _).trans HM1.out (fun _ _ h => h)).alloc _).trans hm2 (fun _ _ h => h)
    have HV2 := Lib.hid (set_blk (o := 1) hv2 (.int .i64 (rdInt (rdByte s e0).2.1 (rdByte s e0).2.2).1))
    have HO2 := Lib.hid ho2
    have HQ2 := Lib.hid hq2
    have HM02 := Lib.hid hM02
    clear ho2 hv2 hq2 hM02 hm2 hq1 hr2
    go_wp2_with fail
    have hq3 : Rdr (w2.setCell ⟨w1.heap.size, 1, none⟩ (.int .i64 (rdInt (rdByte s e0).2.1 (rdByte s e0).2.2).1)) g (rdInt (rdByte s e0).2.1 (rdByte s e0).2.2).2.1 (rdInt (rdByte s e0).2.1 (rdByte s e0).2.2).2.2 := by
      unfold Rdr
      rw [Below.heap_setCell _ _ _ _ (show g ≠ w1.heap.size by omega)]
      exact HQ2.out
    have ho3 : (w2.setCell ⟨w1.heap.size, 1, none⟩ (.int .i64 (rdInt (rdByte s e0).2.1 (rdByte s e0).2.2).1)).heap[w.heap.size]? = _ := (Below.heap_setCell _ _ _ _ (show w.heap.size ≠ w1.heap.size by omega)).trans HO2.out
    have hm3 : Mut (fun b => b = g) w (w2.setCell ⟨w1.heap.size, 1, none⟩ (.int .i64 (rdInt (rdByte s e0).2.1 (rdByte s e0).2.2).1)) := HM02.out.setCell (p := ⟨w1.heap.size, 1, none⟩) (fun h => absurd h (show ¬ w1.heap.size < w.heap.size by omega)) _
    have hv3 := HV2.out
    have hz3 : w1.heap.size < (w2.setCell ⟨w1.heap.size, 1, none⟩ (.int .i64 (rdInt (rdByte s e0).2.1 (rdByte s e0).2.2).1)).heap.size := lt_of_blk hv3
    generalize w2.setCell ⟨w1.heap.size, 1, none⟩ (.int .i64 (rdInt (rdByte s e0).2.1 (rdByte s e0).2.2).1) = W3 at *
    generalize hgen : rdInt (rdByte s e0).2.1 (rdByte s e0).2.2 = q at *
    obtain ⟨q1, s2, e2⟩ := q
    clear vc0 vc1 vc2 vf0 vf1 vf2 HV2 HQ2 HO2 HM02 HO1 HM1 hz2 hgen
    have hv4 : W3.heap[w1.heap.size]? = some (.cells #[.int .i64 ((rdByte s e0).1 : Int), .int .i64 q1, .string ByteArray.empty] 23 (0, 0)) := hv3
    have HR3 := Lib.hid hq3
    have HO3 := Lib.hid ho3
    have HM3 := Lib.hid hm3
    have HV4 := Lib.hid hv4
    have fv0 := cell_of_blk hv4 0
    have fv1 := cell_of_blk hv4 1
    have fv2 := cell_of_blk hv4 2
    have fo0 := cell_of_blk ho3 0
    have fo1 := cell_of_blk ho3 1
    have fo2 := cell_of_blk ho3 2
    have ff0 := frozen_of_blk ho3 0
    have ff1 := frozen_of_blk ho3 1
    have ff2 := frozen_of_blk ho3 2
    clear hv3 hv4 hq3 ho3 hm3
    have hmm9 : True := trivial
    by_cases h2 : e2 = 0
    · have h2b := bne_f (a := (e2 : Int)) (b := 0) (by omega)
      by_cases hmm : mayV ((rdByte s e0).1 : Int) q1 ByteArray.empty = true
      · have hmay := hmm
        have htk : takeOk s e0 = true := by unfold takeOk GVal.may; rw [HRaw.out]; simp [h2, hmm]
        have hv : takeV s e0 = ⟨((rdByte s e0).1 : Int), q1, ByteArray.empty⟩ := by unfold takeV; rw [htk, HRaw.out]; rfl
        have HTK := Lib.hid htk
        have HV := Lib.hid hv
        have hM := fun W => val_May ((rdByte s e0).1 : Int) q1 ByteArray.empty W
        simp only [hmm] at hM
        have HMay := Lib.hid hM
        clear htk hv hM hmm hmay
        go_wp2_with (go_at_call 60; refine (rd_Err g s2 e2 _ HR3.out).mono ?_; rintro e w' ⟨rfl, rfl⟩)
        refine (HMay.out _).mono ?_
        rintro e w4 ⟨rfl, hb4⟩
        have hv5 := block_below hb4 HV4.out
        have ho5 := block_below hb4 HO3.out
        have HO5 := Lib.hid ho5
        have HM4 := Lib.hid (HM3.out.trans (Mut.of_below hb4 (fun _ => False)) (fun _ _ h => h.elim))
        have HQ4 := Lib.hid (show Rdr w4 g s2 e2 from block_below hb4 HR3.out)
        have gv0 := cell_of_blk hv5 0
        have gv1 := cell_of_blk hv5 1
        have gv2 := cell_of_blk hv5 2
        have go0 := cell_of_blk ho5 0
        have go1 := cell_of_blk ho5 1
        have go2 := cell_of_blk ho5 2
        have gf0 := frozen_of_blk ho5 0
        have gf1 := frozen_of_blk ho5 1
        have gf2 := frozen_of_blk ho5 2
        clear hv5 ho5 fv0 fv1 fv2 fo0 fo1 fo2 ff0 ff1 ff2 hb4
        go_wp2_with fail
        have hb6 := set_blk3 HO5.out (.int .i64 ((rdByte s e0).1 : Int)) (.int .i64 q1) (.string ByteArray.empty)
        have r0 := cell_of_blk hb6 0
        have r1 := cell_of_blk hb6 1
        have r2 := cell_of_blk hb6 2
        refine bodyPost_ret (v := .tuple #[.agg #[.int .i64 ((rdByte s e0).1 : Int), .int .i64 q1, .string ByteArray.empty], .bool true]) (by simp [results, Tryd.results30, go_sem, r0, r1, r2]) rfl ⟨?_, ?_, ?_⟩
        · first | (rw [HV.out, HTK.out]; done) | (rw [HV.out, HTK.out]; rfl)
        · rw [HRaw.out]; exact ((HQ4.out.setOther (by omega) _).setOther (by omega) _).setOther (by omega) _
        · exact ((HM4.out.setCell (p := ⟨w.heap.size, 0, none⟩) (fun h => absurd h (Nat.lt_irrefl _)) _).setCell (p := ⟨w.heap.size, 1, none⟩) (fun h => absurd h (Nat.lt_irrefl _)) _).setCell (p := ⟨w.heap.size, 2, none⟩) (fun h => absurd h (Nat.lt_irrefl _)) _
      · have hmm : mayV ((rdByte s e0).1 : Int) q1 ByteArray.empty = false := by simpa using hmm
        have htk : takeOk s e0 = false := by unfold takeOk GVal.may; rw [HRaw.out]; simp [hmm]
        have hv : takeV s e0 = zeroV := by unfold takeV; rw [htk]; rfl
        have HTK := Lib.hid htk
        have HV := Lib.hid hv
        have hM := fun W => val_May ((rdByte s e0).1 : Int) q1 ByteArray.empty W
        simp only [hmm] at hM
        have HMay := Lib.hid hM
        clear htk hv hM hmm
        go_wp2_with (go_at_call 60; refine (rd_Err g s2 e2 _ HR3.out).mono ?_; rintro e w' ⟨rfl, rfl⟩)
        refine (HMay.out _).mono ?_
        rintro e w4 ⟨rfl, hb4⟩
        have ho5 := block_below hb4 HO3.out
        have HO5 := Lib.hid ho5
        have HM4 := Lib.hid (HM3.out.trans (Mut.of_below hb4 (fun _ => False)) (fun _ _ h => h.elim))
        have HQ4 := Lib.hid (show Rdr w4 g s2 e2 from block_below hb4 HR3.out)
        have go0 := cell_of_blk ho5 0
        have go1 := cell_of_blk ho5 1
        have go2 := cell_of_blk ho5 2
        have gf0 := frozen_of_blk ho5 0
        have gf1 := frozen_of_blk ho5 1
        have gf2 := frozen_of_blk ho5 2
        clear ho5 fv0 fv1 fv2 fo0 fo1 fo2 ff0 ff1 ff2 hb4
        go_wp2_with fail
        have hb6 := set_blk3 HO5.out (.int .i64 0) (.int .i64 0) (.string ⟨#[]⟩)
        have r0 := cell_of_blk hb6 0
        have r1 := cell_of_blk hb6 1
        have r2 := cell_of_blk hb6 2
        refine bodyPost_ret (v := .tuple #[.agg #[.int .i64 0, .int .i64 0, .string ⟨#[]⟩], .bool false]) (by simp [results, Tryd.results30, go_sem, r0, r1, r2]) rfl ⟨?_, ?_, ?_⟩
        · first | (rw [HV.out, HTK.out]; done) | (rw [HV.out, HTK.out]; rfl)
        · rw [HRaw.out]; exact ((HQ4.out.setOther (by omega) _).setOther (by omega) _).setOther (by omega) _
        · exact ((HM4.out.setCell (p := ⟨w.heap.size, 0, none⟩) (fun h => absurd h (Nat.lt_irrefl _)) _).setCell (p := ⟨w.heap.size, 1, none⟩) (fun h => absurd h (Nat.lt_irrefl _)) _).setCell (p := ⟨w.heap.size, 2, none⟩) (fun h => absurd h (Nat.lt_irrefl _)) _
    · have h2b := bne_t (a := (e2 : Int)) (b := 0) (by omega)
      have htk : takeOk s e0 = false := by unfold takeOk; rw [HRaw.out]; simp [h2]
      have hv : takeV s e0 = zeroV := by unfold takeV; rw [htk]; rfl
      have HTK := Lib.hid htk
      have HV := Lib.hid hv
      clear htk hv
      go_wp2_with (go_at_call 60; refine (rd_Err g s2 e2 _ HR3.out).mono ?_; rintro e w' ⟨rfl, rfl⟩)
      have hb6 := set_blk3 HO3.out (.int .i64 0) (.int .i64 0) (.string ⟨#[]⟩)
      have r0 := cell_of_blk hb6 0
      have r1 := cell_of_blk hb6 1
      have r2 := cell_of_blk hb6 2
      refine bodyPost_ret (v := .tuple #[.agg #[.int .i64 0, .int .i64 0, .string ⟨#[]⟩], .bool false]) (by simp [results, Tryd.results30, go_sem, r0, r1, r2]) rfl ⟨?_, ?_, ?_⟩
      · first | (rw [HV.out, HTK.out]; done) | (rw [HV.out, HTK.out]; rfl)
      · rw [HRaw.out]; exact ((HR3.out.setOther (by omega) _).setOther (by omega) _).setOther (by omega) _
      · exact ((HM3.out.setCell (p := ⟨w.heap.size, 0, none⟩) (fun h => absurd h (Nat.lt_irrefl _)) _).setCell (p := ⟨w.heap.size, 1, none⟩) (fun h => absurd h (Nat.lt_irrefl _)) _).setCell (p := ⟨w.heap.size, 2, none⟩) (fun h => absurd h (Nat.lt_irrefl _)) _
end Go.Proofs.YthhgfdejadbigaaDoor
/-
  The walk of value.TakeVars.
-/
set_option linter.unusedVariables false
set_option linter.unusedSimpArgs false
namespace Go.Proofs.YthhgfdejadbigaaDoor
open Go Go.RowKit Go.Proofs.Base
open Go.Sort (grow)
theorem elVar : ElemT Tryd.prog 29 60 4 48 := .of Tryd.underlying29 (z := .agg #[.string ⟨#[]⟩, .int .i64 0, .int .i64 0, .string ⟨#[]⟩]) (by kernel_rfl) rfl
theorem mutGrown {w w1 : World} {g : Nat} (h : Mut (fun b => b = g) w w1) : w.grownBy w1 (some g) := ⟨h.os, h.tape, h.output, h.size, fun k hk hn => h.block k hk (fun e => hn (by rw [e]))⟩
theorem own_mut {w w1 : World} {g base : Nat} {e : TypeId} {sz n : Nat} {v : Value} {xs : List Value} (h : w.ownsRow base e sz v n xs) (hm : Mut (fun b => b = g) w w1) (hg : g < base) : w1.ownsRow base e sz v n xs :=
  h.kept (mutGrown hm) (by
    cases hv : v.ownBlock with
    | none => exact .inl rfl
    | some k => exact .inr (fun he => by have := (h.lt k hv).1; injection he with he; omega))
theorem takeFin_some (l : List GVar) (s : ByteArray) (e : Nat) : takeFin (some l, s, e) = if e = 0 ∧ rightV l = true then (some l, s, e) else (none, s, e) := rfl
end Go.Proofs.YthhgfdejadbigaaDoor
/-
  value.TakeVars: the list that it returns is the caller's own. Printed by genvaltv.py from ValE.
-/
set_option linter.unusedVariables false
set_option linter.unusedSimpArgs false
namespace Go.Proofs.YthhgfdejadbigaaDoor
open Go Go.RowKit Go.Proofs.Base
open Go.Sort (grow)
theorem own_belowV {w w1 : World} {base : Nat} {e : TypeId} {sz n : Nat} {v : Value} {xs : List Value} (h : w.ownsRow base e sz v n xs) (hb : Below w.heap.size w w1) : w1.ownsRow base e sz v n xs :=
 h.kept (Base.grown_of_below hb none) (by cases v.ownBlock <;> simp)
theorem textOne_most {s : ByteArray} {m : Int} (h0 : 0 ≤ m) : ((textOne s m).1.size : Int) ≤ m := by
  unfold textOne
  have he : (ByteArray.empty.size : Int) ≤ m := h0
  split
  · exact he
  · split
    · exact he
    · split
      · exact he
      · rename_i h1 h2 h3
        simp only [ByteArray.size_extract]
        omega
theorem rdText_most (m : Int) (h0 : 0 ≤ m) (s : ByteArray) (e : Nat) : ((rdText m s e).1.size : Int) ≤ m := by
  unfold rdText takeM
  have he : (ByteArray.empty.size : Int) ≤ m := h0
  split
  · exact he
  · split
    · exact he
    · exact textOne_most h0
theorem takeV_wf2 (s : ByteArray) (e : Nat) : (takeV s e).wf := by
  have h0 : zeroV.wf := ⟨by unfold i64 zeroV; simp, by unfold i64 zeroV; simp, Nat.zero_le _⟩
  have h1 := rdByte_lt s e
  have h3 := rdText_most 1024 (by decide) (rdByte s e).2.1 (rdByte s e).2.2
  have h4 := rdInt_i64 (rdByte s e).2.1 (rdByte s e).2.2
  unfold takeV
  split
  · unfold takeRaw
    split
    · exact ⟨by unfold i64; simp, by unfold i64; simp, by unfold okS; simp only; omega⟩
    · exact ⟨by unfold i64; simp; omega, h4, Nat.zero_le _⟩
  · exact h0
def TakeVarsOwn (w : World) (g : Nat) (r : Option (List GVar) × ByteArray × Nat) (e : Ending) (w' : World) : Prop :=
  ∃ v, e = .returned (.tuple #[v, .bool r.1.isSome]) ∧ w'.ownsRow w.heap.size 60 4 v (r.1.getD []).length (varCells (r.1.getD [])) ∧ Rdr w' g r.2.1 r.2.2 ∧ Mut (fun b => b = g) w w'
set_option maxRecDepth 100000 in
set_option maxHeartbeats 2000000 in
theorem val_TakeVarsO (g : Nat) (s : ByteArray) (e0 : Nat) (w : World) (hr : Rdr w g s e0) (hs : s.size ≤ 9223372036854775807) :
    Calls Tryd.prog 33 #[.pointer (some ⟨g, 0, none⟩)] w (TakeVarsOwn w g (takeVars s e0)) := by
  have hg := hr.facts.2.2.2.2
  have hu := rdUint_size s e0
  by_cases h16 : 16 < (rdUint s e0).1
  · have hv : takeVars s e0 = (none, (rdUint s e0).2) := by unfold takeVars; rw [if_pos h16]
    have HV := Lib.hid hv
    have h16' : (16 : Int) < ((rdUint s e0).1 : Int) := by omega
    clear hv h16
    go_enter Tryd.func33, Tryd.ntmps33
    go_wp2_with (go_at_call 64; refine (rd_Uint g s e0 _ hr (by omega)).mono ?_; rintro e w1 ⟨rfl, hq1, hm1⟩)
    go_ret2
    rw [HV.out]
    exact ⟨_, rfl, own_nil _ _ _ _, hq1, hm1⟩
  · have hv : takeVars s e0 = takeFin (takeGo (rdUint s e0).1 (rdUint s e0).2.1 (rdUint s e0).2.2 []) := by unfold takeVars; rw [if_neg h16]
    have h16' : ((rdUint s e0).1 : Int) ≤ 16 := by omega
    have HV := Lib.hid hv
    clear hv
    go_enter Tryd.func33, Tryd.ntmps33
    go_wp2_with (go_at_call 64; refine (rd_Uint g s e0 _ hr (by omega)).mono ?_; rintro e w1 ⟨rfl, hq1, hm1⟩)
    generalize rdUint s e0 = q at *
    obtain ⟨n, s1, e1⟩ := q
    clear hr
    go_loopw [5, 6, 7, 8, 14] (fun v _ _ _ i wr => ∃ (k m : Nat) (acc : List GVar) (s2 : ByteArray) (e2 : Nat), i = .int .u64 k ∧ k + m = n ∧ acc.length = k ∧ wr.ownsRow w.heap.size 60 4 v acc.length (varCells acc) ∧ Rdr wr g s2 e2 ∧ s2.size ≤ s.size ∧ Mut (fun b => b = g) w wr ∧ Hid (∀ x ∈ acc, x.wf) ∧ Hid (takeVars s e0 = takeFin (takeGo m s2 e2 acc))) (fun _ _ _ _ i _ => n - (intOf i).toNat)
    case atStart => exact ⟨0, n, [], s1, e1, rfl, by omega, rfl, own_nil _ _ _ _, hq1, hu, hm1, Lib.hid (fun x hx => by cases hx), HV⟩
    case round =>
      clear hq1 hm1 HV
      obtain ⟨k, m, acc, s2, e2, rfl, hkm, hacc, hown, hq, hs2, hm, HW, HV⟩ := hrel
      cases m with
      | zero =>
        have Hkm := Lib.hid hkm
        have hkn : ¬ k < n := by omega
        have Hacc := Lib.hid hacc
        have HQ := Lib.hid hq
        have hv := HV.out
        unfold takeGo at hv
        rw [takeFin_some] at hv
        have HVV := Lib.hid hv
        have HO := Lib.hid hown
        have hrow := (Row.of_own hown).weaken (S' := fun b => w.heap.size ≤ b) (fun _ _ h => h.1)
        have HRow := Lib.hid hrow
        have HR2 := Lib.hid (val_Right (fun b => w.heap.size ≤ b) acc acc.length _ wr rfl hrow HW.out)
        clear hkm hacc HV hv hown hrow
        by_cases h2 : e2 = 0
        · have h2b := bne_f (a := (e2 : Int)) (b := 0) (by omega)
          by_cases hri : rightV acc = true
          · have hf : takeVars s e0 = (some acc, s2, e2) := by rw [HVV.out, if_pos ⟨h2, hri⟩]
            have HF := Lib.hid hf
            have hR2 := HR2.out
            simp only [hri] at hR2
            have HR3 := Lib.hid hR2
            have HM := Lib.hid hm
            clear hf hri hR2 h2 hm
            go_wp2_with (first | (go_at_call 60; refine (rd_Err g s2 e2 _ HQ.out).mono ?_; rintro e w' ⟨rfl, rfl⟩) | (go_at_call 21; refine HR3.out.mono ?_; rintro e w3 ⟨rfl, hb3⟩))
            go_ret2
            rw [HF.out]
            exact ⟨_, rfl, own_belowV HO.out hb3, block_below hb3 HQ.out, HM.out.trans (Mut.of_below hb3 (fun _ => False)) (fun _ _ h => h.elim)⟩
          · have hri : rightV acc = false := by simpa using hri
            have hf : takeVars s e0 = (none, s2, e2) := by rw [HVV.out, if_neg (by simp [hri])]
            have HF := Lib.hid hf
            have hR2 := HR2.out
            simp only [hri] at hR2
            have HR3 := Lib.hid hR2
            have HM := Lib.hid hm
            clear hf hri hR2 h2 hm
            go_wp2_with (first | (go_at_call 60; refine (rd_Err g s2 e2 _ HQ.out).mono ?_; rintro e w' ⟨rfl, rfl⟩) | (go_at_call 21; refine HR3.out.mono ?_; rintro e w3 ⟨rfl, hb3⟩))
            go_ret2
            rw [HF.out]
            exact ⟨_, rfl, own_nil _ _ _ _, block_below hb3 HQ.out, HM.out.trans (Mut.of_below hb3 (fun _ => False)) (fun _ _ h => h.elim)⟩
        · have h2b := bne_t (a := (e2 : Int)) (b := 0) (by omega)
          have hf : takeVars s e0 = (none, s2, e2) := by rw [HVV.out, if_neg (by simp [h2])]
          have HF := Lib.hid hf
          have HM := Lib.hid hm
          clear hf h2 hm
          go_wp2_with (go_at_call 60; refine (rd_Err g s2 e2 _ HQ.out).mono ?_; rintro e w' ⟨rfl, rfl⟩)
          go_ret2
          rw [HF.out]
          exact ⟨_, rfl, own_nil _ _ _ _, HQ.out, HM.out⟩
      | succ m =>
        have hkn : k < n := by omega
        have hv := HV.out
        unfold takeGo at hv
        have hsz := rdText_size 32 s2 e2
        have hrs := rdText_most 32 (by decide) s2 e2
        have hT := rd_Text g s2 e2 32 wr hq (by omega) (by omega) (by omega)
        have HT := Lib.hid hT
        generalize rdText 32 s2 e2 = q at *
        obtain ⟨nm, s3, e3⟩ := q
        have HV2 := Lib.hid hv
        have Hkm := Lib.hid hkm
        have Hacc := Lib.hid hacc
        have HM := Lib.hid hm
        have HO := Lib.hid hown
        clear hT HV hv hkm hacc hm hq hown
        go_wp2_with (go_at_call 58; refine HT.out.mono ?_; rintro e w3 ⟨rfl, hq3, hm3⟩)
        refine (val_Take g s3 e3 w3 hq3 (by omega)).mono ?_
        rintro e w4 ⟨rfl, hq4, hm4⟩
        have hwf := takeV_wf2 s3 e3
        have hz4 := takeRaw_size s3 e3
        have ho4 := own_mut (own_mut HO.out hm3 hg) hm4 hg
        have HO4 := Lib.hid ho4
        have hM4 : Mut (fun b => b = g) w w4 := (HM.out.trans hm3 (fun _ _ h => h)).trans hm4 (fun _ _ h => h)
        have HM4 := Lib.hid hM4
        have HQ4 := Lib.hid hq4
        have hv5 := HV2.out
        have hw4 : w.heap.size ≤ w4.heap.size := hM4.size
        clear HV2 HM HO hq3 hq4 hm3 hm4 HT ho4 hM4
        generalize takeRaw s3 e3 = raw at *
        obtain ⟨rv, s4, e4⟩ := raw
        generalize takeV s3 e3 = tv at *
        by_cases hok : takeOk s3 e3 = true
        · rw [if_pos hok] at hv5
          simp only [hok]
          have HV5 := Lib.hid hv5
          have HW5 : Hid (∀ x ∈ acc ++ [(⟨nm, tv⟩ : GVar)], x.wf) := Lib.hid (fun x hx => by
            rcases List.mem_append.1 hx with h | h
            · exact HW.out x h
            · rw [List.mem_singleton.1 h]; exact ⟨by unfold okS; simp only; omega, hwf⟩)
          clear hv5 hok hwf HW
          have hb4 : Below w.heap.size (w4.alloc (.cells #[.int .i64 tv.k, .int .i64 tv.n, .string tv.s] 23)) (w4.alloc (.cells #[.int .i64 tv.k, .int .i64 tv.n, .string tv.s] 23)) := Below.refl _ _
          have ho5 := HO4.out.alloc (.cells #[.int .i64 tv.k, .int .i64 tv.n, .string tv.s] 23)
          have hsz5 : w.heap.size ≤ (w4.alloc (.cells #[.int .i64 tv.k, .int .i64 tv.n, .string tv.s] 23)).heap.size := by simp; omega
          have ha16 : acc.length ≤ 16 := by have := Hacc.out; omega
          have HB4 := Lib.hid hb4
          have HO5 := Lib.hid ho5
          have HS5 := Lib.hid hsz5
          clear hb4 ho5 hsz5
          go_wp2_with (at_builtin; refine wp_app elVar (by decide) rfl (.tmp 25) (.tmp 29) rfl w.heap.size _ acc.length (varCells acc) [_, _, _, _] rfl (by rw [World.size_alloc]; rfl) rfl (by simp [Value.oneCell']) HO5.out HB4.out HS5.out (by omega) (by omega) ?_; intro v1 w5 HO6 HB6 hg6 hat6)
          go_roundw
          case rel =>
            have hl5 := Hkm.out
            have hc : varCells acc ++ [.string nm, .int .i64 tv.k, .int .i64 tv.n, .string tv.s] = varCells (acc ++ [(⟨nm, tv⟩ : GVar)]) := by rw [varCells_append]; rfl
            rw [hc] at HO6
            have hgr := (World.grownBy_alloc w4 (.cells #[.int .i64 tv.k, .int .i64 tv.n, .string tv.s] 23) u5.ownBlock).trans ((World.grownBy_alloc _ _ _).trans hg6)
            have hbl : ∀ b, b < w4.heap.size → u5.ownBlock = some b → w.heap.size ≤ b := fun b _ hb => (HO4.out.lt b hb).1
            refine ⟨k + 1, m, acc ++ [⟨nm, tv⟩], s4, e4, by go_num, by omega, by rw [List.length_append, Hacc.out]; rfl, by rw [List.length_append]; exact HO6, ?_, Nat.le_trans hz4 (Nat.le_trans hsz hs2), ?_, HW5, HV5⟩
            · refine Mut.blk (T := fun b => u5.ownBlock = some b) (Mut.grown hgr (fun b h => h)) HQ4.out (fun h => ?_)
              have := (HO4.out.lt g h).1
              omega
            · exact HM4.out.trans (Mut.grown (T := fun b => u5.ownBlock = some b) hgr (fun b h => h)) (fun b hb h => absurd hb (by have := (HO4.out.lt b h).1; omega))
          case measure => have := Hkm.out; simp [intOf]; omega
        · have hok : takeOk s3 e3 = false := by simpa using hok
          rw [if_neg (by simp [hok])] at hv5
          simp only [hok]
          have HV5 := Lib.hid hv5
          clear hv5 hok
          go_wp2_with fail
          go_ret2
          rw [HV5.out]
          exact ⟨_, rfl, own_nil _ _ _ _, HQ4.out.alloc _, HM4.out.alloc _⟩
end Go.Proofs.YthhgfdejadbigaaDoor
