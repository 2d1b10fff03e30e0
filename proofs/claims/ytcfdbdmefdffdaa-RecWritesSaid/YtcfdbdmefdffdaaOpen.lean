/-
  Merged from GAx8, LawC, LawV, LawR, RefW, Writes, Open.
-/
import Derived.Test.YtcfdbdmefdffdaaGAx2
import Derived.Test.YtcfdbdmefdffdaaGAx6
import Derived.Test.YtcfdbdmefdffdaaGAx7
import Derived.Test.YtcfdbdmefdffdaaGAx5
import Derived.Test.YtcfdbdmefdffdaaSameC0
import Derived.Test.YtcfdbdmefdffdaaGen
import Derived.Test.YtcfdbdmefdffdaaRows
import Derived.Deep.Slices
import Derived.Deep.Fields
import Derived.SizedLaws
import Derived.OpenShut
namespace Go.Proofs.Ytcfdbdmefdffdaa.GA
open Go.RowKit Go.Proofs.YtcfdbdmefdffdaaW.PrintWords Go.Proofs.YtcfdbdmefdffdaaW.PrintLast Go.Proofs.YtcfdbdmefdffdaaW.PrintMore
attribute [local go_sem] max2_int min2_int max_two min_two max_three min_three max_four min_four   -- for this text's walks alone
set_option linter.unusedVariables false
set_option linter.unusedSimpArgs false
attribute [local go_sem high] eqA52
def wherryref12_Bytes.f (k : Nat) (a0_0 : Int) (a0_1 : Int) (a0_2 : Int) (a0_3 : Int) (a0_4 : Int) (a0_5 : Int) (a0_6 : Int) (a0_7 : Int) (a0_8 : Int) (a0_9 : ByteArray) (a0_10 : ByteArray) (a0_11 : ByteArray) (l0_12 : List (S52)) : Option (ByteArray × Int) := (wherryref12_May.f k a0_0 a0_1 a0_2 a0_3 a0_4 a0_5 a0_6 a0_7 a0_8 a0_9 a0_10 a0_11 l0_12).bind fun t141 => (if t141 = true then ((wherryref12_text.f k a0_0 a0_1 a0_2 a0_3 a0_4 a0_5 a0_6 a0_7 a0_8 a0_9 a0_10 a0_11 l0_12).bind fun t142 => (some (t142, 0))) else (some ((⟨#[]⟩ : ByteArray), 1)))
theorem wherryref12_Bytes.mono : ∀ a0 a1 a2 a3 a4 a5 a6 a7 a8 a9 a10 a11 a12 k, LeO (wherryref12_Bytes.f k a0 a1 a2 a3 a4 a5 a6 a7 a8 a9 a10 a11 a12) (wherryref12_Bytes.f (k + 1) a0 a1 a2 a3 a4 a5 a6 a7 a8 a9 a10 a11 a12) := by
  intro a0 a1 a2 a3 a4 a5 a6 a7 a8 a9 a10 a11 a12 k
  unfold wherryref12_Bytes.f
  repeat' first
      | (with_reducible exact wherryref12_May.mono _ _ _ _ _ _ _ _ _ _ _ _ _ _)
      | (with_reducible exact wherryref12_text.mono _ _ _ _ _ _ _ _ _ _ _ _ _ _)
      | (with_reducible exact LeO.refl _)
      | (with_reducible exact LeO.none _)
      | (with_reducible refine LeO.ite ?_ ?_)
      | (with_reducible refine LeO.bind ?_ (fun _ => ?_))
      | exact wherryref12_May.mono _ _ _ _ _ _ _ _ _ _ _ _ _ _
      | exact wherryref12_text.mono _ _ _ _ _ _ _ _ _ _ _ _ _ _
      | exact LeO.none _
      | refine LeO.ite ?_ ?_
      | refine LeO.bind ?_ (fun _ => ?_)
set_option maxHeartbeats 8000000 in
set_option maxRecDepth 100000 in
theorem wherryref12_Bytes.calls (k : Nat) (a0_0 : Int) (a0_1 : Int) (a0_2 : Int) (a0_3 : Int) (a0_4 : Int) (a0_5 : Int) (a0_6 : Int) (a0_7 : Int) (a0_8 : Int) (a0_9 : ByteArray) (a0_10 : ByteArray) (a0_11 : ByteArray) (A0_12 : Option Addr) (c0_12 : Nat) (l0_12 : List (S52)) (r1 : ByteArray) (r2 : Int) (w : World) (hr0_12 : Kd.C k52 w A0_12 l0_12.length l0_12) (hc0_12 : l0_12.length ≤ c0_12) (h : wherryref12_Bytes.f k a0_0 a0_1 a0_2 a0_3 a0_4 a0_5 a0_6 a0_7 a0_8 a0_9 a0_10 a0_11 l0_12 = some (r1, r2)) :
    Calls Try.prog 10 #[.agg #[.int .i64 a0_0, .int .i64 a0_1, .int .u64 a0_2, .int .i64 a0_3, .int .u64 a0_4, .int .u64 a0_5, .int .u64 a0_6, .int .i64 a0_7, .int .i64 a0_8, .string a0_9, .string a0_10, .string a0_11, .slice A0_12 l0_12.length c0_12]] w fun e w' => e = .returned (.tuple #[.string r1, .int .i64 r2]) ∧ Below w.heap.size w w' := by
  have hu25 := Try.underlying25
  have HR0_12 := Aside0.mk hr0_12
  have HC0_12 := Aside0.mk hc0_12
  clear hr0_12 hc0_12
  have HB := Aside0.mk (Below.refl w.heap.size w)
  have H : ((wherryref12_May.f k a0_0 a0_1 a0_2 a0_3 a0_4 a0_5 a0_6 a0_7 a0_8 a0_9 a0_10 a0_11 l0_12).bind fun t141 => (if t141 = true then ((wherryref12_text.f k a0_0 a0_1 a0_2 a0_3 a0_4 a0_5 a0_6 a0_7 a0_8 a0_9 a0_10 a0_11 l0_12).bind fun t142 => (some (t142, 0))) else (some ((⟨#[]⟩ : ByteArray), 1)))) = some (r1, r2) := h
  clear h
  replace H := Option.bind_eq_some_iff.mp H
  obtain ⟨t141, A20, H⟩ := H
  replace H : (if t141 = true then ((wherryref12_text.f k a0_0 a0_1 a0_2 a0_3 a0_4 a0_5 a0_6 a0_7 a0_8 a0_9 a0_10 a0_11 l0_12).bind fun t142 => (some (t142, 0))) else (some ((⟨#[]⟩ : ByteArray), 1))) = some (r1, r2) := H
  have A2 := Aside0.mk A20
  clear A20
  by_cases c3 : t141 = true
  · subst c3
    have H1 : ((wherryref12_text.f k a0_0 a0_1 a0_2 a0_3 a0_4 a0_5 a0_6 a0_7 a0_8 a0_9 a0_10 a0_11 l0_12).bind fun t142 => (some (t142, 0))) = some (r1, r2) := by rw [if_pos rfl] at H; exact H
    clear H
    have H := H1
    clear H1
    replace H := Option.bind_eq_some_iff.mp H
    obtain ⟨t142, A40, H⟩ := H
    replace H : (some (t142, 0)) = some (r1, r2) := H
    have A4 := Aside0.mk A40
    clear A40
    simp only [Option.some.injEq, Prod.mk.injEq] at H
    obtain ⟨rfl, rfl⟩ := H
    go_enter Try.func10, Try.ntmps10
    go_wp2_with (first | ((with_reducible refine gate_dst (N := 1) rfl ?_); refine box_event ?hg (N := 1) ?hd (cs := #[.int .i64 a0_0, .int .i64 a0_1, .int .u64 a0_2, .int .i64 a0_3, .int .u64 a0_4, .int .u64 a0_5, .int .u64 a0_6, .int .i64 a0_7, .int .i64 a0_8, .string a0_9, .string a0_10, .string a0_11, .slice A0_12 l0_12.length c0_12]) (t := 25) ?hr ?_; (case hd => rfl); (case hg => rfl); (case hr => first | (go_simp; done) | (go_simp; rfl)); intro gb140 hg w5 hbox hb; have n0_ := Aside0.mk (below_step (by repeat (first | (with_reducible first | exact HB.out | apply below_alloc | apply pw_below_drewN | apply below_drew1) | exact HB.out)) hb); have n1_ := Aside0.mk (hbox); have n2_ := Aside0.mk ((by rw [hg]; exact (below_size (by repeat (first | (with_reducible first | exact HB.out | apply below_alloc | apply pw_below_drewN | apply below_drew1) | exact HB.out))) : w.heap.size ≤ gb140)); have n3_ := Aside0.mk ((by rw [hg]; exact (below_size (by repeat (first | (with_reducible first | exact HB.out | apply below_alloc | apply pw_below_drewN | apply below_drew1) | exact HB.out))) : w.heap.size ≤ gb140)); clear HB; have HB := n0_; have BK140 := n1_; have GW140 := n2_; have GE140 := n3_; clear n0_ n1_ n2_ n3_; clear hb hbox hg; have hcz6_0 : w5.cell? ⟨gb140, 0, none⟩ = some (.int .i64 a0_0) := (blk_cell BK140.out 0).trans rfl; have hcz6_1 : w5.cell? ⟨gb140, 1, none⟩ = some (.int .i64 a0_1) := (blk_cell BK140.out 1).trans rfl; have hcz6_2 : w5.cell? ⟨gb140, 2, none⟩ = some (.int .u64 a0_2) := (blk_cell BK140.out 2).trans rfl; have hcz6_3 : w5.cell? ⟨gb140, 3, none⟩ = some (.int .i64 a0_3) := (blk_cell BK140.out 3).trans rfl; have hcz6_4 : w5.cell? ⟨gb140, 4, none⟩ = some (.int .u64 a0_4) := (blk_cell BK140.out 4).trans rfl; have hcz6_5 : w5.cell? ⟨gb140, 5, none⟩ = some (.int .u64 a0_5) := (blk_cell BK140.out 5).trans rfl; have hcz6_6 : w5.cell? ⟨gb140, 6, none⟩ = some (.int .u64 a0_6) := (blk_cell BK140.out 6).trans rfl; have hcz6_7 : w5.cell? ⟨gb140, 7, none⟩ = some (.int .i64 a0_7) := (blk_cell BK140.out 7).trans rfl; have hcz6_8 : w5.cell? ⟨gb140, 8, none⟩ = some (.int .i64 a0_8) := (blk_cell BK140.out 8).trans rfl; have hcz6_9 : w5.cell? ⟨gb140, 9, none⟩ = some (.string a0_9) := (blk_cell BK140.out 9).trans rfl; have hcz6_10 : w5.cell? ⟨gb140, 10, none⟩ = some (.string a0_10) := (blk_cell BK140.out 10).trans rfl; have hcz6_11 : w5.cell? ⟨gb140, 11, none⟩ = some (.string a0_11) := (blk_cell BK140.out 11).trans rfl; have hcz6_12 : w5.cell? ⟨gb140, 12, none⟩ = some (.slice A0_12 l0_12.length c0_12) := (blk_cell BK140.out 12).trans rfl; have hfz6_0 := blk_frozen BK140.out 0; have hfz6_1 := blk_frozen BK140.out 1; have hfz6_2 := blk_frozen BK140.out 2; have hfz6_3 := blk_frozen BK140.out 3; have hfz6_4 := blk_frozen BK140.out 4; have hfz6_5 := blk_frozen BK140.out 5; have hfz6_6 := blk_frozen BK140.out 6; have hfz6_7 := blk_frozen BK140.out 7; have hfz6_8 := blk_frozen BK140.out 8; have hfz6_9 := blk_frozen BK140.out 9; have hfz6_10 := blk_frozen BK140.out 10; have hfz6_11 := blk_frozen BK140.out 11; have hfz6_12 := blk_frozen BK140.out 12) | ((with_reducible refine gate_callee (f := 12) rfl ?_); refine goesL_ (some 6) rfl rfl Try.func12 (by kernel_rfl) rfl #[.agg #[.int .i64 a0_0, .int .i64 a0_1, .int .u64 a0_2, .int .i64 a0_3, .int .u64 a0_4, .int .u64 a0_5, .int .u64 a0_6, .int .i64 a0_7, .int .i64 a0_8, .string a0_9, .string a0_10, .string a0_11, .slice A0_12 l0_12.length c0_12]] rfl (by (try simp only [List.map_toArray, List.map_cons, List.map_nil]); first | done | rfl | (simp only [List.length_drop, List.length_take]; rfl)) ?_; (with_reducible refine (wherryref12_May.calls k a0_0 a0_1 a0_2 a0_3 a0_4 a0_5 a0_6 a0_7 a0_8 a0_9 a0_10 a0_11 _ _ l0_12 true _ ?side1 ?side2 A2.out).mono ?_); (case side1 => repeat (first | exact (Kd.C_below HR0_12.out HB.out) | (with_reducible refine Kd.C_alloc ?_ _) | (with_reducible refine Kd.C_drewN ?_ _) | (with_reducible refine Kd.C_drew ?_))); (case side2 => exact HC0_12.out); rintro e w7 ⟨rfl, hb⟩; refine ⟨_, rfl, ?_⟩; have n0_ := Aside0.mk (blk_below (g := gb140) (o := .cells #[.int .i64 a0_0, .int .i64 a0_1, .int .u64 a0_2, .int .i64 a0_3, .int .u64 a0_4, .int .u64 a0_5, .int .u64 a0_6, .int .i64 a0_7, .int .i64 a0_8, .string a0_9, .string a0_10, .string a0_11, .slice A0_12 l0_12.length c0_12] 25 (0, 0)) (by (with_reducible repeat (first | refine blk_drewN ?_ _ | refine blk_drew ?_ | refine blk_alloc ?_ _)); exact BK140.out) hb); have n1_ := Aside0.mk (below_step (by repeat (first | (with_reducible first | exact HB.out | apply below_alloc | apply pw_below_drewN | apply below_drew1 | refine below_set ?_ GE140.out) | exact HB.out)) hb); clear BK140; clear HB; have BK140 := n0_; have HB := n1_; clear n0_ n1_; (try clear hb); (try clear hb2); (try clear hk); (try clear hi); have hcz8_0 : w7.cell? ⟨gb140, 0, none⟩ = some (.int .i64 a0_0) := (blk_cell BK140.out 0).trans rfl; have hcz8_1 : w7.cell? ⟨gb140, 1, none⟩ = some (.int .i64 a0_1) := (blk_cell BK140.out 1).trans rfl; have hcz8_2 : w7.cell? ⟨gb140, 2, none⟩ = some (.int .u64 a0_2) := (blk_cell BK140.out 2).trans rfl; have hcz8_3 : w7.cell? ⟨gb140, 3, none⟩ = some (.int .i64 a0_3) := (blk_cell BK140.out 3).trans rfl; have hcz8_4 : w7.cell? ⟨gb140, 4, none⟩ = some (.int .u64 a0_4) := (blk_cell BK140.out 4).trans rfl; have hcz8_5 : w7.cell? ⟨gb140, 5, none⟩ = some (.int .u64 a0_5) := (blk_cell BK140.out 5).trans rfl; have hcz8_6 : w7.cell? ⟨gb140, 6, none⟩ = some (.int .u64 a0_6) := (blk_cell BK140.out 6).trans rfl; have hcz8_7 : w7.cell? ⟨gb140, 7, none⟩ = some (.int .i64 a0_7) := (blk_cell BK140.out 7).trans rfl; have hcz8_8 : w7.cell? ⟨gb140, 8, none⟩ = some (.int .i64 a0_8) := (blk_cell BK140.out 8).trans rfl; have hcz8_9 : w7.cell? ⟨gb140, 9, none⟩ = some (.string a0_9) := (blk_cell BK140.out 9).trans rfl; have hcz8_10 : w7.cell? ⟨gb140, 10, none⟩ = some (.string a0_10) := (blk_cell BK140.out 10).trans rfl; have hcz8_11 : w7.cell? ⟨gb140, 11, none⟩ = some (.string a0_11) := (blk_cell BK140.out 11).trans rfl; have hcz8_12 : w7.cell? ⟨gb140, 12, none⟩ = some (.slice A0_12 l0_12.length c0_12) := (blk_cell BK140.out 12).trans rfl; have hfz8_0 := blk_frozen BK140.out 0; have hfz8_1 := blk_frozen BK140.out 1; have hfz8_2 := blk_frozen BK140.out 2; have hfz8_3 := blk_frozen BK140.out 3; have hfz8_4 := blk_frozen BK140.out 4; have hfz8_5 := blk_frozen BK140.out 5; have hfz8_6 := blk_frozen BK140.out 6; have hfz8_7 := blk_frozen BK140.out 7; have hfz8_8 := blk_frozen BK140.out 8; have hfz8_9 := blk_frozen BK140.out 9; have hfz8_10 := blk_frozen BK140.out 10; have hfz8_11 := blk_frozen BK140.out 11; have hfz8_12 := blk_frozen BK140.out 12) | ((with_reducible refine gate_callee (f := 18) rfl ?_); refine goesL_ (some 10) rfl rfl Try.func18 (by kernel_rfl) rfl #[.agg #[.int .i64 a0_0, .int .i64 a0_1, .int .u64 a0_2, .int .i64 a0_3, .int .u64 a0_4, .int .u64 a0_5, .int .u64 a0_6, .int .i64 a0_7, .int .i64 a0_8, .string a0_9, .string a0_10, .string a0_11, .slice A0_12 l0_12.length c0_12]] rfl (by (try simp only [List.map_toArray, List.map_cons, List.map_nil]); first | done | rfl | (simp only [List.length_drop, List.length_take]; rfl)) ?_; (with_reducible refine (wherryref12_text.calls k a0_0 a0_1 a0_2 a0_3 a0_4 a0_5 a0_6 a0_7 a0_8 a0_9 a0_10 a0_11 _ _ l0_12 t142 _ ?side1 ?side2 A4.out).mono ?_); (case side1 => repeat (first | exact (Kd.C_below HR0_12.out HB.out) | (with_reducible refine Kd.C_alloc ?_ _) | (with_reducible refine Kd.C_drewN ?_ _) | (with_reducible refine Kd.C_drew ?_))); (case side2 => exact HC0_12.out); rintro e w9 ⟨rfl, hb⟩; refine ⟨_, rfl, ?_⟩; have n0_ := Aside0.mk (blk_below (g := gb140) (o := .cells #[.int .i64 a0_0, .int .i64 a0_1, .int .u64 a0_2, .int .i64 a0_3, .int .u64 a0_4, .int .u64 a0_5, .int .u64 a0_6, .int .i64 a0_7, .int .i64 a0_8, .string a0_9, .string a0_10, .string a0_11, .slice A0_12 l0_12.length c0_12] 25 (0, 0)) (by (with_reducible repeat (first | refine blk_drewN ?_ _ | refine blk_drew ?_ | refine blk_alloc ?_ _)); exact BK140.out) hb); have n1_ := Aside0.mk (below_step (by repeat (first | (with_reducible first | exact HB.out | apply below_alloc | apply pw_below_drewN | apply below_drew1 | refine below_set ?_ GE140.out) | exact HB.out)) hb); clear BK140; clear HB; have BK140 := n0_; have HB := n1_; clear n0_ n1_; (try clear hb); (try clear hb2); (try clear hk); (try clear hi)))
    go_ret2
    exact ⟨by first | rfl | (simp [errW_none, errW_some] <;> rfl) | (simp [*, errW_none, errW_some] <;> rfl), by repeat (first | (with_reducible first | exact HB.out | apply below_alloc | apply pw_below_drewN | apply below_drew1 | refine below_set ?_ GE140.out) | exact HB.out)⟩
  · replace c3 := Bool.eq_false_iff.mpr c3
    subst c3
    have H1 : (some ((⟨#[]⟩ : ByteArray), 1)) = some (r1, r2) := by rw [if_neg (show ¬ (false = true) by decide)] at H; exact H
    clear H
    have H := H1
    clear H1
    simp only [Option.some.injEq, Prod.mk.injEq] at H
    obtain ⟨rfl, rfl⟩ := H
    go_enter Try.func10, Try.ntmps10
    go_wp2_with (first | ((with_reducible refine gate_dst (N := 1) rfl ?_); refine box_event ?hg (N := 1) ?hd (cs := #[.int .i64 a0_0, .int .i64 a0_1, .int .u64 a0_2, .int .i64 a0_3, .int .u64 a0_4, .int .u64 a0_5, .int .u64 a0_6, .int .i64 a0_7, .int .i64 a0_8, .string a0_9, .string a0_10, .string a0_11, .slice A0_12 l0_12.length c0_12]) (t := 25) ?hr ?_; (case hd => rfl); (case hg => rfl); (case hr => first | (go_simp; done) | (go_simp; rfl)); intro gb140 hg w10 hbox hb; have n0_ := Aside0.mk (below_step (by repeat (first | (with_reducible first | exact HB.out | apply below_alloc | apply pw_below_drewN | apply below_drew1) | exact HB.out)) hb); have n1_ := Aside0.mk (hbox); have n2_ := Aside0.mk ((by rw [hg]; exact (below_size (by repeat (first | (with_reducible first | exact HB.out | apply below_alloc | apply pw_below_drewN | apply below_drew1) | exact HB.out))) : w.heap.size ≤ gb140)); have n3_ := Aside0.mk ((by rw [hg]; exact (below_size (by repeat (first | (with_reducible first | exact HB.out | apply below_alloc | apply pw_below_drewN | apply below_drew1) | exact HB.out))) : w.heap.size ≤ gb140)); clear HB; have HB := n0_; have BK140 := n1_; have GW140 := n2_; have GE140 := n3_; clear n0_ n1_ n2_ n3_; clear hb hbox hg; have hcz11_0 : w10.cell? ⟨gb140, 0, none⟩ = some (.int .i64 a0_0) := (blk_cell BK140.out 0).trans rfl; have hcz11_1 : w10.cell? ⟨gb140, 1, none⟩ = some (.int .i64 a0_1) := (blk_cell BK140.out 1).trans rfl; have hcz11_2 : w10.cell? ⟨gb140, 2, none⟩ = some (.int .u64 a0_2) := (blk_cell BK140.out 2).trans rfl; have hcz11_3 : w10.cell? ⟨gb140, 3, none⟩ = some (.int .i64 a0_3) := (blk_cell BK140.out 3).trans rfl; have hcz11_4 : w10.cell? ⟨gb140, 4, none⟩ = some (.int .u64 a0_4) := (blk_cell BK140.out 4).trans rfl; have hcz11_5 : w10.cell? ⟨gb140, 5, none⟩ = some (.int .u64 a0_5) := (blk_cell BK140.out 5).trans rfl; have hcz11_6 : w10.cell? ⟨gb140, 6, none⟩ = some (.int .u64 a0_6) := (blk_cell BK140.out 6).trans rfl; have hcz11_7 : w10.cell? ⟨gb140, 7, none⟩ = some (.int .i64 a0_7) := (blk_cell BK140.out 7).trans rfl; have hcz11_8 : w10.cell? ⟨gb140, 8, none⟩ = some (.int .i64 a0_8) := (blk_cell BK140.out 8).trans rfl; have hcz11_9 : w10.cell? ⟨gb140, 9, none⟩ = some (.string a0_9) := (blk_cell BK140.out 9).trans rfl; have hcz11_10 : w10.cell? ⟨gb140, 10, none⟩ = some (.string a0_10) := (blk_cell BK140.out 10).trans rfl; have hcz11_11 : w10.cell? ⟨gb140, 11, none⟩ = some (.string a0_11) := (blk_cell BK140.out 11).trans rfl; have hcz11_12 : w10.cell? ⟨gb140, 12, none⟩ = some (.slice A0_12 l0_12.length c0_12) := (blk_cell BK140.out 12).trans rfl; have hfz11_0 := blk_frozen BK140.out 0; have hfz11_1 := blk_frozen BK140.out 1; have hfz11_2 := blk_frozen BK140.out 2; have hfz11_3 := blk_frozen BK140.out 3; have hfz11_4 := blk_frozen BK140.out 4; have hfz11_5 := blk_frozen BK140.out 5; have hfz11_6 := blk_frozen BK140.out 6; have hfz11_7 := blk_frozen BK140.out 7; have hfz11_8 := blk_frozen BK140.out 8; have hfz11_9 := blk_frozen BK140.out 9; have hfz11_10 := blk_frozen BK140.out 10; have hfz11_11 := blk_frozen BK140.out 11; have hfz11_12 := blk_frozen BK140.out 12) | ((with_reducible refine gate_callee (f := 12) rfl ?_); refine goesL_ (some 6) rfl rfl Try.func12 (by kernel_rfl) rfl #[.agg #[.int .i64 a0_0, .int .i64 a0_1, .int .u64 a0_2, .int .i64 a0_3, .int .u64 a0_4, .int .u64 a0_5, .int .u64 a0_6, .int .i64 a0_7, .int .i64 a0_8, .string a0_9, .string a0_10, .string a0_11, .slice A0_12 l0_12.length c0_12]] rfl (by (try simp only [List.map_toArray, List.map_cons, List.map_nil]); first | done | rfl | (simp only [List.length_drop, List.length_take]; rfl)) ?_; (with_reducible refine (wherryref12_May.calls k a0_0 a0_1 a0_2 a0_3 a0_4 a0_5 a0_6 a0_7 a0_8 a0_9 a0_10 a0_11 _ _ l0_12 false _ ?side1 ?side2 A2.out).mono ?_); (case side1 => repeat (first | exact (Kd.C_below HR0_12.out HB.out) | (with_reducible refine Kd.C_alloc ?_ _) | (with_reducible refine Kd.C_drewN ?_ _) | (with_reducible refine Kd.C_drew ?_))); (case side2 => exact HC0_12.out); rintro e w12 ⟨rfl, hb⟩; refine ⟨_, rfl, ?_⟩; have n0_ := Aside0.mk (blk_below (g := gb140) (o := .cells #[.int .i64 a0_0, .int .i64 a0_1, .int .u64 a0_2, .int .i64 a0_3, .int .u64 a0_4, .int .u64 a0_5, .int .u64 a0_6, .int .i64 a0_7, .int .i64 a0_8, .string a0_9, .string a0_10, .string a0_11, .slice A0_12 l0_12.length c0_12] 25 (0, 0)) (by (with_reducible repeat (first | refine blk_drewN ?_ _ | refine blk_drew ?_ | refine blk_alloc ?_ _)); exact BK140.out) hb); have n1_ := Aside0.mk (below_step (by repeat (first | (with_reducible first | exact HB.out | apply below_alloc | apply pw_below_drewN | apply below_drew1 | refine below_set ?_ GE140.out) | exact HB.out)) hb); clear BK140; clear HB; have BK140 := n0_; have HB := n1_; clear n0_ n1_; (try clear hb); (try clear hb2); (try clear hk); (try clear hi)))
    go_ret2
    exact ⟨by first | rfl | (simp [errW_none, errW_some] <;> rfl) | (simp [*, errW_none, errW_some] <;> rfl), by repeat (first | (with_reducible first | exact HB.out | apply below_alloc | apply pw_below_drewN | apply below_drew1 | refine below_set ?_ GE140.out) | exact HB.out)⟩
def wherryref09_Same.l0 : Nat → List (S52) → List (S52) → Int → Option (Bool)
  | 0, _, _, _ => none
  | k + 1, x0, x1, x5 => if x5 < (x0.length : Int) then (if 0 ≤ x5 then (if x5 < (x1.length : Int) then (if (!((((rd_T52 x0 x5).f0).toList) == (((rd_T52 x1 x5).f0).toList)) || ((!(((rd_T52 x0 x5).f1.f0) == ((rd_T52 x1 x5).f1.f0)) || (!(((rd_T52 x0 x5).f1.f1) == ((rd_T52 x1 x5).f1.f1)) || (!((((rd_T52 x0 x5).f1.f2).toList) == (((rd_T52 x1 x5).f1.f2).toList))))))) = true then (some false) else (wherryref09_Same.l0 k x0 x1 (wrap64 (x5 + 1)))) else (none)) else (none)) else (some true)
def wherryref09_Same.f (k : Nat) (l0 : List (S52)) (l1 : List (S52)) : Option (Bool) := if (l0.length : Int) = (l1.length : Int) then (wherryref09_Same.l0 k l0 l1 0) else (some false)
theorem wherryref09_Same.mono_l : ∀ k, (∀ y0 y1 y2, LeO (wherryref09_Same.l0 k y0 y1 y2) (wherryref09_Same.l0 (k + 1) y0 y1 y2))
  | 0 => fun _ _ _ r h => by simp [wherryref09_Same.l0] at h
  | k + 1 => by
    have ih0 := wherryref09_Same.mono_l k
    · intro y0 y1 y2
      unfold wherryref09_Same.l0
      repeat' first
      | (with_reducible exact ih0 _ _ _)
      | (with_reducible exact LeO.refl _)
      | (with_reducible exact LeO.none _)
      | (with_reducible refine LeO.ite ?_ ?_)
      | (with_reducible refine LeO.bind ?_ (fun _ => ?_))
      | exact ih0 _ _ _
      | exact LeO.none _
      | refine LeO.ite ?_ ?_
      | refine LeO.bind ?_ (fun _ => ?_)
theorem wherryref09_Same.mono : ∀ a0 a1 k, LeO (wherryref09_Same.f k a0 a1) (wherryref09_Same.f (k + 1) a0 a1) := by
  intro a0 a1 k
  have ih0 := wherryref09_Same.mono_l k
  unfold wherryref09_Same.f
  repeat' first
      | (with_reducible exact ih0 _ _ _)
      | (with_reducible exact LeO.refl _)
      | (with_reducible exact LeO.none _)
      | (with_reducible refine LeO.ite ?_ ?_)
      | (with_reducible refine LeO.bind ?_ (fun _ => ?_))
      | exact ih0 _ _ _
      | exact LeO.none _
      | refine LeO.ite ?_ ?_
      | refine LeO.bind ?_ (fun _ => ?_)
set_option maxHeartbeats 8000000 in
set_option maxRecDepth 100000 in
theorem wherryref09_Same.calls (k : Nat) (A0 : Option Addr) (c0 : Nat) (l0 : List (S52)) (A1 : Option Addr) (c1 : Nat) (l1 : List (S52)) (r : Bool) (w : World) (hr0 : Kd.C k52 w A0 l0.length l0) (hc0 : l0.length ≤ c0) (hr1 : Kd.C k52 w A1 l1.length l1) (hc1 : l1.length ≤ c1) (h : wherryref09_Same.f k l0 l1 = some r) :
    Calls Try.prog 24 #[.slice A0 l0.length c0, .slice A1 l1.length c1] w fun e w' => e = .returned (.bool r) ∧ Drawn0 w w' := by
  have hu52 := Try.underlying52
  have HR0 := Aside0.mk hr0
  have HC0 := Aside0.mk hc0
  clear hr0 hc0
  have HR1 := Aside0.mk hr1
  have HC1 := Aside0.mk hc1
  clear hr1 hc1
  have H : (if (l0.length : Int) = (l1.length : Int) then (wherryref09_Same.l0 k l0 l1 0) else (some false)) = some r := h
  clear h
  by_cases c3 : (l0.length : Int) = (l1.length : Int)
  · rw [if_pos c3] at H
    have c3b0 : ((l0.length : Int) == (l1.length : Int)) = true := beq_iff_eq.mpr c3
    have c3b1 : ((l0.length : Int) != (l1.length : Int)) = false := bne_eq_false_iff_eq.mpr c3
    have c3b2 : (l0.length == l1.length) = true := by first | simpa using c3 | (simp at c3 ⊢; omega)
    clear c3
    have H' := Aside0.mk H
    clear H
    go_enter Try.func24, Try.ntmps24
    go_wp2
    repeat (go_quiet (fail); try go_wp2)
    go_loopg [5] k (fun kq v5 w' => ∃ (x5_1 : Int), v5 = .int .i64 x5_1 ∧ Aside0 (wherryref09_Same.l0 kq l0 l1 x5_1 = some r) ∧ Aside0 (kq ≤ k) ∧ Drawn0 w w')
    case atStart => exact ⟨(0), (by first | rfl | (simp; done) | (simp [*]; done)), H', ⟨Nat.le_refl _⟩, by repeat (first | exact Drawn0.refl _ | apply Drawn0.step)⟩
    case round =>
      clear H'
      try clear c1
      try clear c2
      try clear p2
      try clear c3
      try clear c3b0
      try clear c3b1
      try clear c3b2
      obtain ⟨x5_1, rfl, HA, HK1, ⟨m1, rfl⟩⟩ := hrel
      cases gk with
      | zero => exact absurd HA.out (by simp [wherryref09_Same.l0])
      | succ k1 =>
        have H := HA.out
        clear HA
        simp only [wherryref09_Same.l0] at H
        by_cases c4 : x5_1 < (l0.length : Int)
        · rw [if_pos c4] at H
          have c4b0 : decide (x5_1 < (l0.length : Int)) = true := decide_eq_true c4
          clear c4
          by_cases c5 : 0 ≤ x5_1
          · rw [if_pos c5] at H
            have c5b0 : decide (0 ≤ x5_1) = true := decide_eq_true c5
            clear c5
            by_cases c6 : x5_1 < (l1.length : Int)
            · rw [if_pos c6] at H
              have c6b0 : decide (x5_1 < (l1.length : Int)) = true := decide_eq_true c6
              clear c6
              by_cases c7 : (!((((rd_T52 l0 x5_1).f0).toList) == (((rd_T52 l1 x5_1).f0).toList)) || ((!(((rd_T52 l0 x5_1).f1.f0) == ((rd_T52 l1 x5_1).f1.f0)) || (!(((rd_T52 l0 x5_1).f1.f1) == ((rd_T52 l1 x5_1).f1.f1)) || (!((((rd_T52 l0 x5_1).f1.f2).toList) == (((rd_T52 l1 x5_1).f1.f2).toList))))))) = true
              · rw [if_pos c7] at H
                have c7b0 : (!((((rd_T52 l0 x5_1).f0).toList) == (((rd_T52 l1 x5_1).f0).toList)) || ((!(((rd_T52 l0 x5_1).f1.f0) == ((rd_T52 l1 x5_1).f1.f0)) || (!(((rd_T52 l0 x5_1).f1.f1) == ((rd_T52 l1 x5_1).f1.f1)) || (!((((rd_T52 l0 x5_1).f1.f2).toList) == (((rd_T52 l1 x5_1).f1.f2).toList))))))) = true := c7
                clear c7
                obtain rfl := Option.some.inj H
                have p143 : 0 ≤ (x5_1 : Int) := of_decide_eq_true (by first | (with_reducible assumption) | assumption)
                have q143 : x5_1 < (l0.length : Int) := of_decide_eq_true (by first | (with_reducible assumption) | assumption)
                obtain ⟨ad143, e143, hx143_0, hx143_1, hx143_2, hx143_3⟩ := at_T52 HR0.out x5_1 p143 q143
                cases e143
                replace p143 := eq_true p143
                replace q143 := eq_true q143
                have p144 : 0 ≤ (x5_1 : Int) := of_decide_eq_true (by first | (with_reducible assumption) | assumption)
                have q144 : x5_1 < (l1.length : Int) := of_decide_eq_true (by first | (with_reducible assumption) | assumption)
                obtain ⟨ad144, e144, hx144_0, hx144_1, hx144_2, hx144_3⟩ := at_T52 HR1.out x5_1 p144 q144
                cases e144
                replace p144 := eq_true p144
                replace q144 := eq_true q144
                go_wp2
                repeat (go_quiet (fail); try go_wp2)
                go_ret
                exact ⟨by first | rfl | (simp; done) | (simp [*]; done), by repeat (first | exact Drawn0.refl _ | apply Drawn0.step)⟩
              · rw [if_neg c7] at H
                have c7b0 : (!((((rd_T52 l0 x5_1).f0).toList) == (((rd_T52 l1 x5_1).f0).toList)) || ((!(((rd_T52 l0 x5_1).f1.f0) == ((rd_T52 l1 x5_1).f1.f0)) || (!(((rd_T52 l0 x5_1).f1.f1) == ((rd_T52 l1 x5_1).f1.f1)) || (!((((rd_T52 l0 x5_1).f1.f2).toList) == (((rd_T52 l1 x5_1).f1.f2).toList))))))) = false := by simpa using c7
                clear c7
                have H' := Aside0.mk H
                clear H
                have p143 : 0 ≤ (x5_1 : Int) := of_decide_eq_true (by first | (with_reducible assumption) | assumption)
                have q143 : x5_1 < (l0.length : Int) := of_decide_eq_true (by first | (with_reducible assumption) | assumption)
                obtain ⟨ad143, e143, hx143_0, hx143_1, hx143_2, hx143_3⟩ := at_T52 HR0.out x5_1 p143 q143
                cases e143
                replace p143 := eq_true p143
                replace q143 := eq_true q143
                have p144 : 0 ≤ (x5_1 : Int) := of_decide_eq_true (by first | (with_reducible assumption) | assumption)
                have q144 : x5_1 < (l1.length : Int) := of_decide_eq_true (by first | (with_reducible assumption) | assumption)
                obtain ⟨ad144, e144, hx144_0, hx144_1, hx144_2, hx144_3⟩ := at_T52 HR1.out x5_1 p144 q144
                cases e144
                replace p144 := eq_true p144
                replace q144 := eq_true q144
                go_wp2
                repeat (go_quiet (fail); try go_wp2)
                go_roundg k1
                case measure => have := HK1.out; omega
                case rel => exact ⟨(wrap64 (x5_1 + 1)), (by first | rfl | (simp; done) | (simp [*]; done)), H', ⟨by have := HK1.out; omega⟩, by repeat (first | exact Drawn0.refl _ | apply Drawn0.step)⟩
            · rw [if_neg c6] at H
              exact absurd H (by simp)
          · rw [if_neg c5] at H
            exact absurd H (by simp)
        · rw [if_neg c4] at H
          have c4b0 : decide (x5_1 < (l0.length : Int)) = false := decide_eq_false c4
          clear c4
          obtain rfl := Option.some.inj H
          go_wp2
          repeat (go_quiet (fail); try go_wp2)
          go_ret
          exact ⟨by first | rfl | (simp; done) | (simp [*]; done), by repeat (first | exact Drawn0.refl _ | apply Drawn0.step)⟩
  · rw [if_neg c3] at H
    have c3b0 : ((l0.length : Int) == (l1.length : Int)) = false := beq_eq_false_iff_ne.mpr c3
    have c3b1 : ((l0.length : Int) != (l1.length : Int)) = true := bne_iff_ne.mpr c3
    have c3b2 : (l0.length == l1.length) = false := by first | simpa using c3 | (simp at c3 ⊢; omega)
    obtain rfl := Option.some.inj H
    go_enter Try.func24, Try.ntmps24
    go_wp2
    repeat (go_quiet (fail); try go_wp2)
    go_ret
    exact ⟨by first | rfl | (simp; done) | (simp [*]; done), by repeat (first | exact Drawn0.refl _ | apply Drawn0.step)⟩
end Go.Proofs.Ytcfdbdmefdffdaa.GA
/-
  Chapter 9: what the references print, as plain functions: right, same, get.
-/
set_option linter.unusedVariables false
set_option linter.unusedSimpArgs false
namespace Go.Proofs.Ytcfdbdmefdffdaa.GA
open Go.RowKit Go.Proofs.YtcfdbdmefdffdaaW.PrintWords Go.Proofs.YtcfdbdmefdffdaaW.PrintLast Go.Proofs.YtcfdbdmefdffdaaW.PrintMore
theorem rdT {l : List (S52)} {i : Nat} (h : i < l.length) : rd_T52 l (i : Int) = l[i] := by
  unfold rd_T52
  rw [Int.toNat_natCast, List.getD_eq_getElem?_getD, List.getElem?_eq_getElem h]; rfl
def prevN (l : List (S52)) (i : Nat) : Option ByteArray := if i = 0 then none else (l[i - 1]?).map fun x => x.f0
theorem right_l0 (l : List (S52)) (hw : ∀ x ∈ l, x.f0.size ≤ 9223372036854775807) (hl : l.length ≤ 9223372036854775807) : ∀ (d k i : Nat), l.length - i = d → i ≤ l.length → 100 + 2 * d ≤ k → (∀ x, 0 < i → l[i - 1]? = some x → x.f0.size ≤ 32) →
    wherryref09_Right.l0 k l (i : Int) = some (Base.rightFrom (prevN l i) ((l.map toVar).drop i)) := by
  intro d
  induction d with
  | zero =>
    intro k i hd h1 hk _
    obtain ⟨k, rfl⟩ : ∃ m, k = m + 1 := ⟨k - 1, by omega⟩
    simp only [wherryref09_Right.l0]
    rw [if_neg (by omega), List.drop_eq_nil_of_le (by simp; omega)]
    unfold Base.rightFrom; rfl
  | succ d ih =>
    intro k i hd h1 hk hp
    obtain ⟨k, rfl⟩ : ∃ m, k = m + 1 + 1 := ⟨k - 2, by omega⟩
    have hi : i < l.length := by omega
    have hx := hw l[i] (List.getElem_mem hi)
    have hdr : (l.map toVar).drop i = toVar l[i] :: (l.map toVar).drop (i + 1) := by
      rw [List.drop_eq_getElem_cons (by simpa using hi)]; simp
    simp only [wherryref09_Right.l0]
    rw [if_pos (by omega), if_pos (by omega), rdT hi, named_k hx (by omega), may_f, hdr]
    simp only [Option.bind_some]
    have hm : Base.mayV l[i].f1.f0 l[i].f1.f1 l[i].f1.f2 = (toVar l[i]).v.may := rfl
    have hn : Base.named l[i].f0 = Base.named (toVar l[i]).name := rfl
    unfold Base.rightFrom
    rw [hm, hn]
    cases hN : Base.named (toVar l[i]).name with
    | false =>
      simp only [wherryref09_Right.j1, Bool.false_eq_true, if_false]
      rw [if_pos trivial]; rfl
    | true =>
      cases hM : (toVar l[i]).v.may with
      | false =>
        simp only [wherryref09_Right.j1, if_true, Bool.not_false]
        rfl
      | true =>
        have h32 : l[i].f0.size ≤ 32 := (Base.named_size hN).1
        have hgo := ih k (i + 1) (by omega) (by omega) (by omega) (fun x _ hx => by
          rw [Nat.add_sub_cancel, List.getElem?_eq_getElem hi] at hx
          rw [← Option.some.inj hx]; exact h32)
        have hpn : prevN l (i + 1) = some (toVar l[i]).name := by
          unfold prevN; rw [if_neg (by omega), Nat.add_sub_cancel, List.getElem?_eq_getElem hi]; rfl
        rw [hpn] at hgo
        simp only [wherryref09_Right.j1, if_true, Bool.not_true, Bool.false_eq_true, if_false]
        rw [wrap_nat hi hl, hgo]
        by_cases h0 : i = 0
        · rw [if_neg (by omega)]
          unfold prevN; rw [if_pos h0]; simp
        · have h1' : i - 1 < l.length := by omega
          have hw1 : wrap64 ((i : Int) - 1) = ((i - 1 : Nat) : Int) := by unfold wrap64; omega
          rw [if_pos (by omega), hw1, if_pos (by omega), if_pos (by omega), if_pos (by omega), if_pos (by omega), rdT h1', rdT hi]
          have hps := hp l[i - 1] (by omega) (List.getElem?_eq_getElem h1')
          rw [less_k hps (by omega)]
          unfold prevN
          rw [if_neg h0, List.getElem?_eq_getElem h1']
          simp only [Option.bind_some, Option.map_some]
          cases hL : Base.lessS l[i - 1].f0 l[i].f0 with
          | true =>
            have : Base.lessS l[i - 1].f0 (toVar l[i]).name = true := hL
            simp [this]
          | false =>
            have : Base.lessS l[i - 1].f0 (toVar l[i]).name = false := hL
            simp [this]
theorem right_k {l : List (S52)} (hw : ∀ x ∈ l, x.f0.size ≤ 9223372036854775807) {k : Nat} (hk : 200 ≤ k) : wherryref09_Right.f k l = some (Base.rightV (l.map toVar)) := by
  unfold wherryref09_Right.f Base.rightV
  by_cases h16 : l.length ≤ 16
  · rw [if_neg (by omega)]
    have h := right_l0 l hw (by omega) l.length k 0 (by omega) (by omega) (by omega) (fun x h => absurd h (by omega))
    have h' : wherryref09_Right.l0 k l 0 = some (Base.rightFrom none (l.map toVar)) := by simpa [prevN] using h
    rw [h']; simp [h16]
  · rw [if_pos (by omega)]; simp [h16]
noncomputable instance : DecidableEq Base.GVar := fun _ _ => Classical.propDecidable _
theorem same_l0 (a b : List (S52)) (hl : a.length = b.length) (hb : a.length ≤ 9223372036854775807) : ∀ (d k i : Nat), a.length - i = d → i ≤ a.length → d + 1 ≤ k → wherryref09_Same.l0 k a b (i : Int) = some (decide ((a.map toVar).drop i = (b.map toVar).drop i)) := by
  intro d
  induction d with
  | zero =>
    intro k i hd h1 hk
    obtain ⟨k, rfl⟩ : ∃ m, k = m + 1 := ⟨k - 1, by omega⟩
    simp only [wherryref09_Same.l0]
    rw [if_neg (by omega), List.drop_eq_nil_of_le (by simp; omega), List.drop_eq_nil_of_le (by simp; omega)]
    simp
  | succ d ih =>
    intro k i hd h1 hk
    obtain ⟨k, rfl⟩ : ∃ m, k = m + 1 := ⟨k - 1, by omega⟩
    have hi : i < a.length := by omega
    have hi' : i < b.length := by omega
    simp only [wherryref09_Same.l0]
    rw [if_pos (by omega), if_pos (by omega), if_pos (by omega), rdT hi, rdT hi', wrap_nat hi hb, ih k (i + 1) (by omega) (by omega) (by omega)]
    have e1 : (a.map toVar).drop i = toVar a[i] :: (a.map toVar).drop (i + 1) := by rw [List.drop_eq_getElem_cons (by simpa using hi)]; simp
    have e2 : (b.map toVar).drop i = toVar b[i] :: (b.map toVar).drop (i + 1) := by rw [List.drop_eq_getElem_cons (by simpa using hi')]; simp
    rw [e1, e2]
    generalize a[i] = x
    generalize b[i] = y
    have heq : (toVar x = toVar y) ↔ (x.f0.toList = y.f0.toList ∧ x.f1.f0 = y.f1.f0 ∧ x.f1.f1 = y.f1.f1 ∧ x.f1.f2.toList = y.f1.f2.toList) := by
      constructor
      · intro h
        have h1 := congrArg Base.GVar.name h
        have h2 := congrArg (fun z => z.v.k) h
        have h3 := congrArg (fun z => z.v.n) h
        have h4 := congrArg (fun z => z.v.s) h
        exact ⟨congrArg ByteArray.toList h1, h2, h3, congrArg ByteArray.toList h4⟩
      · rintro ⟨h1, h2, h3, h4⟩
        rw [Base.toList_toL, Base.toList_toL] at h1 h4
        exact Base.GVar.ext (Base.toL_inj h1) (Base.GVal.ext h2 h3 (Base.toL_inj h4))
    by_cases hh : toVar x = toVar y
    · obtain ⟨h1, h2, h3, h4⟩ := heq.1 hh
      rw [if_neg (by simp [h1, h2, h3, h4])]
      simp [hh]
    · have hn : ¬ (x.f0.toList = y.f0.toList ∧ x.f1.f0 = y.f1.f0 ∧ x.f1.f1 = y.f1.f1 ∧ x.f1.f2.toList = y.f1.f2.toList) := fun h => hh (heq.2 h)
      rw [if_pos (by
        by_cases h1 : x.f0.toList = y.f0.toList <;> by_cases h2 : x.f1.f0 = y.f1.f0 <;> by_cases h3 : x.f1.f1 = y.f1.f1 <;> by_cases h4 : x.f1.f2.toList = y.f1.f2.toList <;> simp_all)]
      simp [hh]
theorem same_k {a b : List (S52)} (hb : a.length ≤ 9223372036854775807) {k : Nat} (hk : a.length + 1 ≤ k) : wherryref09_Same.f k a b = some (decide (a.map toVar = b.map toVar)) := by
  unfold wherryref09_Same.f
  by_cases hl : a.length = b.length
  · rw [if_pos (by omega)]
    have h := same_l0 a b hl hb a.length k 0 (by omega) (by omega) (by omega)
    simpa using h
  · rw [if_neg (by omega)]
    have : ¬ a.map toVar = b.map toVar := fun h => hl (by have := congrArg List.length h; simpa using this)
    simp [this]
end Go.Proofs.Ytcfdbdmefdffdaa.GA
/-
  Chapter 9: what the references print, as plain functions: bytes of values and variables.
-/
set_option linter.unusedVariables false
set_option linter.unusedSimpArgs false
namespace Go.Proofs.Ytcfdbdmefdffdaa.GA
open Go.RowKit Go.Proofs.YtcfdbdmefdffdaaW.PrintWords Go.Proofs.YtcfdbdmefdffdaaW.PrintLast Go.Proofs.YtcfdbdmefdffdaaW.PrintMore
open Go.Proofs.Base (toL ofL ofN toL_inj toL_append ofN_size app_size)
theorem str1 {x : Int} {n : Nat} (h : x % 256 = (n : Int)) : strOfNums [x % 256] = ofN [n] := by
  rw [h]
  rfl
theorem bytes_f {k n : Int} {s : ByteArray} (hn : Base.i64 n) (hs : Base.okS s) : wherryref09_Bytes.f k n s = some (Base.valB k n s) := by
  unfold wherryref09_Bytes.f Base.valB
  rw [may_f]
  simp only [Option.bind_some]
  cases hm : Base.mayV k n s with
  | false => rw [if_neg Bool.false_ne_true, if_neg Bool.false_ne_true]; rfl
  | true =>
    obtain ⟨hk, h1024⟩ := Base.mayV_k hm
    rw [if_pos rfl, if_pos rfl]
    by_cases h3 : k = 3
    · subst h3
      have hsz := Base.textB_size (s := s) hs
      unfold wherryref01_Text.f
      rw [if_pos rfl, if_pos (show s.size ≤ 140737488351232 from hs)]
      simp only [Option.bind_some]
      rw [if_pos (by omega), if_pos trivial]
      rfl
    · have hsz := Base.intB_size hn.1 hn.2
      unfold wherryref01_Int.f
      rw [if_neg h3, if_neg h3, if_pos (show -9223372036854775808 ≤ n ∧ n ≤ 9223372036854775807 from hn)]
      simp only [Option.bind_some]
      rw [str1 (n := k.toNat) (by omega), if_pos (by rw [ofN_size]; simp; omega)]
theorem vars_l0 (l : List (S52)) (hw : wfL l) (hm : ∀ x ∈ l, Base.named x.f0 = true ∧ (toVar x).v.may = true) (h16 : l.length ≤ 16) : ∀ (d k i : Nat) (acc : ByteArray), l.length - i = d → i ≤ l.length → d + 1 ≤ k → acc.size + 2000 * d ≤ 1000000 →
    wherryref09_VarsBytes.l0 k l acc (i : Int) = some (acc ++ Base.varsCat ((l.map toVar).drop i)) := by
  intro d
  induction d with
  | zero =>
    intro k i acc hd h1 hk hsz
    obtain ⟨k, rfl⟩ : ∃ m, k = m + 1 := ⟨k - 1, by omega⟩
    simp only [wherryref09_VarsBytes.l0]
    rw [if_neg (by omega), List.drop_eq_nil_of_le (by simp; omega)]
    exact congrArg some (Base.app_empty _).symm
  | succ d ih =>
    intro k i acc hd h1 hk hsz
    obtain ⟨k, rfl⟩ : ∃ m, k = m + 1 := ⟨k - 1, by omega⟩
    have hi : i < l.length := by omega
    obtain ⟨w1, w2, w3, w4⟩ := hw l[i] (List.getElem_mem hi)
    obtain ⟨m1, m2⟩ := hm l[i] (List.getElem_mem hi)
    have hdr : (l.map toVar).drop i = toVar l[i] :: (l.map toVar).drop (i + 1) := by
      rw [List.drop_eq_getElem_cons (by simpa using hi)]; simp
    have ht := Base.textB_size (s := l[i].f0) w1
    have h32 := (Base.named_size m1).1
    have hv := Base.valB_size (k := l[i].f1.f0) (n := l[i].f1.f1) (s := l[i].f1.f2) w3 m2
    simp only [wherryref09_VarsBytes.l0]
    rw [if_pos (by omega), if_pos (by omega), rdT hi]
    unfold wherryref01_Text.f
    rw [if_pos (show l[i].f0.size ≤ 140737488351232 from w1)]
    simp only [Option.bind_some]
    rw [if_pos (by omega), bytes_f (k := l[i].f1.f0) (n := l[i].f1.f1) (s := l[i].f1.f2) w3 w4]
    simp only [Option.bind_some]
    rw [if_pos (by rw [app_size]; omega), wrap_nat hi (by omega), ih k (i + 1) _ (by omega) (by omega) (by omega) (by rw [app_size, app_size]; omega), hdr]
    show some _ = some (acc ++ ((Base.textB l[i].f0 ++ Base.valB l[i].f1.f0 l[i].f1.f1 l[i].f1.f2) ++ Base.varsCat _))
    rw [Base.app_assoc, Base.app_assoc, Base.app_assoc]
theorem vars_k {l : List (S52)} (hw : wfL l) {k : Nat} (hk : 200 ≤ k) : wherryref09_VarsBytes.f k l = some (Base.varsB (l.map toVar)) := by
  unfold wherryref09_VarsBytes.f Base.varsB
  rw [right_k (fun x hx => by have := (hw x hx).1; unfold Base.okS at this; show x.f0.size ≤ _; exact Nat.le_trans this (by omega)) hk]
  simp only [Option.bind_some]
  cases hr : Base.rightV (l.map toVar) with
  | false => rw [if_neg Bool.false_ne_true, if_neg Bool.false_ne_true]; rfl
  | true =>
    obtain ⟨h16, hall⟩ := Base.rightV_all hr
    rw [List.length_map] at h16
    rw [if_pos rfl, if_pos rfl]
    have hwr : IntKind.u64.wrap (l.length : Int) = (l.length : Int) := by
      have : IntKind.u64.wrap (l.length : Int) = (l.length : Int) % 18446744073709551616 := by simp [IntKind.wrap, IntKind.bits, IntKind.signed]
      omega
    have hu := Base.uintB_size (v := l.length) (by omega)
    unfold wherryref01_Uint.f
    rw [hwr, if_pos (by omega)]
    simp only [Option.bind_some]
    have h := vars_l0 l hw (fun x hx => hall (toVar x) (List.mem_map_of_mem hx)) h16 l.length k 0 (Base.uintB l.length) (by omega) (by omega) (by omega) (by omega)
    rw [Int.toNat_natCast]
    rw [List.length_map]
    simpa using h
end Go.Proofs.Ytcfdbdmefdffdaa.GA
/-
  Chapter 12: what the reference prints, as plain functions: text, may, bytes.
-/
set_option linter.unusedVariables false
set_option linter.unusedSimpArgs false
namespace Go.Proofs.Ytcfdbdmefdffdaa.GA
open Go Go.RowKit Go.Proofs.YtcfdbdmefdffdaaW.PrintWords Go.Proofs.YtcfdbdmefdffdaaW.PrintLast Go.Proofs.YtcfdbdmefdffdaaW.PrintMore
open Go.Proofs.Base (GRec recText recMay recMayP recB aMost bMost kindsM rightV ofN ofN_size app_size toL_inj toL_append)
theorem wfL_vars {r : GRec} (h : r.wf) : wfL (r.vars.map ofVar) := by
  intro x hx
  obtain ⟨y, hy, rfl⟩ := List.mem_map.1 hx
  exact h.2.2.2.2.2.2.2.2.2.2.2.2 y hy
theorem str2 (a b : Int) : strOfNums [a % 256, b % 256] = ofN [(a % 256).toNat, (b % 256).toNat] := rfl
theorem text_f {r : GRec} (h : r.wf) {k : Nat} (hk : 200 ≤ k) : wherryref12_text.f k r.cls r.kind r.frm r.time r.key r.key2 r.key3 r.n r.m r.a r.b r.c (r.vars.map ofVar) = some (recText r) := by
  have hv := vars_k (wfL_vars h) hk
  rw [map_to_of] at hv
  have hvs := Base.varsB_size h.2.2.2.2.2.2.2.2.2.2.2.2
  obtain ⟨h1, h2, h3, h4, h5, h6, h7, h8, h9, h10, h11, h12, h13⟩ := h
  have s0 : (ofN [(r.cls % 256).toNat, (r.kind % 256).toNat]).size = 2 := by rw [ofN_size]; rfl
  have s1 := Base.uintB_size (Base.u64_toNat h3)
  have s2 := Base.intB_size h4.1 h4.2
  have s3 := Base.uintB_size (Base.u64_toNat h5)
  have s4 := Base.uintB_size (Base.u64_toNat h6)
  have s5 := Base.uintB_size (Base.u64_toNat h7)
  have s6 := Base.intB_size h8.1 h8.2
  have s7 := Base.intB_size h9.1 h9.2
  have s8 := Base.textB_size h10
  have s9 := Base.textB_size h11
  have s10 := Base.textB_size h12
  unfold Base.okS at h10 h11 h12
  have e1 : wherryref01_Uint.f r.frm = some (Base.uintB r.frm.toNat) := by unfold wherryref01_Uint.f; rw [if_pos (show 0 ≤ r.frm ∧ r.frm ≤ 18446744073709551615 from h3)]
  have e2 : wherryref01_Int.f r.time = some (Base.intB r.time) := by unfold wherryref01_Int.f; rw [if_pos (show -9223372036854775808 ≤ r.time ∧ r.time ≤ 9223372036854775807 from h4)]
  have e3 : wherryref01_Uint.f r.key = some (Base.uintB r.key.toNat) := by unfold wherryref01_Uint.f; rw [if_pos (show 0 ≤ r.key ∧ r.key ≤ 18446744073709551615 from h5)]
  have e4 : wherryref01_Uint.f r.key2 = some (Base.uintB r.key2.toNat) := by unfold wherryref01_Uint.f; rw [if_pos (show 0 ≤ r.key2 ∧ r.key2 ≤ 18446744073709551615 from h6)]
  have e5 : wherryref01_Uint.f r.key3 = some (Base.uintB r.key3.toNat) := by unfold wherryref01_Uint.f; rw [if_pos (show 0 ≤ r.key3 ∧ r.key3 ≤ 18446744073709551615 from h7)]
  have e6 : wherryref01_Int.f r.n = some (Base.intB r.n) := by unfold wherryref01_Int.f; rw [if_pos (show -9223372036854775808 ≤ r.n ∧ r.n ≤ 9223372036854775807 from h8)]
  have e7 : wherryref01_Int.f r.m = some (Base.intB r.m) := by unfold wherryref01_Int.f; rw [if_pos (show -9223372036854775808 ≤ r.m ∧ r.m ≤ 9223372036854775807 from h9)]
  have e8 : wherryref01_Text.f r.a = some (Base.textB r.a) := by unfold wherryref01_Text.f; rw [if_pos h10]
  have e9 : wherryref01_Text.f r.b = some (Base.textB r.b) := by unfold wherryref01_Text.f; rw [if_pos h11]
  have e10 : wherryref01_Text.f r.c = some (Base.textB r.c) := by unfold wherryref01_Text.f; rw [if_pos h12]
  unfold wherryref12_text.f
  rw [Option.bind_some, str2, e1]
  simp only [Option.bind_some]
  rw [if_pos (by omega)]
  rw [e2]
  simp only [Option.bind_some]
  rw [if_pos (by simp only [app_size]; omega)]
  rw [e3]
  simp only [Option.bind_some]
  rw [if_pos (by simp only [app_size]; omega)]
  rw [e4]
  simp only [Option.bind_some]
  rw [if_pos (by simp only [app_size]; omega)]
  rw [e5]
  simp only [Option.bind_some]
  rw [if_pos (by simp only [app_size]; omega)]
  rw [e6]
  simp only [Option.bind_some]
  rw [if_pos (by simp only [app_size]; omega)]
  rw [e7]
  simp only [Option.bind_some]
  rw [if_pos (by simp only [app_size]; omega)]
  rw [e8]
  simp only [Option.bind_some]
  rw [if_pos (by simp only [app_size]; omega)]
  rw [e9]
  simp only [Option.bind_some]
  rw [if_pos (by simp only [app_size]; omega)]
  rw [e10]
  simp only [Option.bind_some]
  rw [if_pos (by simp only [app_size]; omega)]
  rw [hv]
  simp only [Option.bind_some]
  rw [if_pos (by simp only [app_size]; omega)]
  refine congrArg some ?_
  show _ = recText r
  unfold recText Base.recAcc Base.recAcc Base.recAcc Base.recAcc Base.recAcc Base.recAcc Base.recPiece Base.recHead
  simp only [Base.app_assoc]
def dM (r : GRec) : Bool := decide ((r.a.size : Int) ≤ aMost r.cls r.kind ∧ (r.b.size : Int) ≤ bMost r.cls r.kind ∧ r.c.size ≤ 32 ∧ rightV r.vars = true ∧ (recText r).size ≤ 4096)
theorem j5_f {r : GRec} (h : r.wf) {k : Nat} (hk : 201 ≤ k) (A B : Int) : wherryref12_May.j5 k A B r.cls r.kind r.frm r.time r.key r.key2 r.key3 r.n r.m r.a r.b r.c (r.vars.map ofVar) = some (decide ((r.a.size : Int) ≤ A ∧ (r.b.size : Int) ≤ B ∧ r.c.size ≤ 32 ∧ rightV r.vars = true ∧ (recText r).size ≤ 4096)) := by
  obtain ⟨k, rfl⟩ : ∃ m, k = m + 1 := ⟨k - 1, by omega⟩
  have hr := right_k (l := r.vars.map ofVar) (fun x hx => by
    have := (wfL_vars h x hx).1
    unfold Base.okS at this
    exact Nat.le_trans (show x.f0.size ≤ _ from this) (by omega)) (show 200 ≤ k by omega)
  rw [map_to_of] at hr
  simp only [wherryref12_May.j5]
  rw [hr]
  simp only [Option.bind_some]
  by_cases c1 : (r.a.size : Int) ≤ A
  · rw [if_neg (by omega)]
    by_cases c2 : (r.b.size : Int) ≤ B
    · rw [if_neg (by omega)]
      by_cases c3 : r.c.size ≤ 32
      · rw [if_neg (by omega)]
        cases c4 : rightV r.vars with
        | true =>
          rw [if_pos rfl, text_f h (by omega)]
          simp only [Option.bind_some]
          refine congrArg some ?_
          rw [Bool.eq_iff_iff]
          simp [c1, c2, c3]
          omega
        | false => rw [if_neg Bool.false_ne_true]; simp
      · rw [if_pos (by omega)]; simp [c3]
    · rw [if_pos (by omega)]; simp [c2]
  · rw [if_pos (by omega)]; simp [c1]
theorem j4_f {r : GRec} (h : r.wf) {k : Nat} (hk : 202 ≤ k) (A B : Int) (f : Bool) : wherryref12_May.j4 k A B f r.cls r.kind r.frm r.time r.key r.key2 r.key3 r.n r.m r.a r.b r.c (r.vars.map ofVar) = some (decide ((r.a.size : Int) ≤ A ∧ (r.b.size : Int) ≤ (if f then 8192 else B) ∧ r.c.size ≤ 32 ∧ rightV r.vars = true ∧ (recText r).size ≤ 4096)) := by
  obtain ⟨k, rfl⟩ : ∃ m, k = m + 1 := ⟨k - 1, by omega⟩
  simp only [wherryref12_May.j4]
  cases f
  · rw [if_neg Bool.false_ne_true]; exact j5_f h (by omega) _ _
  · rw [if_pos rfl]; exact j5_f h (by omega) _ _
theorem j3_f {r : GRec} (h : r.wf) {k : Nat} (hk : 203 ≤ k) (A : Int) : wherryref12_May.j3 k A r.cls r.kind r.frm r.time r.key r.key2 r.key3 r.n r.m r.a r.b r.c (r.vars.map ofVar) = some (decide ((r.a.size : Int) ≤ A ∧ (r.b.size : Int) ≤ bMost r.cls r.kind ∧ r.c.size ≤ 32 ∧ rightV r.vars = true ∧ (recText r).size ≤ 4096)) := by
  obtain ⟨k, rfl⟩ : ∃ m, k = m + 1 := ⟨k - 1, by omega⟩
  simp only [wherryref12_May.j3]
  by_cases hc : r.cls = 2
  · rw [if_pos hc, j4_f h (by omega)]
    have e : (if (r.kind == 1) = true then (8192 : Int) else 1024) = bMost r.cls r.kind := by
      unfold bMost
      by_cases hk1 : r.kind = 1
      · rw [if_pos (by simpa using hk1), if_pos ⟨hc, hk1⟩]
      · rw [if_neg (by simpa using hk1), if_neg (fun x => hk1 x.2)]
    rw [e]
  · rw [if_neg hc, j4_f h (by omega)]
    have e : (if false = true then (8192 : Int) else 1024) = bMost r.cls r.kind := by
      unfold bMost
      rw [if_neg Bool.false_ne_true, if_neg (fun x => hc x.1)]
    rw [e]
theorem j2_f {r : GRec} (h : r.wf) {k : Nat} (hk : 204 ≤ k) (f : Bool) (hf : (if f then (8192 : Int) else 32) = aMost r.cls r.kind) : wherryref12_May.j2 k 32 f r.cls r.kind r.frm r.time r.key r.key2 r.key3 r.n r.m r.a r.b r.c (r.vars.map ofVar) = some (dM r) := by
  obtain ⟨k, rfl⟩ : ∃ m, k = m + 1 := ⟨k - 1, by omega⟩
  simp only [wherryref12_May.j2]
  unfold dM
  cases f
  · rw [if_neg Bool.false_ne_true] at hf ⊢; rw [j3_f h (by omega), hf]
  · rw [if_pos rfl] at hf ⊢; rw [j3_f h (by omega), hf]
theorem j1_f {r : GRec} (h : r.wf) {k : Nat} (hk : 205 ≤ k) (f : Bool) : wherryref12_May.j1 k f r.cls r.kind r.frm r.time r.key r.key2 r.key3 r.n r.m r.a r.b r.c (r.vars.map ofVar) = some (!f && dM r) := by
  obtain ⟨k, rfl⟩ : ∃ m, k = m + 1 := ⟨k - 1, by omega⟩
  simp only [wherryref12_May.j1]
  cases f
  · rw [if_neg Bool.false_ne_true]
    by_cases hc : r.cls = 1
    · rw [if_pos hc, j2_f h (by omega) _ (by
        unfold aMost
        by_cases hk1 : r.kind = 1
        · rw [if_pos (by simpa using hk1), if_pos ⟨hc, hk1⟩]
        · rw [if_neg (by simpa using hk1), if_neg (fun x => hk1 x.2)])]
      rfl
    · rw [if_neg hc, j2_f h (by omega) _ (by
        unfold aMost
        rw [if_neg Bool.false_ne_true, if_neg (fun x => hc x.1)])]
      rfl
  · rw [if_pos rfl]; rfl
theorem j0_f {r : GRec} (h : r.wf) {k : Nat} (hk : 206 ≤ k) (f : Bool) : wherryref12_May.j0 k f r.cls r.kind r.frm r.time r.key r.key2 r.key3 r.n r.m r.a r.b r.c (r.vars.map ofVar) = some (!f && (decide ((r.cls = 1 ↔ r.frm = 0) ∧ 0 ≤ r.time ∧ r.time ≤ 1099511627776) && dM r)) := by
  obtain ⟨k, rfl⟩ : ∃ m, k = m + 1 := ⟨k - 1, by omega⟩
  simp only [wherryref12_May.j0]
  cases f
  · rw [if_neg Bool.false_ne_true]
    simp only [j1_f h (show 205 ≤ k by omega)]
    by_cases hc : r.cls = 1 <;> by_cases hf : r.frm = 0 <;> by_cases ht : r.time < 0 <;> by_cases hm : r.time ≤ 1099511627776 <;> simp [hc, hf, ht, hm] <;> (try omega) <;> (try (rw [decide_eq_false (show ¬ 1099511627776 < r.time by omega), decide_eq_true (show 0 ≤ r.time by omega)]; rfl)) <;> (try (cases dM r <;> simp <;> omega))
  · rw [if_pos rfl]; rfl
theorem may12_f {r : GRec} (h : r.wf) {k : Nat} (hk : 206 ≤ k) : wherryref12_May.f k r.cls r.kind r.frm r.time r.key r.key2 r.key3 r.n r.m r.a r.b r.c (r.vars.map ofVar) = some (recMay r) := by
  unfold wherryref12_May.f
  simp only [j0_f h hk]
  have e : recMay r = (decide (1 ≤ r.cls ∧ r.cls ≤ 3 ∧ 1 ≤ r.kind ∧ r.kind ≤ kindsM r.cls) && (decide ((r.cls = 1 ↔ r.frm = 0) ∧ 0 ≤ r.time ∧ r.time ≤ 1099511627776) && dM r)) := by
    unfold recMay dM
    rw [Bool.eq_iff_iff, Bool.and_eq_true, Bool.and_eq_true, decide_eq_true_iff, decide_eq_true_iff, decide_eq_true_iff, decide_eq_true_iff]
    unfold recMayP
    constructor
    · rintro ⟨a1, a2, a3, a4, a5, a6, a7, a8, a9, a10, a11, a12⟩
      exact ⟨⟨a1, a2, a3, a4⟩, ⟨a5, a6, a7⟩, a8, a9, a10, a11, a12⟩
    · rintro ⟨⟨a1, a2, a3, a4⟩, ⟨a5, a6, a7⟩, a8, a9, a10, a11, a12⟩
      exact ⟨a1, a2, a3, a4, a5, a6, a7, a8, a9, a10, a11, a12⟩
  rw [e]
  generalize (decide ((r.cls = 1 ↔ r.frm = 0) ∧ 0 ≤ r.time ∧ r.time ≤ 1099511627776) && dM r) = Z
  unfold kindsM
  by_cases c1 : r.cls < 1
  · rw [if_pos c1, decide_eq_false (fun x => by omega)]; rfl
  rw [if_neg c1]
  by_cases c2 : r.cls > 3
  · rw [if_pos c2, decide_eq_false (fun x => by omega)]; rfl
  rw [if_neg c2]
  by_cases c3 : r.kind < 1
  · rw [if_pos c3, decide_eq_false (fun x => by omega)]; rfl
  rw [if_neg c3]
  by_cases c4 : r.kind > 24
  · rw [if_pos c4, decide_eq_false (fun x => by have := x.2.2.2; split at this <;> omega)]; rfl
  rw [if_neg c4]
  by_cases c5 : r.cls = 2
  · rw [if_pos c5, decide_eq_true ⟨by omega, by omega, by omega, by rw [if_pos c5]; omega⟩]; rfl
  · rw [if_neg c5]
    by_cases c6 : r.kind > 16
    · rw [decide_eq_true c6, decide_eq_false (fun x => by have := x.2.2.2; rw [if_neg c5] at this; omega)]; rfl
    · rw [decide_eq_false c6, decide_eq_true ⟨by omega, by omega, by omega, by rw [if_neg c5]; omega⟩]; rfl
theorem bytes12_f {r : GRec} (h : r.wf) {k : Nat} (hk : 206 ≤ k) : wherryref12_Bytes.f k r.cls r.kind r.frm r.time r.key r.key2 r.key3 r.n r.m r.a r.b r.c (r.vars.map ofVar) = some (recB r) := by
  unfold wherryref12_Bytes.f recB
  rw [may12_f h hk]
  simp only [Option.bind_some]
  cases recMay r with
  | true => rw [if_pos rfl, if_pos rfl, text_f h (by omega)]; rfl
  | false => rw [if_neg Bool.false_ne_true, if_neg Bool.false_ne_true]
end Go.Proofs.Ytcfdbdmefdffdaa.GA
/-
  Chapter 12: the reference's May and Bytes, over a record's list as the program holds it.
-/
set_option linter.unusedVariables false
set_option linter.unusedSimpArgs false
namespace Go.Proofs.Ytcfdbdmefdffdaa.GA
open Go Go.RowKit Go.Proofs.YtcfdbdmefdffdaaW.PrintWords Go.Proofs.YtcfdbdmefdffdaaW.PrintLast Go.Proofs.YtcfdbdmefdffdaaW.PrintMore
open Go.Proofs.Base (GRec recText recMay recB Row varCells)
theorem ref12_May (r : GRec) (vv : Value) (S : Nat → Prop) (w : World) (hrow : Row w S 4 r.vars.length vv (varCells r.vars)) (hw : r.wf) :
    Calls Try.prog 12 #[.agg #[.int .i64 r.cls, .int .i64 r.kind, .int .u64 r.frm, .int .i64 r.time, .int .u64 r.key, .int .u64 r.key2, .int .u64 r.key3, .int .i64 r.n, .int .i64 r.m, .string r.a, .string r.b, .string r.c, vv]] w fun e w' => e = .returned (.bool (recMay r)) ∧ Below w.heap.size w w' := by
  obtain ⟨A, c, rfl, hc, _⟩ := hrow.open_
  have h := wherryref12_May.calls 206 r.cls r.kind r.frm r.time r.key r.key2 r.key3 r.n r.m r.a r.b r.c A c (r.vars.map ofVar) (recMay r) w (C_of_row hrow) (by rw [List.length_map]; exact hc) (may12_f hw (Nat.le_refl 206))
  rw [List.length_map] at h
  exact h
theorem ref12_Bytes (r : GRec) (vv : Value) (S : Nat → Prop) (w : World) (hrow : Row w S 4 r.vars.length vv (varCells r.vars)) (hw : r.wf) :
    Calls Try.prog 10 #[.agg #[.int .i64 r.cls, .int .i64 r.kind, .int .u64 r.frm, .int .i64 r.time, .int .u64 r.key, .int .u64 r.key2, .int .u64 r.key3, .int .i64 r.n, .int .i64 r.m, .string r.a, .string r.b, .string r.c, vv]] w fun e w' => e = .returned (.tuple #[.string (recB r).1, .int .i64 (recB r).2]) ∧ Below w.heap.size w w' := by
  obtain ⟨A, c, rfl, hc, _⟩ := hrow.open_
  have h := wherryref12_Bytes.calls 206 r.cls r.kind r.frm r.time r.key r.key2 r.key3 r.n r.m r.a r.b r.c A c (r.vars.map ofVar) (recB r).1 (recB r).2 w (C_of_row hrow) (by rw [List.length_map]; exact hc) (bytes12_f hw (Nat.le_refl 206))
  rw [List.length_map] at h
  exact h
end Go.Proofs.Ytcfdbdmefdffdaa.GA
/-
  The walk of the law RecWrites. Printed by genwrites.py.
-/
set_option linter.unusedVariables false
set_option linter.unusedSimpArgs false
namespace Go.Proofs.Ytcfdbdmefdffdaa
open Go Go.RowKit Go.Proofs.Base
open Go.Sort (grow)
set_option maxRecDepth 100000 in
set_option maxHeartbeats 8000000 in
theorem law_RecWrites (r s : GRec) (vv uu : Value) (S : Nat → Prop) (w : World) (h1 : Row w S 4 r.vars.length vv (varCells r.vars)) (h2 : Row w S 4 s.vars.length uu (varCells s.vars)) (hw1 : r.wf) (hw2 : s.wf) :
    Calls Try.prog 4 #[.agg #[.int .i64 r.cls, .int .i64 r.kind, .int .u64 r.frm, .int .i64 r.time, .int .u64 r.key, .int .u64 r.key2, .int .u64 r.key3, .int .i64 r.n, .int .i64 r.m, .string r.a, .string r.b, .string r.c, vv], .agg #[.int .i64 s.cls, .int .i64 s.kind, .int .u64 s.frm, .int .i64 s.time, .int .u64 s.key, .int .u64 s.key2, .int .u64 s.key3, .int .i64 s.n, .int .i64 s.m, .string s.a, .string s.b, .string s.c, uu]] w fun e w' => e = .returned (.bool true) ∧ Below w.heap.size w w' := by
  obtain ⟨A1, c1, rfl, _, _⟩ := h1.open_
  obtain ⟨A2, c2, rfl, _, _⟩ := h2.open_
  have hb : Below w.heap.size w ((w.alloc (.cells #[.int .i64 r.cls, .int .i64 r.kind, .int .u64 r.frm, .int .i64 r.time, .int .u64 r.key, .int .u64 r.key2, .int .u64 r.key3, .int .i64 r.n, .int .i64 r.m, .string r.a, .string r.b, .string r.c, .slice A1 r.vars.length c1] 25)).alloc (.cells #[.int .i64 s.cls, .int .i64 s.kind, .int .u64 s.frm, .int .i64 s.time, .int .u64 s.key, .int .u64 s.key2, .int .u64 s.key3, .int .i64 s.n, .int .i64 s.m, .string s.a, .string s.b, .string s.c, .slice A2 s.vars.length c2] 25)) := ((Below.refl _ _).alloc (Nat.le_refl _) _).alloc (by simp) _
  have b1 : ((w.alloc (.cells #[.int .i64 r.cls, .int .i64 r.kind, .int .u64 r.frm, .int .i64 r.time, .int .u64 r.key, .int .u64 r.key2, .int .u64 r.key3, .int .i64 r.n, .int .i64 r.m, .string r.a, .string r.b, .string r.c, .slice A1 r.vars.length c1] 25)).alloc (.cells #[.int .i64 s.cls, .int .i64 s.kind, .int .u64 s.frm, .int .i64 s.time, .int .u64 s.key, .int .u64 s.key2, .int .u64 s.key3, .int .i64 s.n, .int .i64 s.m, .string s.a, .string s.b, .string s.c, .slice A2 s.vars.length c2] 25)).heap[w.heap.size]? = some (.cells #[.int .i64 r.cls, .int .i64 r.kind, .int .u64 r.frm, .int .i64 r.time, .int .u64 r.key, .int .u64 r.key2, .int .u64 r.key3, .int .i64 r.n, .int .i64 r.m, .string r.a, .string r.b, .string r.c, .slice A1 r.vars.length c1] 25 (0, 0)) := blk_old _ (blk_new _ _ rfl)
  have b2 : ((w.alloc (.cells #[.int .i64 r.cls, .int .i64 r.kind, .int .u64 r.frm, .int .i64 r.time, .int .u64 r.key, .int .u64 r.key2, .int .u64 r.key3, .int .i64 r.n, .int .i64 r.m, .string r.a, .string r.b, .string r.c, .slice A1 r.vars.length c1] 25)).alloc (.cells #[.int .i64 s.cls, .int .i64 s.kind, .int .u64 s.frm, .int .i64 s.time, .int .u64 s.key, .int .u64 s.key2, .int .u64 s.key3, .int .i64 s.n, .int .i64 s.m, .string s.a, .string s.b, .string s.c, .slice A2 s.vars.length c2] 25)).heap[w.heap.size + 1]? = some (.cells #[.int .i64 s.cls, .int .i64 s.kind, .int .u64 s.frm, .int .i64 s.time, .int .u64 s.key, .int .u64 s.key2, .int .u64 s.key3, .int .i64 s.n, .int .i64 s.m, .string s.a, .string s.b, .string s.c, .slice A2 s.vars.length c2] 25 (0, 0)) := blk_new _ _ (by simp)
  have H1_0 := Lib.hid (h1.below hb)
  have H2_0 := Lib.hid (h2.below hb)
  have HB0 := Lib.hid hb
  have HB1 := Lib.hid b1
  have HB2 := Lib.hid b2
  have hc1 := fun W h => rec_Bytes r (.slice A1 r.vars.length c1) S W h hw1
  have hc2 := fun W h => GA.ref12_Bytes r (.slice A1 r.vars.length c1) S W h hw1
  have hc3 := fun W h => rec_May r (.slice A1 r.vars.length c1) S W h hw1
  have hc4 := fun W h => GA.ref12_May r (.slice A1 r.vars.length c1) S W h hw1
  obtain ⟨t, ht⟩ : ∃ t : Bool, t = true ↔ r = s := by
    by_cases h : r = s
    · exact ⟨true, Iff.intro (fun _ => h) (fun _ => rfl)⟩
    · exact ⟨false, Iff.intro (fun h' => absurd h' (by decide)) (fun h' => absurd h' h)⟩
  have HT := Lib.hid ht
  clear hb b1 b2 h1 h2 hw1 hw2 ht
  generalize recMay r = M at hc3 hc4
  generalize (recB r).1 = X at hc1 hc2
  generalize (recB r).2 = Y at hc1 hc2
  have hbX : (X.toList == X.toList) = true := beqS_t rfl
  have hbY : (Y == Y) = true := by simp
  have hbM : (M == M) = true := by simp
  have hbt : (t == t) = true := by simp
  have HC1 := Lib.hid hc1
  have HC2 := Lib.hid hc2
  have HC3 := Lib.hid hc3
  have HC4 := Lib.hid hc4
  clear hc1 hc2 hc3 hc4
  go_enter Try.func4, Try.ntmps4
  go_wp2_with (first | (go_at_call 8; refine (rec_shown _).mono ?_; rintro e w1 ⟨rfl, hb1⟩; have B1 := block_below hb1 HB1.out; have B2 := block_below hb1 HB2.out; have H1_1 := Lib.hid (H1_0.out.below hb1); have H2_1 := Lib.hid (H2_0.out.below hb1); have HB1' := Lib.hid (below2 HB0.out hb1); have p0 := (cell_of_blk B1 0).trans (rfl : _ = some (Value.int .i64 r.cls)); have p1 := (cell_of_blk B1 1).trans (rfl : _ = some (Value.int .i64 r.kind)); have p2 := (cell_of_blk B1 2).trans (rfl : _ = some (Value.int .u64 r.frm)); have p3 := (cell_of_blk B1 3).trans (rfl : _ = some (Value.int .i64 r.time)); have p4 := (cell_of_blk B1 4).trans (rfl : _ = some (Value.int .u64 r.key)); have p5 := (cell_of_blk B1 5).trans (rfl : _ = some (Value.int .u64 r.key2)); have p6 := (cell_of_blk B1 6).trans (rfl : _ = some (Value.int .u64 r.key3)); have p7 := (cell_of_blk B1 7).trans (rfl : _ = some (Value.int .i64 r.n)); have p8 := (cell_of_blk B1 8).trans (rfl : _ = some (Value.int .i64 r.m)); have p9 := (cell_of_blk B1 9).trans (rfl : _ = some (Value.string r.a)); have p10 := (cell_of_blk B1 10).trans (rfl : _ = some (Value.string r.b)); have p11 := (cell_of_blk B1 11).trans (rfl : _ = some (Value.string r.c)); have p12 := (cell_of_blk B1 12).trans (rfl : _ = some (Value.slice A1 r.vars.length c1)); have q0 := (cell_of_blk B2 0).trans (rfl : _ = some (Value.int .i64 s.cls)); have q1 := (cell_of_blk B2 1).trans (rfl : _ = some (Value.int .i64 s.kind)); have q2 := (cell_of_blk B2 2).trans (rfl : _ = some (Value.int .u64 s.frm)); have q3 := (cell_of_blk B2 3).trans (rfl : _ = some (Value.int .i64 s.time)); have q4 := (cell_of_blk B2 4).trans (rfl : _ = some (Value.int .u64 s.key)); have q5 := (cell_of_blk B2 5).trans (rfl : _ = some (Value.int .u64 s.key2)); have q6 := (cell_of_blk B2 6).trans (rfl : _ = some (Value.int .u64 s.key3)); have q7 := (cell_of_blk B2 7).trans (rfl : _ = some (Value.int .i64 s.n)); have q8 := (cell_of_blk B2 8).trans (rfl : _ = some (Value.int .i64 s.m)); have q9 := (cell_of_blk B2 9).trans (rfl : _ = some (Value.string s.a)); have q10 := (cell_of_blk B2 10).trans (rfl : _ = some (Value.string s.b)); have q11 := (cell_of_blk B2 11).trans (rfl : _ = some (Value.string s.c)); have q12 := (cell_of_blk B2 12).trans (rfl : _ = some (Value.slice A2 s.vars.length c2))) | (go_at_call 9; refine (HC1.out _ H1_1.out).mono ?_; rintro e w2 ⟨rfl, hb2⟩; have D1 := block_below hb2 B1; have D2 := block_below hb2 B2; have H1_2 := Lib.hid (H1_1.out.below hb2); have H2_2 := Lib.hid (H2_1.out.below hb2); have HB2' := Lib.hid (below2 HB1'.out hb2); clear B1 B2; clear p0 q0 p1 q1 p2 q2 p3 q3 p4 q4 p5 q5 p6 q6 p7 q7 p8 q8 p9 q9 p10 q10 p11 q11 p12 q12; have p0 := (cell_of_blk D1 0).trans (rfl : _ = some (Value.int .i64 r.cls)); have p1 := (cell_of_blk D1 1).trans (rfl : _ = some (Value.int .i64 r.kind)); have p2 := (cell_of_blk D1 2).trans (rfl : _ = some (Value.int .u64 r.frm)); have p3 := (cell_of_blk D1 3).trans (rfl : _ = some (Value.int .i64 r.time)); have p4 := (cell_of_blk D1 4).trans (rfl : _ = some (Value.int .u64 r.key)); have p5 := (cell_of_blk D1 5).trans (rfl : _ = some (Value.int .u64 r.key2)); have p6 := (cell_of_blk D1 6).trans (rfl : _ = some (Value.int .u64 r.key3)); have p7 := (cell_of_blk D1 7).trans (rfl : _ = some (Value.int .i64 r.n)); have p8 := (cell_of_blk D1 8).trans (rfl : _ = some (Value.int .i64 r.m)); have p9 := (cell_of_blk D1 9).trans (rfl : _ = some (Value.string r.a)); have p10 := (cell_of_blk D1 10).trans (rfl : _ = some (Value.string r.b)); have p11 := (cell_of_blk D1 11).trans (rfl : _ = some (Value.string r.c)); have p12 := (cell_of_blk D1 12).trans (rfl : _ = some (Value.slice A1 r.vars.length c1)); have q0 := (cell_of_blk D2 0).trans (rfl : _ = some (Value.int .i64 s.cls)); have q1 := (cell_of_blk D2 1).trans (rfl : _ = some (Value.int .i64 s.kind)); have q2 := (cell_of_blk D2 2).trans (rfl : _ = some (Value.int .u64 s.frm)); have q3 := (cell_of_blk D2 3).trans (rfl : _ = some (Value.int .i64 s.time)); have q4 := (cell_of_blk D2 4).trans (rfl : _ = some (Value.int .u64 s.key)); have q5 := (cell_of_blk D2 5).trans (rfl : _ = some (Value.int .u64 s.key2)); have q6 := (cell_of_blk D2 6).trans (rfl : _ = some (Value.int .u64 s.key3)); have q7 := (cell_of_blk D2 7).trans (rfl : _ = some (Value.int .i64 s.n)); have q8 := (cell_of_blk D2 8).trans (rfl : _ = some (Value.int .i64 s.m)); have q9 := (cell_of_blk D2 9).trans (rfl : _ = some (Value.string s.a)); have q10 := (cell_of_blk D2 10).trans (rfl : _ = some (Value.string s.b)); have q11 := (cell_of_blk D2 11).trans (rfl : _ = some (Value.string s.c)); have q12 := (cell_of_blk D2 12).trans (rfl : _ = some (Value.slice A2 s.vars.length c2))) | (go_at_call 10; refine (HC2.out _ H1_2.out).mono ?_; rintro e w3 ⟨rfl, hb3⟩; have E1 := block_below hb3 D1; have E2 := block_below hb3 D2; have H1_3 := Lib.hid (H1_2.out.below hb3); have H2_3 := Lib.hid (H2_2.out.below hb3); have HB3' := Lib.hid (below2 HB2'.out hb3); clear D1 D2; clear p0 q0 p1 q1 p2 q2 p3 q3 p4 q4 p5 q5 p6 q6 p7 q7 p8 q8 p9 q9 p10 q10 p11 q11 p12 q12; have p0 := (cell_of_blk E1 0).trans (rfl : _ = some (Value.int .i64 r.cls)); have p1 := (cell_of_blk E1 1).trans (rfl : _ = some (Value.int .i64 r.kind)); have p2 := (cell_of_blk E1 2).trans (rfl : _ = some (Value.int .u64 r.frm)); have p3 := (cell_of_blk E1 3).trans (rfl : _ = some (Value.int .i64 r.time)); have p4 := (cell_of_blk E1 4).trans (rfl : _ = some (Value.int .u64 r.key)); have p5 := (cell_of_blk E1 5).trans (rfl : _ = some (Value.int .u64 r.key2)); have p6 := (cell_of_blk E1 6).trans (rfl : _ = some (Value.int .u64 r.key3)); have p7 := (cell_of_blk E1 7).trans (rfl : _ = some (Value.int .i64 r.n)); have p8 := (cell_of_blk E1 8).trans (rfl : _ = some (Value.int .i64 r.m)); have p9 := (cell_of_blk E1 9).trans (rfl : _ = some (Value.string r.a)); have p10 := (cell_of_blk E1 10).trans (rfl : _ = some (Value.string r.b)); have p11 := (cell_of_blk E1 11).trans (rfl : _ = some (Value.string r.c)); have p12 := (cell_of_blk E1 12).trans (rfl : _ = some (Value.slice A1 r.vars.length c1)); have q0 := (cell_of_blk E2 0).trans (rfl : _ = some (Value.int .i64 s.cls)); have q1 := (cell_of_blk E2 1).trans (rfl : _ = some (Value.int .i64 s.kind)); have q2 := (cell_of_blk E2 2).trans (rfl : _ = some (Value.int .u64 s.frm)); have q3 := (cell_of_blk E2 3).trans (rfl : _ = some (Value.int .i64 s.time)); have q4 := (cell_of_blk E2 4).trans (rfl : _ = some (Value.int .u64 s.key)); have q5 := (cell_of_blk E2 5).trans (rfl : _ = some (Value.int .u64 s.key2)); have q6 := (cell_of_blk E2 6).trans (rfl : _ = some (Value.int .u64 s.key3)); have q7 := (cell_of_blk E2 7).trans (rfl : _ = some (Value.int .i64 s.n)); have q8 := (cell_of_blk E2 8).trans (rfl : _ = some (Value.int .i64 s.m)); have q9 := (cell_of_blk E2 9).trans (rfl : _ = some (Value.string s.a)); have q10 := (cell_of_blk E2 10).trans (rfl : _ = some (Value.string s.b)); have q11 := (cell_of_blk E2 11).trans (rfl : _ = some (Value.string s.c)); have q12 := (cell_of_blk E2 12).trans (rfl : _ = some (Value.slice A2 s.vars.length c2))))
  have y0 := cell_regrown p0
  have z0 := cell_regrown q0
  have y1 := cell_regrown p1
  have z1 := cell_regrown q1
  have y2 := cell_regrown p2
  have z2 := cell_regrown q2
  have y3 := cell_regrown p3
  have z3 := cell_regrown q3
  have y4 := cell_regrown p4
  have z4 := cell_regrown q4
  have y5 := cell_regrown p5
  have z5 := cell_regrown q5
  have y6 := cell_regrown p6
  have z6 := cell_regrown q6
  have y7 := cell_regrown p7
  have z7 := cell_regrown q7
  have y8 := cell_regrown p8
  have z8 := cell_regrown q8
  have y9 := cell_regrown p9
  have z9 := cell_regrown q9
  have y10 := cell_regrown p10
  have z10 := cell_regrown q10
  have y11 := cell_regrown p11
  have z11 := cell_regrown q11
  have y12 := cell_regrown p12
  have z12 := cell_regrown q12
  clear p0 q0 p1 q1 p2 q2 p3 q3 p4 q4 p5 q5 p6 q6 p7 q7 p8 q8 p9 q9 p10 q10 p11 q11 p12 q12
  have c4 := fun d os => Calls.regrown_of (HC3.out _ (H1_3.out.below (below_regrown w3 d os)))
  have c5 := fun d os => Calls.regrown_of (HC4.out _ (H1_3.out.below (below_regrown w3 d os)))
  have c6 := fun d os => Calls.regrown_of (rec_Same r s _ _ S t _ (H1_3.out.below (below_regrown w3 d os)) (H2_3.out.below (below_regrown w3 d os)) HT.out)
  have c7 := fun d os => Calls.regrown_of (ref12_Same r s _ _ S t _ (H1_3.out.below (below_regrown w3 d os)) (H2_3.out.below (below_regrown w3 d os)) HT.out)
  refine wp_region_quiet_below (by kernel_rfl) (by kernel_rfl) ?_
  repeat (first | go_big_quiet_step (first | with_reducible exact c4 _ _ | with_reducible exact c5 _ _ | with_reducible exact c6 _ _ | with_reducible exact c7 _ _) | quiet_step (first | with_reducible exact c4 _ _ | with_reducible exact c5 _ _ | with_reducible exact c6 _ _ | with_reducible exact c7 _ _))
  refine wpQuiet_nil ?_
  intro _ hw'
  obtain ⟨⟨dq, osq⟩, hw''⟩ := hw'
  subst hw''
  go_wp2_with fail
  go_ret
  exact ⟨rfl, below2 HB3'.out (below_regrown w3 dq osq)⟩
end Go.Proofs.Ytcfdbdmefdffdaa
/-
  The arguments of the laws, opened: values, variables, records as data. Printed by genopen.py.
-/
set_option linter.unusedVariables false
set_option linter.unusedSimpArgs false
namespace Go.Proofs.Ytcfdbdmefdffdaa
open Go Go.RowKit Go.Proofs.Base Go.WideShapes Go.ChangeShapes
theorem cells_int : Try.prog.cellsOf 3 = 1 := by kernel_rfl
theorem cells_int64 : Try.prog.cellsOf 2 = 1 := by kernel_rfl
theorem cells_uint64 : Try.prog.cellsOf 22 = 1 := by kernel_rfl
theorem cells_string : Try.prog.cellsOf 9 = 1 := by kernel_rfl
theorem cells_vars : Try.prog.cellsOf 23 = 1 := by kernel_rfl
theorem cells_value : Try.prog.cellsOf 50 = 3 := by kernel_rfl
theorem cells_var : Try.prog.cellsOf 52 = 4 := by kernel_rfl
theorem cells_record : Try.prog.cellsOf 25 = 13 := by kernel_rfl
section
variable {H : Type} {enc : TypeId × Value → H} {w : World} {base : Nat} {spare : Nat → Bool} {held : Bool}
def Light (t : TypeId) (d : DataW H) : Prop := ∀ n ∈ d.weights Try.prog t, n ≤ 140737488351232
theorem light_part {t : TypeId} {fs : Array Field} {ds : List (DataW H)} (hu : Try.prog.underlying t = some (.struct fs)) (h : Light t (.agg ds)) {j : Nat} {f : Field} {d : DataW H} (hf : fs[j]? = some f) (hd : ds[j]? = some d) : Light f.type d := by
  intro n hn
  refine h n ?_
  simp only [DataW.weights, hu]
  exact DataW.weights_mem_each (j := j) (by simp [hf]) hd n hn
theorem mem_weightsAll {e : TypeId} : ∀ {l : List (DataW H)} {d : DataW H}, d ∈ l → ∀ n ∈ d.weights Try.prog e, n ∈ DataW.weightsAll Try.prog e l
  | x :: r, d, h, n, hn => by
    simp only [DataW.weightsAll, List.mem_append]
    rcases List.mem_cons.1 h with rfl | h
    · exact .inl hn
    · exact .inr (mem_weightsAll h n hn)
theorem light_elem {t e : TypeId} {es sp : List (DataW H)} (hu : Try.prog.underlying t = some (.slice e)) (h : Light t (.slice es sp)) {d : DataW H} (hd : d ∈ es) : Light e d := by
  intro n hn
  refine h n ?_
  simp only [DataW.weights, hu, List.mem_cons, List.mem_append]
  exact .inr (.inl (mem_weightsAll hd n hn))
theorem fld {fs : Array Field} {cs : List Value} {xs : List (DataW H × List MemPlace)} {m : Nat} (hf : ∀ (i : Nat) (f : Field), fs[i]? = some f → DataW.trod enc Try.prog w base spare held m f.type ((cs.drop f.offset).take (Try.prog.cellsOf f.type)) = xs[i]?)
    {i : Nat} {f : Field} (hi : fs[i]? = some f) {t : TypeId} (ht : f.type = t) {k : Nat} (hk : Try.prog.cellsOf t = k) {c : List Value} (hc : (cs.drop f.offset).take k = c) {x : DataW H × List MemPlace} (hx : xs[i]? = some x) : DataW.trod enc Try.prog w base spare held m t c = some x := by
  have h := hf i f hi
  rw [ht, hk, hc, hx] at h
  exact h
theorem read_i64 {t : TypeId} {n : Nat} {c : Value} {x : DataW H × List MemPlace} (hu : Try.prog.underlying t = some (.int .i64)) (h : DataW.trod enc Try.prog w base spare held n t [c] = some x) : ∃ k, c = .int .i64 k ∧ i64 k := by
  obtain ⟨k, e, _, wk⟩ := DataW.trod_int hu h
  exact ⟨k, by simpa using e, by have := bounds_i64 wk; exact this⟩
theorem read_u64 {t : TypeId} {n : Nat} {c : Value} {x : DataW H × List MemPlace} (hu : Try.prog.underlying t = some (.int .u64)) (h : DataW.trod enc Try.prog w base spare held n t [c] = some x) : ∃ k, c = .int .u64 k ∧ u64 k := by
  obtain ⟨k, e, _, wk⟩ := DataW.trod_int hu h
  exact ⟨k, by simpa using e, by have := bounds_u64 wk; exact this⟩
theorem read_str {t : TypeId} {n : Nat} {c : Value} {x : DataW H × List MemPlace} (hu : Try.prog.underlying t = some .string) (h : DataW.trod enc Try.prog w base spare held n t [c] = some x) (hl : Light t x.1) : ∃ s, c = .string s ∧ okS s := by
  obtain ⟨s, e, rfl, _⟩ := DataW.trod_string hu h
  refine ⟨s, by simpa using e, ?_⟩
  have := hl s.data.toList.length (by simp [DataW.weights])
  exact Nat.le_trans (by show s.data.size ≤ _; simp) this
theorem varCells_get {l : List GVar} {i j : Nat} {u : Value} (h : i < l.length) (hj : j < 4) (hu : (varCells l)[i * 4 + j]? = some u) : l[i].cells[j]? = some u := by
  obtain ⟨a0, a1, a2, a3⟩ := varCells_at h
  match j, hj with
  | 0, _ => rw [a0] at hu; exact hu
  | 1, _ => rw [a1] at hu; exact hu
  | 2, _ => rw [a2] at hu; exact hu
  | 3, _ => rw [a3] at hu; exact hu
set_option maxRecDepth 100000 in
theorem read_value {n : Nat} {cs : List Value} {x : DataW H × List MemPlace} (h : DataW.trod enc Try.prog w base spare held n 50 cs = some x) (hl : Light 50 x.1) : ∃ v : GVal, cs = v.cells ∧ v.wf := by
  obtain ⟨xs, m, _, rfl, hcl, hlen, hf⟩ := DataW.trod_struct Try.underlying50 h
  match cs, hcl.trans cells_value, xs, hlen with
  | [c0, c1, c2], _, [x0, x1, x2], _ =>
    have g0 := fld hf (i := 0) rfl rfl cells_int (c := [c0]) rfl (x := x0) rfl
    have g1 := fld hf (i := 1) rfl rfl cells_int64 (c := [c1]) rfl (x := x1) rfl
    have g2 := fld hf (i := 2) rfl rfl cells_string (c := [c2]) rfl (x := x2) rfl
    obtain ⟨k, rfl, wk⟩ := read_i64 Try.underlying3 (x := x0) g0
    obtain ⟨l, rfl, wl⟩ := read_i64 Try.underlying2 (x := x1) g1
    obtain ⟨s, rfl, ws⟩ := read_str Try.underlying9 (x := x2) g2 (light_part Try.underlying50 hl (j := 2) rfl rfl)
    exact ⟨⟨k, l, s⟩, rfl, wk, wl, ws⟩
set_option maxRecDepth 100000 in
theorem read_var {n : Nat} {cs : List Value} {x : DataW H × List MemPlace} (h : DataW.trod enc Try.prog w base spare held n 52 cs = some x) (hl : Light 52 x.1) : ∃ v : GVar, cs = v.cells ∧ v.wf := by
  obtain ⟨xs, m, _, rfl, hcl, hlen, hf⟩ := DataW.trod_struct Try.underlying52 h
  match cs, hcl.trans cells_var, xs, hlen with
  | [c0, c1, c2, c3], _, [x0, x1], _ =>
    have g0 := fld hf (i := 0) rfl rfl cells_string (c := [c0]) rfl (x := x0) rfl
    have g1 := fld hf (i := 1) rfl rfl cells_value (c := [c1, c2, c3]) rfl (x := x1) rfl
    obtain ⟨s, rfl, ws⟩ := read_str Try.underlying9 (x := x0) g0 (light_part Try.underlying52 hl (j := 0) rfl rfl)
    obtain ⟨v, hv, wv⟩ := read_value (x := x1) (cs := [c1, c2, c3]) g1 (light_part Try.underlying52 hl (j := 1) rfl rfl)
    obtain ⟨rfl, rfl, rfl⟩ : c1 = .int .i64 v.k ∧ c2 = .int .i64 v.n ∧ c3 = .string v.s := by simpa [GVal.cells] using hv
    exact ⟨⟨s, v⟩, rfl, ws, wv⟩
set_option maxRecDepth 100000 in
theorem read_vars {n : Nat} {c : Value} {x : DataW H × List MemPlace} (h : DataW.trod enc Try.prog w base spare held n 23 [c] = some x) (hl : Light 23 x.1) :
    ∃ l : List GVar, Row w (fun _ => True) 4 l.length c (varCells l) ∧ ∀ y ∈ l, y.wf := by
  rcases Go.Deep.open_slice Try.underlying23 h with ⟨hcs, _⟩ | ⟨a, len, cap, m, n', D, Pl, hcs, _, hlc, hcm, hm, rfl, hi⟩
  · obtain rfl : c = .slice none 0 0 := by simpa using hcs
    exact ⟨[], Row.nil _ _ _, fun y hy => by cases hy⟩
  · obtain rfl : c = .slice (some a) len cap := by simpa using hcs
    have hlm : len ≤ m := by rw [hm]; split <;> omega
    have hex : ∀ i, ∃ v : GVar, i < len → v.wf ∧ ∀ j u, v.cells[j]? = some u → w.cell? (a.add (i * 4 + j)) = some u := by
      intro i
      by_cases hil : i < len
      · obtain ⟨cs', hc, ht⟩ := hi i (by omega)
        rw [cells_var] at hc
        obtain ⟨v, rfl, wv⟩ := read_var ht (light_elem Try.underlying23 hl (List.mem_map.2 ⟨i, List.mem_range.2 hil, rfl⟩))
        obtain ⟨_, hcl, hat⟩ := World.cells?_some hc
        refine ⟨v, fun _ => ⟨wv, fun j u hj => ?_⟩⟩
        have hj4 : j < 4 := (List.getElem?_eq_some_iff.1 hj).1
        have := hat j hj4
        rw [← Go.Deep.add_add, this, hj]
      · exact ⟨⟨ByteArray.empty, zeroV⟩, fun h => absurd h hil⟩
    obtain ⟨f, hf⟩ := Classical.axiomOfChoice hex
    refine ⟨(List.range len).map f, ⟨some a, cap, by simp, by simpa using hlc, hcm, ?_, fun h => (nomatch h), fun hn => ?_⟩, fun y hy => ?_⟩
    · rw [varCells_len]
    · have hn' : 0 < len := by simpa using hn
      have h0 := (hf 0 hn').2 0 _ rfl
      obtain ⟨b, o, s⟩ := a
      have hs : s = none := by simpa [Addr.add] using World.cell?_spot h0
      subst hs
      refine ⟨b, o, rfl, trivial, by simpa [Addr.add] using World.block_lt_of_cell? _ _ h0, fun j u hj => ?_⟩
      have hj2 : j < len * 4 := by
        have := (List.getElem?_eq_some_iff.1 hj).1
        rw [varCells_len] at this
        simpa using this
      have e : j = (j / 4) * 4 + j % 4 := by omega
      rw [e] at hj
      have hq : j / 4 < ((List.range len).map f).length := by simp; omega
      have hv := varCells_get hq (Nat.mod_lt j (by decide)) hj
      have := (hf (j / 4) (by omega)).2 (j % 4) u (by simpa using hv)
      rw [Base.add_plain] at this
      rw [e, ← Nat.add_assoc]
      simpa [Nat.add_assoc] using this
    · obtain ⟨i, hi', rfl⟩ := List.mem_map.1 hy
      exact (hf i (List.mem_range.1 hi')).1
set_option maxRecDepth 100000 in
theorem read_record {t : TypeId} {n : Nat} {cs : List Value} {x : DataW H × List MemPlace} (h : DataW.trod enc Try.prog w base spare held n 25 cs = some x) (hl : Light 25 x.1) :
    ∃ (r : GRec) (vv : Value), cs = [.int .i64 r.cls, .int .i64 r.kind, .int .u64 r.frm, .int .i64 r.time, .int .u64 r.key, .int .u64 r.key2, .int .u64 r.key3, .int .i64 r.n, .int .i64 r.m, .string r.a, .string r.b, .string r.c, vv] ∧ r.wf ∧ Row w (fun _ => True) 4 r.vars.length vv (varCells r.vars) := by
  obtain ⟨xs, m, _, rfl, hcl, hlen, hf⟩ := DataW.trod_struct Try.underlying25 h
  match cs, hcl.trans cells_record, xs, hlen with
  | [c0, c1, c2, c3, c4, c5, c6, c7, c8, c9, c10, c11, c12], _, [x0, x1, x2, x3, x4, x5, x6, x7, x8, x9, x10, x11, x12], _ =>
    have g0 := fld hf (i := 0) rfl rfl cells_int (c := [c0]) rfl (x := x0) rfl
    obtain ⟨rcls, rfl, wcls⟩ := read_i64 Try.underlying3 (x := x0) g0
    have g1 := fld hf (i := 1) rfl rfl cells_int (c := [c1]) rfl (x := x1) rfl
    obtain ⟨rkind, rfl, wkind⟩ := read_i64 Try.underlying3 (x := x1) g1
    have g2 := fld hf (i := 2) rfl rfl cells_uint64 (c := [c2]) rfl (x := x2) rfl
    obtain ⟨rfrm, rfl, wfrm⟩ := read_u64 Try.underlying22 (x := x2) g2
    have g3 := fld hf (i := 3) rfl rfl cells_int64 (c := [c3]) rfl (x := x3) rfl
    obtain ⟨rtime, rfl, wtime⟩ := read_i64 Try.underlying2 (x := x3) g3
    have g4 := fld hf (i := 4) rfl rfl cells_uint64 (c := [c4]) rfl (x := x4) rfl
    obtain ⟨rkey, rfl, wkey⟩ := read_u64 Try.underlying22 (x := x4) g4
    have g5 := fld hf (i := 5) rfl rfl cells_uint64 (c := [c5]) rfl (x := x5) rfl
    obtain ⟨rkey2, rfl, wkey2⟩ := read_u64 Try.underlying22 (x := x5) g5
    have g6 := fld hf (i := 6) rfl rfl cells_uint64 (c := [c6]) rfl (x := x6) rfl
    obtain ⟨rkey3, rfl, wkey3⟩ := read_u64 Try.underlying22 (x := x6) g6
    have g7 := fld hf (i := 7) rfl rfl cells_int64 (c := [c7]) rfl (x := x7) rfl
    obtain ⟨rn, rfl, wn⟩ := read_i64 Try.underlying2 (x := x7) g7
    have g8 := fld hf (i := 8) rfl rfl cells_int64 (c := [c8]) rfl (x := x8) rfl
    obtain ⟨rm, rfl, wm⟩ := read_i64 Try.underlying2 (x := x8) g8
    have g9 := fld hf (i := 9) rfl rfl cells_string (c := [c9]) rfl (x := x9) rfl
    obtain ⟨ra, rfl, wa⟩ := read_str Try.underlying9 (x := x9) g9 (light_part Try.underlying25 hl (j := 9) rfl rfl)
    have g10 := fld hf (i := 10) rfl rfl cells_string (c := [c10]) rfl (x := x10) rfl
    obtain ⟨rb, rfl, wb⟩ := read_str Try.underlying9 (x := x10) g10 (light_part Try.underlying25 hl (j := 10) rfl rfl)
    have g11 := fld hf (i := 11) rfl rfl cells_string (c := [c11]) rfl (x := x11) rfl
    obtain ⟨rc, rfl, wc⟩ := read_str Try.underlying9 (x := x11) g11 (light_part Try.underlying25 hl (j := 11) rfl rfl)
    have g12 := fld hf (i := 12) rfl rfl cells_vars (c := [c12]) rfl (x := x12) rfl
    obtain ⟨l, hrow, wl⟩ := read_vars (x := x12) g12 (light_part Try.underlying25 hl (j := 12) rfl rfl)
    exact ⟨⟨rcls, rkind, rfrm, rtime, rkey, rkey2, rkey3, rn, rm, ra, rb, rc, l⟩, c12, rfl, ⟨wcls, wkind, wfrm, wtime, wkey, wkey2, wkey3, wn, wm, wa, wb, wc, wl⟩, hrow⟩
end
end Go.Proofs.Ytcfdbdmefdffdaa
