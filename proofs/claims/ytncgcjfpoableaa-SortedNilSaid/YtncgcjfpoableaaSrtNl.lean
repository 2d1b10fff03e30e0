/-
  The walk of SortedNil.
-/
import Derived.Test.YtncgcjfpoableaaSrtPl
set_option linter.unusedVariables false
set_option linter.unusedSimpArgs false
namespace Go.Proofs.Ytncgcjfpoableaa
open Go Go.RowKit Go.Shelf Go.Proofs.Base
open Go.Proofs.Ytncgcjfpoableaa.srtI
attribute [local go_sem] Oper.semAt_some
theorem ownFrom_at {β : Type} {B b : Nat} {o : Obj} (hb : b < B) : OwnFrom B (fun (_ : β) W => W.heap[b]? = some o) := fun s W W' row hs hg hr =>
  (hg.block b (lt_of_blk hs) (fun e => by have := (hr b e.symm).1; omega)).trans hs
theorem nilRow (W : World) (S : Nat → Prop) : PRow W S none 0 0 [] := ⟨rfl, Row.nil _ _ _⟩
theorem nilHolds (W : World) : Holds W none (.slice none 0 0) := .inl ⟨rfl, rfl⟩
theorem nilGet (k : ByteArray) : getK (0 : Int) k [] = 0 := rfl
theorem nilHas (k : ByteArray) : hasK k ([] : List (KV Int)) = false := rfl
set_option maxRecDepth 100000 in
set_option maxHeartbeats 8000000 in
theorem law_Nil (k : ByteArray) (w : World) :
    Calls Try.prog 9 #[.string k] w fun e w' => e = .returned (.bool true) ∧ Below w.heap.size w w' := by
  have hS := fun W => shown_true W
  have hP := fun W => put_nil k 5 W
  have hG := fun W => get_any (fun _ => True) none none 0 0 k [] W (nilHolds W) (by decide) (nilRow W _) Rises.nil
  have hD := fun W => del_no (fun _ => True) none none 0 0 k [] W (nilHolds W) (by decide) (nilRow W _) Rises.nil (nilHas k)
  simp only [nilGet, nilHas] at hG hD
  have HS := Lib.hid hS
  have HP := Lib.hid hP
  have HG := Lib.hid hG
  have HD := Lib.hid hD
  clear hS hP hG hD
  refine (callsIn_wide (n := 0)).1 (callsIn_of_wp_marks Try.func9 rfl trivial ?_ rfl)
  simp only [Try.ntmps9, List.size_toArray, List.length_cons, List.length_nil, Nat.reduceAdd, Nat.reduceSub, Array.replicate_succ, Array.replicate_zero, List.push_toArray, List.append_toArray, List.nil_append, List.cons_append]
  gi_wp2
  refine ⟨trivial, rfl, (callsIn_wide.2 (HS.out _)).mono ?_⟩
  rintro e w1 ⟨rfl, hb1⟩
  have HB1 := Lib.hid hb1
  clear hb1
  gi_wp2
  refine ⟨trivial, rfl, (callsIn_wide.2 (HP.out _)).mono ?_⟩
  rintro e w1' ⟨rfl, rfl⟩
  gi_wp2
  refine ⟨trivial, rfl, (callsIn_wide.2 (HG.out _)).mono ?_⟩
  rintro e w2 ⟨rfl, hb2⟩
  have HB2 := Lib.hid (below2 HB1.out hb2)
  clear hb2
  gi_wp2
  refine ⟨trivial, rfl, (callsIn_wide.2 (HD.out _)).mono ?_⟩
  rintro e w3 ⟨rfl, hb3⟩
  have HB3 := Lib.hid (below2 HB2.out hb3)
  clear hb3
  gi_wp2
  refine ⟨trivial, rfl, (callsIn_wide.2 (all_any none _)).mono ?_⟩
  rintro e Z ⟨rfl, hZ⟩
  have hc0 : Z.heap[w3.heap.size]? = some (.cells #[.int .i64 0] 3 (0, 0)) := by rw [hZ]; exact (heap_alloc_old _ _ (by simp)).trans (heap_alloc_new w3 _)
  have hf0 : Z.heap[w3.heap.size + 1]? = some (.cells #[.func (.func 37) #[.pointer none] #[]] 71 (0, 0)) := by
    have := heap_alloc_new (w3.alloc (.cells #[.int .i64 0] 3)) (.cells #[.func (.func 37) #[.pointer none] #[]] 71)
    rw [World.size_alloc] at this
    rw [hZ]; exact this
  have hBZ : Below w.heap.size w Z := by rw [hZ]; exact below_alloc (below_alloc HB3.out _) _
  have HBZ := Lib.hid hBZ
  have HC0 := Lib.hid hc0
  have hst := all_stops none (w3.heap.size + 1) Z.heap.size (Z.heap.size + 2) (fun _ => False) none 0 0 [] Z (cell_of_blk hf0 0) (nilHolds Z) (nilRow Z _)
  have HST := Lib.hid hst
  have hbs : w.heap.size ≤ w3.heap.size := HB3.out.size
  have hcz : w3.heap.size < Z.heap.size := lt_of_blk hc0
  clear hc0 hf0 hBZ hst hZ
  gi_wp2
  refine range_law (P := Try.prog) (gf := 50) (lb := #[.pointer (some ⟨w3.heap.size + 1, 0, none⟩)]) (by first | rfl | simp) (enters_of Try.func50 (by kernel_rfl) rfl)
    HST.out (fun h k => h.trans k) (fun W r o h => KeepC.turn W r o h) (fun _ => rfl)
    (fun _ U => U.heap[w3.heap.size]? = some (.cells #[.int .i64 0] 3 (0, 0)) ∧ Below w.heap.size w U) (fun _ _ _ => False)
    (OwnFrom.and (ownFrom_blk _ _ _ _) (ownFrom_below (Nat.le_refl _) HBZ.out.size)) (fun _ _ _ _ _ hs _ _ => hs)
    ⟨HC0.out, HBZ.out⟩ (fun _ _ _ _ => True) (fun _ _ _ _ _ _ _ hs _ _ => hs) ?a1 ?b1 ?d1 ?s1
  case a1 =>
    rintro l2 pre x U K hi hK
    gi_wp2
    exact hK _ _ (KeepsFrom.refl _ _) (KeepC.refl _ _ _) hi trivial
  case b1 => rintro l2 pre x a' U hU _ _ hlen; have h9 := hlen.length_le; simp at h9
  case s1 => rintro D c pre U hD hS h hK; exact h.elim
  case d1 =>
    rintro D1 ys U hD1 rfl ⟨hc, hB⟩ hK1
    have HC := Lib.hid hc
    have HB := Lib.hid hB
    have HK1 := Lib.hid hK1
    have hdu : D1 < U.heap.size := lt_of_blk hK1
    have hcu : w3.heap.size < U.heap.size := lt_of_blk hc
    clear hc hB hK1
    gi_wp2
    refine ⟨trivial, rfl, (callsIn_wide.2 (down_any none _)).mono ?_⟩
    rintro e Y ⟨rfl, hY⟩
    have hbY : Below U.heap.size U Y := by rw [hY]; exact below_alloc (Below.refl _ _) _
    have hf1 : Y.heap[U.heap.size]? = some (.cells #[.pointer none] 35 (0, 0)) := by rw [hY]; exact heap_alloc_new U _
    have HST2 := Lib.hid (down_stops none U.heap.size Y.heap.size (Y.heap.size + 2) (fun _ => False) none 0 0 [] Y (Nat.le_refl _) (cell_of_blk hf1 0) (nilHolds Y) (nilRow Y _))
    have HCY := Lib.hid (block_below hbY HC.out)
    have HKY := Lib.hid (block_below hbY HK1.out)
    have HBY := Lib.hid (below2 HB.out hbY)
    have hys := hbY.size
    clear hbY hf1 hY
    gi_wp2
    refine range_law (P := Try.prog) (gf := 41) (lb := #[.pointer (some ⟨U.heap.size, 0, none⟩)]) (by first | rfl | simp) (enters_of Try.func41 (by kernel_rfl) rfl)
      HST2.out (fun h k => h.trans k) (fun W r o h => KeepC.turn W r o h) (fun _ => rfl)
      (fun _ U => (U.heap[w3.heap.size]? = some (.cells #[.int .i64 0] 3 (0, 0)) ∧ U.heap[D1]? = some (.deferred (some []))) ∧ Below w.heap.size w U) (fun _ _ _ => False)
      (OwnFrom.and (OwnFrom.and (ownFrom_blk _ _ _ _) (ownFrom_at (by omega))) (ownFrom_below (Nat.le_refl _) HBY.out.size)) (fun _ _ _ _ _ hs _ _ => hs)
      ⟨⟨HCY.out, HKY.out⟩, HBY.out⟩ (fun _ _ _ _ => True) (fun _ _ _ _ _ _ _ hs _ _ => hs) ?a2 ?b2 ?d2 ?s2
    case a2 =>
      rintro l2 pre x U K hi hK
      gi_wp2
      exact hK _ _ (KeepsFrom.refl _ _) (KeepC.refl _ _ _) hi trivial
    case b2 => rintro l2 pre x a' U hU _ _ hlen; have h9 := hlen.length_le; simp at h9
    case s2 => rintro D c pre U hD hS h hK; exact h.elim
    case d2 =>
      rintro D2 ys V hD2 rfl ⟨⟨hc, hk1⟩, hB⟩ hK2
      have HC2 := Lib.hid hc
      have HB2' := Lib.hid hB
      have HK21 := Lib.hid hk1
      have HK22 := Lib.hid hK2
      have hdv : D2 < V.heap.size := lt_of_blk hK2
      have hdv1 : D1 < V.heap.size := lt_of_blk hk1
      have hne : D1 ≠ D2 := by omega
      clear hc hB hk1 hK2
      gi_wp2
      refine ⟨trivial, rfl, (callsIn_wide.2 (under_any none k _)).mono ?_⟩
      rintro e X ⟨rfl, hX⟩
      have hbX : Below V.heap.size V X := by rw [hX]; exact underW_below none k V
      have hf2 : X.cell? ⟨V.heap.size, 0, none⟩ = some (.pointer none) := by rw [hX]; exact underW_0 none k V
      have hf3 : X.heap[V.heap.size + 1]? = some (.cells #[.string k] 9 (0, 0)) := by rw [hX]; exact underW_1 none k V
      have HST3 := Lib.hid (under_stops none V.heap.size (V.heap.size + 1) X.heap.size (X.heap.size + 2) (fun _ => False) none 0 0 k [] X (Nat.le_refl _) hf2 hf3 ⟨lt_of_blk hf3, fun h => h⟩ (nilHolds X) (by decide) (nilRow X _) Rises.nil)
      have HCX := Lib.hid (block_below hbX HC2.out)
      have HKX1 := Lib.hid (block_below hbX HK21.out)
      have HKX2 := Lib.hid (block_below hbX HK22.out)
      have HBX := Lib.hid (below2 HB2'.out hbX)
      have hxs := hbX.size
      clear hbX hf2 hf3 hX
      gi_wp2
      refine range_law (P := Try.prog) (gf := 43) (lb := #[.pointer (some ⟨V.heap.size, 0, none⟩), .pointer (some ⟨V.heap.size + 1, 0, none⟩)]) (by first | rfl | simp) (enters_of Try.func43 (by kernel_rfl) rfl)
        HST3.out (fun h k => h.trans k) (fun W r o h => KeepC.turn W r o h) (fun _ => rfl)
        (fun _ U => (U.heap[w3.heap.size]? = some (.cells #[.int .i64 0] 3 (0, 0)) ∧ U.heap[D1]? = some (.deferred (some [])) ∧ U.heap[D2]? = some (.deferred (some []))) ∧ Below w.heap.size w U) (fun _ _ _ => False)
        (OwnFrom.and (OwnFrom.and (ownFrom_blk _ _ _ _) (OwnFrom.and (ownFrom_at (by omega)) (ownFrom_at (by omega)))) (ownFrom_below (Nat.le_refl _) HBX.out.size)) (fun _ _ _ _ _ hs _ _ => hs)
        ⟨⟨HCX.out, HKX1.out, HKX2.out⟩, HBX.out⟩ (fun _ _ _ _ => True) (fun _ _ _ _ _ _ _ hs _ _ => hs) ?a3 ?b3 ?d3 ?s3
      case a3 =>
        rintro l2 pre x U K hi hK
        gi_wp2
        exact hK _ _ (KeepsFrom.refl _ _) (KeepC.refl _ _ _) hi trivial
      case b3 => rintro l2 pre x a' U hU _ _ hlen; have h8 : underK k ([] : List (KV Int)) = [] := rfl; rw [h8] at hlen; have h9 := hlen.length_le; simp at h9
      case s3 => rintro D c pre U hD hS h hK; exact h.elim
      case d3 =>
        rintro D3 ys T hD3 rfl ⟨⟨hc, hk1, hk2⟩, hB⟩ hk3
        have HK1' := Lib.hid hk1
        have HK2' := Lib.hid hk2
        have HK3' := Lib.hid hk3
        have HBT := Lib.hid hB
        have hcell := cell_of_blk hc 0
        have hn12 : D1 < D2 ∨ D2 < D1 := by omega
        have hd3 : D1 < D3 ∧ D2 < D3 := by omega
        have hC := clone_any none none 0 0 T (nilHolds T)
        have hL0 := len_any none none 0 0
        clear hc hk1 hk2 hk3 hB
        gi_wp2
        refine ⟨trivial, rfl, (callsIn_wide.2 hC).mono ?_⟩
        rintro e T2 ⟨rfl, hT2⟩
        have hbT : Below T.heap.size T T2 := by rw [hT2]; exact below_alloc (Below.refl _ _) _
        have hcT : T2.cell? ⟨T.heap.size, 0, none⟩ = some (.slice none 0 0) := by rw [hT2]; exact cell_of_blk (heap_alloc_new T _) 0
        have hcell2 := cell_below hbT hcell
        have HL1 := Lib.hid (len_any (some ⟨T.heap.size, 0, none⟩) none 0 0 T2 (.inr ⟨_, rfl, hcT⟩))
        have HL0 := Lib.hid (hL0 T2 (nilHolds T2))
        have HK1'' := Lib.hid (block_below hbT HK1'.out)
        have HK2'' := Lib.hid (block_below hbT HK2'.out)
        have HK3'' := Lib.hid (block_below hbT HK3'.out)
        have HBT2 := Lib.hid (below2 HBT.out hbT)
        clear hbT hcT hT2 hL0 hC
        gi_wp2
        refine ⟨trivial, rfl, (callsIn_wide.2 HL0.out).mono ?_⟩
        rintro e T3 ⟨rfl, rfl⟩
        gi_wp2
        refine ⟨trivial, rfl, (callsIn_wide.2 HL1.out).mono ?_⟩
        rintro e T3 ⟨rfl, rfl⟩
        gi_wp2
        have hz := HBZ.out.size
        have g2 : (T2.putObj D3 (.deferred none)).heap[D2]? = some (.deferred (some [])) := (World.putObj_heap_other (by omega)).trans HK2''.out
        have g1 : ((T2.putObj D3 (.deferred none)).putObj D2 (.deferred none)).heap[D1]? = some (.deferred (some [])) := (World.putObj_heap_other (by omega)).trans ((World.putObj_heap_other (by omega)).trans HK1''.out)
        refine ⟨by simp, .inl ⟨_, _, rfl, run_takeDeferred HK3''.out, ?_⟩⟩
        refine ⟨by simp, .inl ⟨_, _, rfl, run_takeDeferred g2, ?_⟩⟩
        refine ⟨by simp, .inl ⟨_, _, rfl, run_takeDeferred g1, ?_⟩⟩
        refine ⟨_, results_tmp rfl _ _ _, rfl, ?_⟩
        exact ((HBT2.out.trans (belowK_b (w := w) (Nat.le_refl _) T2 D3 _ _ (by omega) HK3''.out rfl rfl)).trans (belowK_b (w := w) (Nat.le_refl _) _ D2 _ _ (by omega) g2 rfl rfl)).trans (belowK_b (w := w) (Nat.le_refl _) _ D1 _ _ (by omega) g1 rfl rfl)
end Go.Proofs.Ytncgcjfpoableaa
