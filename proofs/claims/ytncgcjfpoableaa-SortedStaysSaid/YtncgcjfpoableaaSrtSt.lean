/-
  The walk of SortedStays. Printed by genstays.py.
-/
import Derived.Test.YtncgcjfpoableaaSrtSu
import Derived.Lib.QuietBelow
set_option linter.unusedVariables false
set_option linter.unusedSimpArgs false
namespace Go.Proofs.Ytncgcjfpoableaa
open Go Go.RowKit Go.Shelf Go.Proofs.Base
open Go.Proofs.Ytncgcjfpoableaa.srtI
open Go.Proofs.Ytncgcjfpoableaa.refM (RMapP)
open Go.Sort (grow)
attribute [local go_sem] Oper.semAt_some
set_option maxRecDepth 100000 in
set_option maxHeartbeats 8000000 in
theorem law_Stays (va vb : Value) (xs ys : List GAct) (k : ByteArray) (w : World) (hx : Acts w va xs) (hy : Acts w vb ys) (hk : okA k) :
    Calls Try.prog 5 #[va, vb, .string k] w fun e w' => e = .returned (.bool true) ∧ Below w.heap.size w w' := by
  have hks : k.size ≤ 9223372036854775807 := by unfold okA at hk; omega
  obtain ⟨A, c, rfl, hnc, hcm⟩ := hx.open_
  obtain ⟨A', c', rfl, hnc', hcm'⟩ := hy.open_
  have HX := Lib.hid hx
  have HY := Lib.hid hy
  have HXL := Lib.hid hx.2.2
  have HYL := Lib.hid hy.2.2
  clear hx hy
  obtain ⟨X, hXd⟩ : ∃ X, X = w.alloc (.cells #[.slice A' ys.length c'] 34) := ⟨_, rfl⟩
  have hX0 : X.heap[w.heap.size]? = some (.cells #[.slice A' ys.length c'] 34 (0, 0)) := by rw [hXd]; exact heap_alloc_new w _
  have hwX : Below w.heap.size w X := by rw [hXd]; exact below_alloc (Below.refl _ _) _
  have hXs : X.heap.size = w.heap.size + 1 := by rw [hXd]; simp
  have HXD := Lib.hid hXd
  have HX0 := Lib.hid hX0
  have HWX := Lib.hid hwX
  have HXS := Lib.hid hXs
  clear hXd hX0 hwX hXs
  have hsh := shown_true X
  refine (callsIn_wide (n := 0)).1 (callsIn_of_wp_marks Try.func5 rfl trivial ?_ rfl)
  simp only [Try.ntmps5, List.size_toArray, List.length_cons, List.length_nil, Nat.reduceAdd, Nat.reduceSub, Array.replicate_succ, Array.replicate_zero, List.push_toArray, List.append_toArray, List.nil_append, List.cons_append]
  refine wpIn_wide.2 ?_
  go_wp2_with fail
  rw [show w.alloc (.cells #[.slice A' ys.length c'] 34) = X from HXD.out.symm]
  go_wp2_with (first
    | (go_at_call 10; refine hsh.mono ?_; rintro e w1 ⟨rfl, hb1⟩; have HB1 := Lib.hid hb1; clear hb1)
    | (go_at_call 16; refine (srtI.new_any _).mono ?_; rintro e w2 ⟨rfl, rfl⟩))
  obtain ⟨N, hNd⟩ : ∃ N, N = startW3 w1 := ⟨_, rfl⟩
  have hN : (((w1.alloc (.cells #[.slice none 0 0] 70)).alloc (.cells #[.pointer (some ⟨w1.heap.size, 0, none⟩)] 35)).alloc (.cells #[.slice none 0 0, .slice none 0 0] 40)).alloc (.cells #[.pointer (some ⟨w1.heap.size + 1 + 1, 0, none⟩)] 37) = N := hNd.symm
  rw [hN]
  have HS0 := Lib.hid (show St (fun x => x = w1.heap.size ∨ x = w1.heap.size + 1 + 1) w1.heap.size (w1.heap.size + 1 + 1) [] N from hNd ▸ start3_st w1)
  have HN8 := Lib.hid (show N.heap[w1.heap.size + 1]? = some (.cells #[.pointer (some ⟨w1.heap.size, 0, none⟩)] 35 (0, 0)) from hNd ▸ start3_1 w1)
  have HN9 := Lib.hid (show N.heap[w1.heap.size + 1 + 1 + 1]? = some (.cells #[.pointer (some ⟨w1.heap.size + 1 + 1, 0, none⟩)] 37 (0, 0)) from hNd ▸ start3_3 w1)
  have HXN := Lib.hid (below2 HB1.out (hNd ▸ start3_below w1))
  have HNS := Lib.hid (show N.heap.size = w1.heap.size + 1 + 1 + 1 + 1 from hNd ▸ start3_size w1)
  have HN4 := Lib.hid (block_below HXN.out HX0.out)
  have HWN := Lib.hid (below2 HWX.out HXN.out)
  have hw1 : w.heap.size + 1 ≤ w1.heap.size := by have h1 := HB1.out.size; have h2 := HXS.out; omega
  clear hNd hN hsh
  go_loopw [10] (fun i wr => ∃ j : Nat, j ≤ xs.length ∧ i = .int .i64 j ∧ Hid (St (fun x => x = w1.heap.size ∨ x = w1.heap.size + 1 + 1) w1.heap.size (w1.heap.size + 1 + 1) (runK [] (xs.take j)) wr ∧ Mut (fun x => x = w1.heap.size ∨ x = w1.heap.size + 1 + 1) N wr)) (fun i _ => xs.length - (intOf i).toNat)
  case atStart => exact ⟨0, Nat.zero_le _, rfl, Lib.hid ⟨HS0.out, Mut.refl _ _⟩⟩
  case round =>
    obtain ⟨j, hj, rfl, HI⟩ := hrel
    have HR4 := Lib.hid (HI.out.2.blk HN4.out (by omega))
    have HR8 := Lib.hid (HI.out.2.blk HN8.out (by omega))
    have HR9 := Lib.hid (HI.out.2.blk HN9.out (by omega))
    have HWR := Lib.hid (srtI.below_of_mut HWN.out HI.out.2 (fun b h => by omega))
    by_cases hlt : j < xs.length
    · obtain ⟨b, o, rfl, _, k0, k1, k2⟩ := (HX.out.below HWR.out).at_ hlt
      have hkk := HX.out.2.1 _ (List.getElem_mem hlt)
      have hll := runK_take_len [] xs j
      have HR := Lib.hid (runK_take [] xs hlt)
      generalize xs[j] = a at *
      have HD := Lib.hid (fun W (h : St (fun x => x = w1.heap.size ∨ x = w1.heap.size + 1 + 1) w1.heap.size (w1.heap.size + 1 + 1) (runK [] (xs.take j)) W) => does_any _ _ _ a.kind a.k a.v _ W h (by unfold okA at hkk; omega) (by simp at hll; have := HXL.out; omega))
      clear hkk hll
      go_wp2_with fail
      have y0 := cell_regrown k0
      have y1 := cell_regrown k1
      have y2 := cell_regrown k2
      have y3 := cell_regrown (cell_of_blk HR8.out 0)
      have y4 := cell_regrown (cell_of_blk HR9.out 0)
      refine wp_region_quiet_tail [_, _, _, _, _, _] _ (by kernel_rfl) (by kernel_rfl) (by kernel_rfl) (by kernel_rfl) (by kernel_rfl) (by kernel_rfl) ?_
      repeat (first | go_big_quiet_step (fail) | quiet_step (fail))
      refine wpQuiet_nil ?_
      intro _ hw'
      obtain ⟨⟨dq, osq⟩, hw''⟩ := hw'
      subst hw''
      have hbq := below_regrown wr dq osq
      have HSq := Lib.hid (HI.out.1.below hbq)
      have HUq := Lib.hid (mut_below HI.out.2 hbq)
      clear y0 y1 y2 y3 y4 k0 k1 k2 hbq
      generalize grow (redrawn wr dq) osq = G at *
      go_wp2_with (go_at_call 17; refine (HD.out _ HSq.out).mono ?_; rintro e w4 ⟨rfl, hS4, hm4⟩; have HS4 := Lib.hid hS4; have Hm4 := Lib.hid (HUq.out.trans hm4 (fun _ _ h => h)); clear hS4 hm4)
      go_roundw
      case rel => exact ⟨j + 1, by omega, by go_num, Lib.hid ⟨by rw [HR.out]; exact HS4.out, Hm4.out⟩⟩
      case measure => simp [intOf]; omega
    · obtain rfl : j = xs.length := by omega
      have hll := runK_take_len [] xs xs.length
      generalize runK [] (xs.take xs.length) = L0 at *
      have HLL : Hid (L0.length ≤ 4398046510976) := Lib.hid (by have := HXL.out; simp at hll; omega)
      clear hll
      have hR := range_any _ _ 5 k L0 wr HI.out.1.2.2.2 hks HI.out.1.2.1 (by have := HLL.out; omega) HI.out.1.rises 2 (by omega)
      rw [rangeK_5] at hR
      have HR := Lib.hid hR
      clear hR
      have c9 := cell_of_blk HR9.out 0
      go_wp2_with (first
        | (go_at_call 21; refine HR.out.mono ?_; rintro e w2 ⟨kv, vv, rfl, ok1, oi1, hb1⟩; obtain ⟨A4, c4, rfl, R4⟩ := rows_from ok1; obtain ⟨A5, c5, rfl, R5⟩ := rows_from oi1; have HB2 := Lib.hid hb1; have HR4' := Lib.hid R4; have HR5' := Lib.hid R5; have c8 := cell_of_blk (block_below hb1 HR8.out) 0; have c8' := cell_below (below_alloc (below_alloc (Below.refl w2.heap.size w2) (.cells #[.slice none 0 0] 22)) (.cells #[.slice none 0 0] 38)) c8; clear hb1 ok1 oi1 R4 R5 c9)
        | (go_at_call 22; refine (srtI.from_any _ _ _).mono ?_; rintro e V ⟨rfl, hV⟩; have HVD := Lib.hid hV; clear hV c8 c8'))
      obtain ⟨Y, hYd⟩ : ∃ Y, Y = (w2.alloc (.cells #[.slice none 0 0] 22)).alloc (.cells #[.slice none 0 0] 38) := ⟨_, rfl⟩
      have hVd : V = fromW (some ⟨w1.heap.size, 0, none⟩) k Y := by rw [hYd]; exact HVD.out
      have hYs : Y.heap.size = w2.heap.size + 1 + 1 := by rw [hYd]; simp
      have hyx : Boxed Y w2.heap.size 22 (.slice none 0 0) := by rw [hYd]; exact (Boxed.new w2 _ _).alloc _
      have hyy : Boxed Y (w2.heap.size + 1) 38 (.slice none 0 0) := by
        have h := Boxed.new (w2.alloc (.cells #[.slice none 0 0] 22)) 38 (.slice none 0 0)
        rw [World.size_alloc] at h
        rw [hYd]; exact h
      have hwY : Below w2.heap.size w2 Y := by rw [hYd]; exact below_alloc (below_alloc (Below.refl _ _) _) _
      have hYV : Below Y.heap.size Y V := by rw [hVd]; exact fromW_below _ _ _
      have v0 : V.cell? ⟨w2.heap.size + 1 + 1, 0, none⟩ = some (.pointer (some ⟨w1.heap.size, 0, none⟩)) := by rw [hVd, ← hYs]; exact fromW_0 _ k Y
      have v1 : V.cell? ⟨w2.heap.size + 1 + 1 + 1, 0, none⟩ = some (.string k) := by rw [hVd, ← hYs]; exact fromW_1 _ k Y
      have v2 : V.cell? ⟨w2.heap.size + 1 + 1 + 1 + 1, 0, none⟩ = some (fromFv (w2.heap.size + 1 + 1)) := by rw [hVd, ← hYs]; exact fromW_2 _ k Y
      have hVs : V.heap.size = w2.heap.size + 1 + 1 + 3 := by rw [hVd, fromW_size, hYs]
      have hwV : Below w2.heap.size w2 V := below2 hwY hYV
      have hrV : Below wr.heap.size wr V := below2 HB2.out hwV
      have HVX := Lib.hid (block_below hYV hyx)
      have HVY := Lib.hid (block_below hYV hyy)
      have HV4 := Lib.hid (block_below hrV HR4.out)
      have HV8 := Lib.hid (block_below hrV HR8.out)
      have HV9 := Lib.hid (block_below hrV HR9.out)
      have HWV := Lib.hid (below2 HWR.out hrV)
      have HRA := Lib.hid ((HR4'.out.weaken (S' := fun g => wr.heap.size ≤ g ∧ g < w2.heap.size) (fun b hb h => ⟨h, hb⟩)).below hwV)
      have HRB := Lib.hid ((HR5'.out.weaken (S' := fun g => wr.heap.size ≤ g ∧ g < w2.heap.size) (fun b hb h => ⟨h, hb⟩)).below hwV)
      have hwr2 : wr.heap.size ≤ w2.heap.size := HB2.out.size
      have hNwr : w1.heap.size + 1 + 1 + 1 + 1 ≤ wr.heap.size := by have h1 := HI.out.2.size; have h2 := HNS.out; omega
      have hno : ∀ g, ¬ (Value.slice none 0 0).ownBlock = some g := fun g h => by simp [Value.ownBlock] at h
      have HSV := Lib.hid (St.turn (B' := B4 (w1.heap.size) (w1.heap.size + 1 + 1) (w2.heap.size) (w2.heap.size + 1) (.slice none 0 0) (.slice none 0 0)) HI.out.1 (Mut.of_below hrV (fun _ => False)) (fun _ _ h => h.elim) (.inl (.inl rfl)) (.inl (.inr (.inl rfl))) (fun g h => by
        rcases h with h | h | h
        · unfold T4 at h; omega
        · exact (hno g h).elim
        · exact (hno g h).elim) (fun g h => by
        rcases h with (rfl | rfl | rfl | rfl) | h | h
        · exact .inl (.inl rfl)
        · exact .inl (.inr rfl)
        · exact .inr hwr2
        · exact .inr (by omega)
        · exact (hno g h).elim
        · exact (hno g h).elim))
      obtain ⟨Am, cm, hHm, hPm, hRm⟩ := HSV.out.holds
      have hLm : LRow V.heap.size (T4 (w1.heap.size) (w1.heap.size + 1 + 1) (w2.heap.size) (w2.heap.size + 1)) V Am L0.length cm L0 := ⟨hPm.1, hPm.2.weaken (fun g hg h => ⟨hg, fun ht => h (.inl ht)⟩)⟩
      have HSTP := Lib.hid (from_stops (some ⟨w1.heap.size, 0, none⟩) (w2.heap.size + 1 + 1) (w2.heap.size + 1 + 1 + 1 + 1) V.heap.size (V.heap.size + 2) (T4 (w1.heap.size) (w1.heap.size + 1 + 1) (w2.heap.size) (w2.heap.size + 1)) Am L0.length cm k L0 V v2 v0 v1 hHm (by have := HLL.out; omega) hLm hRm)
      have HNE := Lib.hid (show (w1.heap.size) ≠ (w2.heap.size) ∧ (w1.heap.size) ≠ (w2.heap.size + 1) ∧ (w1.heap.size + 1 + 1) ≠ (w2.heap.size) ∧ (w1.heap.size + 1 + 1) ≠ (w2.heap.size + 1) ∧ (w2.heap.size) < V.heap.size ∧ (w2.heap.size + 1) < V.heap.size ∧ (w1.heap.size) < V.heap.size ∧ (w1.heap.size + 1 + 1) < V.heap.size by omega)
      have HVV0 := Lib.hid v0
      have HVV1 := Lib.hid v1
      have HVV2 := Lib.hid v2
      have HVS := Lib.hid hVs
      have hvb : w2.heap.size + 1 + 1 + 3 ≤ V.heap.size := by omega
      clear hYd hVd hYs hyx hyy hwY hYV v0 v1 v2 hVs hwV hrV hno hHm hPm hRm hLm
      refine (wpIn_wide (n := 0)).1 (range_law (P := Try.prog) (gf := 50) (lb := #[.pointer (some ⟨w2.heap.size + 1 + 1 + 1 + 1, 0, none⟩)]) (by first | rfl | simp) (enters_of Try.func50 (by kernel_rfl) rfl)
        HSTP.out (fun h k => h.trans k) (fun W r o h => KeepC.turn W r o h) (fun _ => rfl)
        (fun pre U => InvS V (w1.heap.size) (w1.heap.size + 1 + 1) (w2.heap.size) (w2.heap.size + 1) (fun pre => runK L0 (ys.take pre.length)) pre U)
        (fun _ _ _ => False)
        (inv_own V (w1.heap.size) (w1.heap.size + 1 + 1) (w2.heap.size) (w2.heap.size + 1) _)
        (fun _ _ _ _ _ hs _ _ => hs)
        ⟨_, _, HVX.out, HVY.out, own_nil _ _ _ _, own_nil _ _ _ _, HSV.out, Mut.refl _ _⟩
        (fun _ x a' _ => a' = { tmps := #[.slice A xs.length c, .slice A' ys.length c', .string k, undef, .pointer (some ⟨w.heap.size, 0, none⟩), undef, .bool false, .bool true, .pointer (some ⟨w1.heap.size + 1, 0, none⟩), .pointer (some ⟨w1.heap.size + 1 + 1 + 1, 0, none⟩), .int .i64 xs.length, .slice A4 (fromK k L0).length c4, .slice A5 (fromK k L0).length c5, .pointer (some ⟨w2.heap.size, 0, none⟩), .pointer (some ⟨w2.heap.size + 1, 0, none⟩), .func (.func 50) #[] #[.pointer (some ⟨w2.heap.size + 1 + 1 + 1 + 1, 0, none⟩)], .string x.1, .int .i64 x.2, undef, undef, undef, undef, .bool true, .pointer (some ⟨w1.heap.size, 0, none⟩), .agg #[.slice none 0 0, .slice none 0 0], .pointer (some ⟨w1.heap.size + 1 + 1, 0, none⟩), .bool true, .bool false, .int .i64 xs.length, .slice A xs.length c, .int .i64 xs.length, .bool false, u32, u33, u34, u35, u36, u37, u38, u39, u40, .tuple #[.slice A4 (fromK k L0).length c4, .slice A5 (fromK k L0).length c5], .pointer (some ⟨w1.heap.size + 1 + 1, 0, none⟩), .string k, .tuple #[.slice A4 (fromK k L0).length c4, .slice A5 (fromK k L0).length c5], .slice A4 (fromK k L0).length c4, .slice A5 (fromK k L0).length c5, .pointer (some ⟨w1.heap.size, 0, none⟩), .string k, .func (.func 50) #[] #[.pointer (some ⟨w2.heap.size + 1 + 1 + 1 + 1, 0, none⟩)], .func (.func 50) #[] #[.pointer (some ⟨w2.heap.size + 1 + 1 + 1 + 1, 0, none⟩)], .string x.1, .int .i64 x.2, undef, undef, undef, undef, undef, undef, undef, undef, undef, undef, undef, undef, undef, undef, undef, undef, undef, undef, undef, undef, undef, undef, undef, undef, undef, undef, undef, undef, undef, undef, undef, undef, undef, undef, undef, undef, undef, undef, undef, undef, undef, undef, undef, undef, undef, undef, undef, undef, undef, undef, undef, undef], defers := [] })
        (fun _ _ _ _ _ _ _ hs _ _ => hs) ?assign ?body ?done ?stop)
      case assign =>
        rintro l2 pre x U K hi hK
        gi_wp2
        exact hK _ _ (KeepsFrom.refl _ _) (KeepC.refl _ _ _) hi rfl
      case stop => rintro D c pre U hD hS h hK; exact h.elim
      case body =>
        rintro l2 pre x a' U hU ⟨kv, vv, bk, bv, rk, rv, hst, hmv⟩ rfl hok
        have hpl : pre.length + 1 ≤ 4398046510976 := by have h1 := hok.length_le; rw [List.length_append] at h1; have h2 := fromK_len k L0; have := HLL.out; simp at h1; omega
        have hUs : V.heap.size ≤ U.heap.size := by omega
        have HPL := Lib.hid hpl
        have HUS := Lib.hid hUs
        have HBK := Lib.hid bk
        have HBV := Lib.hid bv
        have HRK := Lib.hid rk
        have HRV := Lib.hid rv
        have HST := Lib.hid hst
        have HMV := Lib.hid hmv
        have ck := bk.cell
        clear bk bv rk rv hst hmv hpl hUs hok hU
        have hq0 : wrap64 ((pre.length : Nat) : Int) = ((pre.length : Nat) : Int) := wrap64_id (by have := HPL.out; omega) (by have := HPL.out; omega)
        by_cases hlt2 : pre.length < ys.length
        · gi_wp2_with (first
          | (gi_at_builtin; refine wpIn_app_at eS (by decide) rfl (.tmp 53) (.tmp 55) rfl V.heap.size kv pre.length (keysV pre) [.string x.1] rfl _ rfl rfl rfl (by simp [Value.oneCell']) HRK.out HUS.out (by have := HPL.out; omega) (by have := HPL.out; omega) ?_; intro v1 u1 own1 hg1 hf1; obtain ⟨g1, c1, rfl⟩ := ownsRow_succ own1; obtain ⟨bk1, bk2, rk2, M1⟩ := box_app HBK.out (by decide) HRK.out own1 hg1; have d1 := bk1.cell; have e1 := bk1.frozen; have rv1 := own_mut HRV.out M1 (fun b hb h => h.elim (fun h => own_ne HRV.out HRK.out (by decide) hb h) (fun h => (HBK.out.not_row (by decide) HRV.out) (by rw [hb, h]))); have bv1 : Boxed _ (w2.heap.size + 1) 38 vv := boxed_mut HBV.out M1 (fun h => h.elim (fun h => (HBV.out.not_row (by decide) HRK.out) h.symm) (fun h => by omega)); have cv1 := bv1.cell; have HRV1 := Lib.hid rv1; have HBV1 := Lib.hid bv1; have HM1 := Lib.hid M1; have HRK2 := Lib.hid rk2; have HBK2 := Lib.hid bk2; have hs1 := M1.size; have HS1 := Lib.hid hs1; have HF1 := Lib.hid hf1; clear own1 hg1 bk1 bk2 rk2 M1 rv1 bv1 hs1 hf1)
          | (gi_at_builtin; refine wpIn_app_at eI (by decide) rfl (.tmp 57) (.tmp 59) rfl V.heap.size vv pre.length (intsV pre) [.int .i64 x.2] rfl u1.heap.size (by simp) rfl rfl (by simp [Value.oneCell']) HRV1.out (Nat.le_trans HUS.out HS1.out) (by have := HPL.out; omega) (by have := HPL.out; omega) ?_; intro v2 u2 own2 hg2 hf2; obtain ⟨g2, c2, rfl⟩ := ownsRow_succ own2; obtain ⟨bv3, bv4, rv4, M2⟩ := box_app HBV1.out (by decide) HRV1.out own2 hg2; have d2 := bv3.cell; have e2 := bv3.frozen; have HE := Lib.hid (app_end HNE.out (by omega) HMV.out HBK.out HBV.out HRK.out HRV.out HST.out HBK2.out HRK2.out HM1.out bv4 rv4 M2 HF1.out hf2); have HBV4 := Lib.hid bv4; have K1 := Lib.hid (col_keep (n₁ := V.heap.size) (T := T4 w1.heap.size (w1.heap.size + 1 + 1) (w2.heap.size) (w2.heap.size + 1)) (Nat.le_refl _) (.inr (.inr (.inl rfl))) (.inr (.inr (.inr rfl))) HBK.out HBV.out HRK.out HRV.out HE.out.1); have ck2 := HE.out.2.1.cell; have c42 := cell_of_blk (HE.out.2.2.2.2.2.blk HV4.out (by unfold T4; omega)) 0; clear own2 hg2 bv3 bv4 rv4 M2 hf2))
          have HU8 := Lib.hid (HE.out.2.2.2.2.2.blk HV8.out (by unfold T4; omega))
          have HU9 := Lib.hid (HE.out.2.2.2.2.2.blk HV9.out (by unfold T4; omega))
          have HWU := Lib.hid (srtI.below_of_mut HWV.out HE.out.2.2.2.2.2 (fun b h => by unfold T4 at h; omega))
          obtain ⟨b, o, rfl, _, k0, k1, k2⟩ := (HY.out.below HWU.out).at_ hlt2
          have hkk := HY.out.2.1 _ (List.getElem_mem hlt2)
          have hll := runK_take_len L0 ys pre.length
          have HRT := Lib.hid (runK_take L0 ys hlt2)
          generalize ys[pre.length] = a at *
          have HD := Lib.hid (fun W (h : St (B4 (w1.heap.size) (w1.heap.size + 1 + 1) (w2.heap.size) (w2.heap.size + 1) (.slice (some ⟨g1, 0, none⟩) (pre.length + 1) c1) (.slice (some ⟨g2, 0, none⟩) (pre.length + 1) c2)) (w1.heap.size) (w1.heap.size + 1 + 1) (runK L0 (ys.take pre.length)) W) => does_any _ _ _ a.kind a.k a.v _ W h (by unfold okA at hkk; omega) (by have := HLL.out; have := HYL.out; omega))
          have y5 := cell_regrown c42
          clear ck ck2 d1 d2 e1 e2 cv1 c42 hkk hll
          generalize u2.setCell ⟨w2.heap.size + 1, 0, none⟩ (.slice (some ⟨g2, 0, none⟩) (pre.length + 1) c2) = U2 at *
          have y0 := cell_regrown k0
          have y1 := cell_regrown k1
          have y2 := cell_regrown k2
          have y3 := cell_regrown (cell_of_blk HU8.out 0)
          have y4 := cell_regrown (cell_of_blk HU9.out 0)
          clear k0 k1 k2
          refine wpIn_region_quiet_tail [_, _, _, _, _, _] _ (by rintro ⟨_, _, h⟩; exact h) (by kernel_rfl) (by kernel_rfl) (by kernel_rfl) (by kernel_rfl) (by kernel_rfl) (by kernel_rfl) (by kernel_rfl) ?_
          repeat (first | go_big_quiet_step (fail) | quiet_step (fail))
          refine wpQuiet_nil ?_
          intro _ hw'
          obtain ⟨⟨dq, osq⟩, hw''⟩ := hw'
          subst hw''
          have HBq := Lib.hid (below_regrown U2 dq osq)
          have HSq := Lib.hid (HE.out.2.2.2.2.1.below HBq.out)
          clear y0 y1 y2 y3 y4 y5
          generalize grow (redrawn U2 dq) osq = G at *
          go_wp2_with (go_at_call 17; refine (HD.out _ HSq.out).mono ?_; rintro e w4 ⟨rfl, hS4, hm4⟩; have HS4 := Lib.hid hS4; have Hm4 := Lib.hid hm4; clear hS4 hm4)
          have hKd := keepC_maps (n₀ := V.heap.size) (T := T4 (w1.heap.size) (w1.heap.size + 1 + 1) (w2.heap.size) (w2.heap.size + 1)) HSq.out (.inl rfl) (.inr (.inl rfl)) Hm4.out
          have hn := HNE.out
          refine ⟨((K1.out.2.trans (others_below HBq.out)).trans hKd.2).from _, (K1.out.1.trans (KeepC.below HBq.out)).trans hKd.1, .slice (some ⟨g1, 0, none⟩) (pre.length + 1) c1, .slice (some ⟨g2, 0, none⟩) (pre.length + 1) c2, ?_, ?_, ?_, ?_, ?_, ?_⟩
          · exact boxed_mut (block_below HBq.out HE.out.2.1) Hm4.out (by omega)
          · exact boxed_mut (block_below HBq.out HBV4.out) Hm4.out (by omega)
          · exact own_mut (own_mut HE.out.2.2.1 (Mut.of_below HBq.out (fun _ => False)) (fun _ _ h => h)) Hm4.out (fun b hb h => by have := (own_type HE.out.2.2.1 hb).1; omega)
          · exact own_mut (own_mut HE.out.2.2.2.1 (Mut.of_below HBq.out (fun _ => False)) (fun _ _ h => h)) Hm4.out (fun b hb h => by have := (own_type HE.out.2.2.2.1 hb).1; omega)
          · show St _ _ _ (runK L0 (ys.take (pre ++ [x]).length)) _
            rw [List.length_append, List.length_singleton, HRT.out]
            exact HS4.out
          · exact (mut_below HE.out.2.2.2.2.2 HBq.out).trans Hm4.out (fun g _ h => h.elim .inl (fun h => .inr (.inl h)))
        · gi_wp2_with (first
          | (gi_at_builtin; refine wpIn_app_at eS (by decide) rfl (.tmp 53) (.tmp 55) rfl V.heap.size kv pre.length (keysV pre) [.string x.1] rfl _ rfl rfl rfl (by simp [Value.oneCell']) HRK.out HUS.out (by have := HPL.out; omega) (by have := HPL.out; omega) ?_; intro v1 u1 own1 hg1 hf1; obtain ⟨g1, c1, rfl⟩ := ownsRow_succ own1; obtain ⟨bk1, bk2, rk2, M1⟩ := box_app HBK.out (by decide) HRK.out own1 hg1; have d1 := bk1.cell; have e1 := bk1.frozen; have rv1 := own_mut HRV.out M1 (fun b hb h => h.elim (fun h => own_ne HRV.out HRK.out (by decide) hb h) (fun h => (HBK.out.not_row (by decide) HRV.out) (by rw [hb, h]))); have bv1 : Boxed _ (w2.heap.size + 1) 38 vv := boxed_mut HBV.out M1 (fun h => h.elim (fun h => (HBV.out.not_row (by decide) HRK.out) h.symm) (fun h => by omega)); have cv1 := bv1.cell; have HRV1 := Lib.hid rv1; have HBV1 := Lib.hid bv1; have HM1 := Lib.hid M1; have HRK2 := Lib.hid rk2; have HBK2 := Lib.hid bk2; have hs1 := M1.size; have HS1 := Lib.hid hs1; have HF1 := Lib.hid hf1; clear own1 hg1 bk1 bk2 rk2 M1 rv1 bv1 hs1 hf1)
          | (gi_at_builtin; refine wpIn_app_at eI (by decide) rfl (.tmp 57) (.tmp 59) rfl V.heap.size vv pre.length (intsV pre) [.int .i64 x.2] rfl u1.heap.size (by simp) rfl rfl (by simp [Value.oneCell']) HRV1.out (Nat.le_trans HUS.out HS1.out) (by have := HPL.out; omega) (by have := HPL.out; omega) ?_; intro v2 u2 own2 hg2 hf2; obtain ⟨g2, c2, rfl⟩ := ownsRow_succ own2; obtain ⟨bv3, bv4, rv4, M2⟩ := box_app HBV1.out (by decide) HRV1.out own2 hg2; have d2 := bv3.cell; have e2 := bv3.frozen; have HE := Lib.hid (app_end HNE.out (by omega) HMV.out HBK.out HBV.out HRK.out HRV.out HST.out HBK2.out HRK2.out HM1.out bv4 rv4 M2 HF1.out hf2); have HBV4 := Lib.hid bv4; have K1 := Lib.hid (col_keep (n₁ := V.heap.size) (T := T4 w1.heap.size (w1.heap.size + 1 + 1) (w2.heap.size) (w2.heap.size + 1)) (Nat.le_refl _) (.inr (.inr (.inl rfl))) (.inr (.inr (.inr rfl))) HBK.out HBV.out HRK.out HRV.out HE.out.1); have ck2 := HE.out.2.1.cell; have c42 := cell_of_blk (HE.out.2.2.2.2.2.blk HV4.out (by unfold T4; omega)) 0; clear own2 hg2 bv3 bv4 rv4 M2 hf2))
          refine ⟨K1.out.2.from _, K1.out.1, _, _, HE.out.2.1, HBV4.out, HE.out.2.2.1, HE.out.2.2.2.1, ?_, HE.out.2.2.2.2.2⟩
          have h := HE.out.2.2.2.2.1
          rw [List.take_of_length_le (by omega)] at h
          show St _ _ _ (runK L0 (ys.take (pre ++ [x]).length)) _
          rw [List.length_append, List.length_singleton, List.take_of_length_le (by omega)]
          exact h
      case done =>
        rintro D pr U hD rfl ⟨kv, vv, bk, bv, rk, rv, hst, hmv⟩ hK
        obtain ⟨A1, c1, rfl, R1⟩ := rows_from rk
        obtain ⟨A2, c2, rfl, R2⟩ := rows_from rv
        have hLn := runK_take_len L0 ys (fromK k L0).length
        have hLn2 := runK_len L0 (ys.take (fromK k L0).length)
        have hLn3 := List.length_take_le' (fromK k L0).length ys
        generalize hL2d : runK L0 (ys.take (fromK k L0).length) = L2 at *
        have HL2 : Hid (L2.length ≤ 8796093021952) := Lib.hid (by have h1 := HLL.out; have h2 := HYL.out; omega)
        have HFL : Hid ((fromK k L0).length ≤ 8796093021952) := Lib.hid (by have h1 := HLL.out; have h2 := fromK_len k L0; omega)
        have hn := HNE.out
        have hal := Lib.hid (alike_true A1 A2 A4 A5 c1 c2 c4 c5 _ _ (-1) (fromK k L0) (fromK k L0) U (most_neg' _).symm (by have := HFL.out; omega) rfl rfl (R1.weaken (fun _ _ _ => trivial)) (R2.weaken (fun _ _ _ => trivial))
          ((HRA.out.mut hmv (fun g _ h ht => by unfold T4 at ht; omega)).weaken (fun _ _ _ => trivial)) ((HRB.out.mut hmv (fun g _ h ht => by unfold T4 at ht; omega)).weaken (fun _ _ _ => trivial)))
        have hst2 : St (B4 (w1.heap.size) (w1.heap.size + 1 + 1) (w2.heap.size) (w2.heap.size + 1) (.slice A1 (fromK k L0).length c1) (.slice A2 (fromK k L0).length c2)) (w1.heap.size) (w1.heap.size + 1 + 1) L2 U := by rw [← hL2d]; exact hst
        have HRG := Lib.hid (fun W (h : Below U.heap.size U W) => show Calls Try.prog 21 #[.pointer (some ⟨w1.heap.size + 1 + 1, 0, none⟩), .int .i64 2, .string k] W (RangedTo (fromK k L2) W) from by
          have h5 := range_any _ _ 5 k L2 W (hst2.below h).2.2.2 hks hst2.2.1 (by have := HL2.out; omega) hst2.rises 2 (by omega)
          rw [rangeK_5] at h5
          exact h5)
        have HST := Lib.hid hst2
        have HMV := Lib.hid hmv
        have HKD := Lib.hid hK
        have HBK := Lib.hid bk
        have HBV := Lib.hid bv
        have HU9 := Lib.hid (hmv.blk HV9.out (by unfold T4; omega))
        have HWU := Lib.hid (srtI.below_of_mut HWV.out hmv (fun b h => by unfold T4 at h; omega))
        have hVU : V.heap.size ≤ U.heap.size := hmv.size
        have cx := bk.cell
        have cy := bv.cell
        clear hLn hLn2 hLn3 hL2d hst hst2 hmv hK bk bv rk rv R1 R2
        go_wp2_with (first
          | (go_at_call 20; refine hal.out.mono ?_; rintro e w3 ⟨rfl, hb3⟩; have HB3 := Lib.hid hb3; have hs3 := hb3.size; have c9 := cell_of_blk (block_below hb3 HU9.out) 0; clear hb3 cx cy)
          | (go_at_call 21; refine (HRG.out _ HB3.out).mono ?_; rintro e w5 ⟨kv2, vv2, rfl, ok2, oi2, hb5⟩; obtain ⟨A6, c6, rfl, R6⟩ := rows_from ok2; obtain ⟨A7, c7, rfl, R7⟩ := rows_from oi2; have HB5 := Lib.hid (below2 HB3.out hb5); have HR6 := Lib.hid R6; have HR7 := Lib.hid R7; have d8 := cell_of_blk (block_below HB5.out HBK.out) 0; have d9 := cell_of_blk (block_below HB5.out HBV.out) 0; have e8 := frozen_of_blk (block_below HB5.out HBK.out) 0; have e9 := frozen_of_blk (block_below HB5.out HBV.out) 0; clear hb5 ok2 oi2 R6 R7 c9))
        clear d8 d9 e8 e9
        obtain ⟨M2, hb8, hb9⟩ := two_set (block_below HB5.out HBK.out) (block_below HB5.out HBV.out) (show w2.heap.size ≠ w2.heap.size + 1 by omega) (.slice none 0 0) (.slice none 0 0)
        generalize (w5.setCell ⟨w2.heap.size, 0, none⟩ (.slice none 0 0)).setCell ⟨w2.heap.size + 1, 0, none⟩ (.slice none 0 0) = V2 at *
        have hm2 : Mut (T4 (w1.heap.size) (w1.heap.size + 1 + 1) (w2.heap.size) (w2.heap.size + 1)) V V2 := (mut_below HMV.out HB5.out).trans M2 (fun g _ h => h.elim (fun h => .inr (.inr (.inl h))) (fun h => .inr (.inr (.inr h))))
        have hs5 := HB5.out.size
        have hs2 := M2.size
        have hno : ∀ g, ¬ (Value.slice none 0 0).ownBlock = some g := fun g h => by simp [Value.ownBlock] at h
        have HSV2 := Lib.hid (St.turn (B' := B4 (w1.heap.size) (w1.heap.size + 1 + 1) (w2.heap.size) (w2.heap.size + 1) (.slice none 0 0) (.slice none 0 0)) (HST.out.below HB5.out) M2 (fun g _ h => by
          rcases h with rfl | rfl
          · exact ⟨.inl (.inr (.inr (.inl rfl))), by omega, by omega⟩
          · exact ⟨.inl (.inr (.inr (.inr rfl))), by omega, by omega⟩) (.inl (.inl rfl)) (.inl (.inr (.inl rfl))) (fun g h => by
          rcases h with h | h | h
          · unfold T4 at h; omega
          · exact (hno g h).elim
          · exact (hno g h).elim) (fun g h => by
          rcases h with h | h | h
          · exact .inl (.inl h)
          · exact (hno g h).elim
          · exact (hno g h).elim))
        obtain ⟨Am2, cm2, hHm, hPm, hRm⟩ := HSV2.out.holds
        have hLm : LRow V2.heap.size (T4 (w1.heap.size) (w1.heap.size + 1 + 1) (w2.heap.size) (w2.heap.size + 1)) V2 Am2 L2.length cm2 L2 := ⟨hPm.1, hPm.2.weaken (fun g hg h => ⟨hg, fun ht => h (.inl ht)⟩)⟩
        have HSTP2 := Lib.hid (from_stops (some ⟨w1.heap.size, 0, none⟩) (w2.heap.size + 1 + 1) (w2.heap.size + 1 + 1 + 1 + 1) V2.heap.size (V2.heap.size + 2) (T4 (w1.heap.size) (w1.heap.size + 1 + 1) (w2.heap.size) (w2.heap.size + 1)) Am2 L2.length cm2 k L2 V2
          (hm2.cell HVV2.out (by show ¬ T4 _ _ _ _ (w2.heap.size + 1 + 1 + 1 + 1); unfold T4; omega)) (hm2.cell HVV0.out (by show ¬ T4 _ _ _ _ (w2.heap.size + 1 + 1); unfold T4; omega)) (hm2.cell HVV1.out (by show ¬ T4 _ _ _ _ (w2.heap.size + 1 + 1 + 1); unfold T4; omega)) hHm (by have := HL2.out; omega) hLm hRm)
        have HNE2 := Lib.hid (show (w1.heap.size) ≠ (w2.heap.size) ∧ (w1.heap.size) ≠ (w2.heap.size + 1) ∧ (w1.heap.size + 1 + 1) ≠ (w2.heap.size) ∧ (w1.heap.size + 1 + 1) ≠ (w2.heap.size + 1) ∧ (w2.heap.size) < V2.heap.size ∧ (w2.heap.size + 1) < V2.heap.size ∧ (w1.heap.size) < V2.heap.size ∧ (w1.heap.size + 1 + 1) < V2.heap.size by omega)
        have HBX2 := Lib.hid hb8
        have HBY2 := Lib.hid hb9
        have HWV2 := Lib.hid (srtI.below_of_mut HWV.out hm2 (fun b h => by unfold T4 at h; omega))
        have HRC := Lib.hid (HR6.out.mut M2 (fun g _ h ht => by have h1 : w3.heap.size ≤ g := h; omega))
        have HRD := Lib.hid (HR7.out.mut M2 (fun g _ h ht => by have h1 : w3.heap.size ≤ g := h; omega))
        have HKD2 := Lib.hid (M2.blk (block_below HB5.out HKD.out) (by omega))
        have hDl : D < V2.heap.size := lt_of_blk HKD2.out
        clear hm2 hb8 hb9 hno hHm hPm hRm hLm M2
        refine (wpIn_wide (n := 0)).1 (range_law (P := Try.prog) (gf := 50) (lb := #[.pointer (some ⟨w2.heap.size + 1 + 1 + 1 + 1, 0, none⟩)]) (by first | rfl | simp) (enters_of Try.func50 (by kernel_rfl) rfl)
          HSTP2.out (fun h k => h.trans k) (fun W r o h => KeepC.turn W r o h) (fun _ => rfl)
          (fun pre U => InvS V2 (w1.heap.size) (w1.heap.size + 1 + 1) (w2.heap.size) (w2.heap.size + 1) (fun _ => L2) pre U)
          (fun _ _ _ => False)
          (inv_own V2 (w1.heap.size) (w1.heap.size + 1 + 1) (w2.heap.size) (w2.heap.size + 1) _)
          (fun _ _ _ _ _ hs _ _ => hs)
          ⟨_, _, HBX2.out, HBY2.out, own_nil _ _ _ _, own_nil _ _ _ _, HSV2.out, Mut.refl _ _⟩
          (fun _ x a' _ => a' = { tmps := #[.slice A xs.length c, .slice A' ys.length c', .string k, undef, .pointer (some ⟨w.heap.size, 0, none⟩), undef, .bool false, .bool true, .pointer (some ⟨w1.heap.size + 1, 0, none⟩), .pointer (some ⟨w1.heap.size + 1 + 1 + 1, 0, none⟩), .int .i64 xs.length, .slice A6 (fromK k L2).length c6, .slice A7 (fromK k L2).length c7, .pointer (some ⟨w2.heap.size, 0, none⟩), .pointer (some ⟨w2.heap.size + 1, 0, none⟩), .func (.func 50) #[] #[.pointer (some ⟨w2.heap.size + 1 + 1 + 1 + 1, 0, none⟩)], undef, undef, undef, .bool true, .string x.1, .int .i64 x.2, .bool true, .pointer (some ⟨w1.heap.size, 0, none⟩), .agg #[.slice none 0 0, .slice none 0 0], .pointer (some ⟨w1.heap.size + 1 + 1, 0, none⟩), .bool true, .bool false, .int .i64 xs.length, .slice A xs.length c, .int .i64 xs.length, .bool false, u32, u33, u34, u35, u36, u37, u38, u39, u40, .tuple #[.slice A4 (fromK k L0).length c4, .slice A5 (fromK k L0).length c5], .pointer (some ⟨w1.heap.size + 1 + 1, 0, none⟩), .string k, .tuple #[.slice A4 (fromK k L0).length c4, .slice A5 (fromK k L0).length c5], .slice A4 (fromK k L0).length c4, .slice A5 (fromK k L0).length c5, .pointer (some ⟨w1.heap.size, 0, none⟩), .string k, .func (.func 50) #[] #[.pointer (some ⟨w2.heap.size + 1 + 1 + 1 + 1, 0, none⟩)], .func (.func 50) #[] #[.pointer (some ⟨w2.heap.size + 1 + 1 + 1 + 1, 0, none⟩)], undef, undef, undef, undef, undef, undef, undef, undef, undef, undef, undef, undef, undef, undef, undef, undef, undef, undef, undef, undef, undef, undef, undef, undef, .slice A1 (fromK k L0).length c1, .slice A2 (fromK k L0).length c2, .slice A4 (fromK k L0).length c4, .slice A5 (fromK k L0).length c5, .bool true, .tuple #[.slice A6 (fromK k L2).length c6, .slice A7 (fromK k L2).length c7], .pointer (some ⟨w1.heap.size + 1 + 1, 0, none⟩), .string k, .tuple #[.slice A6 (fromK k L2).length c6, .slice A7 (fromK k L2).length c7], .slice A6 (fromK k L2).length c6, .slice A7 (fromK k L2).length c7, .func (.func 50) #[] #[.pointer (some ⟨w2.heap.size + 1 + 1 + 1 + 1, 0, none⟩)], .string x.1, .int .i64 x.2, undef, undef, undef, undef, undef, undef, undef, undef, undef, undef, undef, undef, undef, undef, undef, undef], defers := [] })
          (fun _ _ _ _ _ _ _ hs _ _ => hs) ?assign ?body ?done ?stop)
        case assign =>
          rintro l2 pre x U K hi hK
          gi_wp2
          exact hK _ _ (KeepsFrom.refl _ _) (KeepC.refl _ _ _) hi rfl
        case stop => rintro D c pre U hD hS h hK; exact h.elim
        case body =>
          rintro l2 pre x a' W hW ⟨kv, vv, bk, bv, rk, rv, hst, hmv⟩ rfl hok
          have hpl : pre.length + 1 ≤ 8796093021952 := by have h1 := hok.length_le; rw [List.length_append] at h1; have h2 := fromK_len k L2; have := HL2.out; simp at h1; omega
          have hUs : V2.heap.size ≤ W.heap.size := by omega
          have HPL := Lib.hid hpl
          have HUS := Lib.hid hUs
          have HBK := Lib.hid bk
          have HBV := Lib.hid bv
          have HRK := Lib.hid rk
          have HRV := Lib.hid rv
          have HST := Lib.hid hst
          have HMV := Lib.hid hmv
          have ck := bk.cell
          clear bk bv rk rv hst hmv hpl hUs hok hW
          gi_wp2_with (first
          | (gi_at_builtin; refine wpIn_app_at eS (by decide) rfl (.tmp 89) (.tmp 91) rfl V2.heap.size kv pre.length (keysV pre) [.string x.1] rfl _ rfl rfl rfl (by simp [Value.oneCell']) HRK.out HUS.out (by have := HPL.out; omega) (by have := HPL.out; omega) ?_; intro v1 u1 own1 hg1 hf1; obtain ⟨g1, c1, rfl⟩ := ownsRow_succ own1; obtain ⟨bk1, bk2, rk2, M1⟩ := box_app HBK.out (by decide) HRK.out own1 hg1; have d1 := bk1.cell; have e1 := bk1.frozen; have rv1 := own_mut HRV.out M1 (fun b hb h => h.elim (fun h => own_ne HRV.out HRK.out (by decide) hb h) (fun h => (HBK.out.not_row (by decide) HRV.out) (by rw [hb, h]))); have bv1 : Boxed _ (w2.heap.size + 1) 38 vv := boxed_mut HBV.out M1 (fun h => h.elim (fun h => (HBV.out.not_row (by decide) HRK.out) h.symm) (fun h => by omega)); have cv1 := bv1.cell; have HRV1 := Lib.hid rv1; have HBV1 := Lib.hid bv1; have HM1 := Lib.hid M1; have HRK2 := Lib.hid rk2; have HBK2 := Lib.hid bk2; have hs1 := M1.size; have HS1 := Lib.hid hs1; have HF1 := Lib.hid hf1; clear own1 hg1 bk1 bk2 rk2 M1 rv1 bv1 hs1 hf1)
          | (gi_at_builtin; refine wpIn_app_at eI (by decide) rfl (.tmp 93) (.tmp 95) rfl V2.heap.size vv pre.length (intsV pre) [.int .i64 x.2] rfl u1.heap.size (by simp) rfl rfl (by simp [Value.oneCell']) HRV1.out (Nat.le_trans HUS.out HS1.out) (by have := HPL.out; omega) (by have := HPL.out; omega) ?_; intro v2 u2 own2 hg2 hf2; obtain ⟨g2, c2, rfl⟩ := ownsRow_succ own2; obtain ⟨bv3, bv4, rv4, M2⟩ := box_app HBV1.out (by decide) HRV1.out own2 hg2; have d2 := bv3.cell; have e2 := bv3.frozen; have HE := Lib.hid (app_end HNE2.out (by omega) HMV.out HBK.out HBV.out HRK.out HRV.out HST.out HBK2.out HRK2.out HM1.out bv4 rv4 M2 HF1.out hf2); have HBV4 := Lib.hid bv4; have K1 := Lib.hid (col_keep (n₁ := V2.heap.size) (T := T4 w1.heap.size (w1.heap.size + 1 + 1) (w2.heap.size) (w2.heap.size + 1)) (Nat.le_refl _) (.inr (.inr (.inl rfl))) (.inr (.inr (.inr rfl))) HBK.out HBV.out HRK.out HRV.out HE.out.1); have ck2 := HE.out.2.1.cell; clear own2 hg2 bv3 bv4 rv4 M2 hf2))
          exact ⟨K1.out.2.from _, K1.out.1, _, _, HE.out.2.1, HBV4.out, HE.out.2.2.1, HE.out.2.2.2.1, HE.out.2.2.2.2.1, HE.out.2.2.2.2.2⟩
        case done =>
          rintro D2 pr2 W hD2 rfl ⟨kv, vv, bk, bv, rk, rv, hst2, hmv2⟩ hK2
          obtain ⟨A8, c8, rfl, R8⟩ := rows_from rk
          obtain ⟨A9, c9, rfl, R9⟩ := rows_from rv
          have hal2 := Lib.hid (alike_true A8 A9 A6 A7 c8 c9 c6 c7 _ _ (-1) (fromK k L2) (fromK k L2) W (most_neg' _).symm (by have h1 := HL2.out; have h2 := fromK_len k L2; omega) rfl rfl (R8.weaken (fun _ _ _ => trivial)) (R9.weaken (fun _ _ _ => trivial))
            ((HRC.out.mut hmv2 (fun g _ h ht => by have h1 : w3.heap.size ≤ g := h; unfold T4 at ht; omega)).weaken (fun _ _ _ => trivial)) ((HRD.out.mut hmv2 (fun g _ h ht => by have h1 : w3.heap.size ≤ g := h; unfold T4 at ht; omega)).weaken (fun _ _ _ => trivial)))
          have HKE2 := Lib.hid hK2
          have HKE1 := Lib.hid (hmv2.blk HKD2.out (by unfold T4; omega))
          have HWW := Lib.hid (srtI.below_of_mut HWV2.out hmv2 (fun b h => by unfold T4 at h; omega))
          have hwv2 := HWV2.out.size
          have cx := bk.cell
          have cy := bv.cell
          clear hst2 hmv2 hK2 bk bv rk rv R8 R9
          go_wp2_with (go_at_call 20; refine hal2.out.mono ?_; rintro e w6 ⟨rfl, hb6⟩; have HB6 := Lib.hid hb6; clear hb6)
          have hK6 := block_below HB6.out HKE2.out
          have hK1 := block_below HB6.out HKE1.out
          have g1 : (w6.putObj D2 (.deferred none)).heap[D]? = some (.deferred (some [])) := (World.putObj_heap_other (by omega)).trans hK1
          refine ⟨by simp, .inl ⟨_, _, rfl, run_takeDeferred hK6, ?_⟩⟩
          refine ⟨by simp, .inl ⟨_, _, rfl, run_takeDeferred g1, ?_⟩⟩
          refine ⟨_, results_tmp rfl _ _ _, rfl, ?_⟩
          exact ((below2 HWW.out HB6.out).trans (belowK_b (w := w) (Nat.le_refl _) w6 D2 _ _ (by omega) hK6 rfl rfl)).trans (belowK_b (w := w) (Nat.le_refl _) _ D _ _ (by omega) g1 rfl rfl)

end Go.Proofs.Ytncgcjfpoableaa
