/-
  The walks of the law's ranged: the keys and values that a range tells, as many as are asked for.
-/
import Derived.Test.YtncgcjfpoableaaSrtQ
import Derived.BigRegionIn
set_option linter.unusedVariables false
set_option linter.unusedSimpArgs false
namespace Go.Proofs.Ytncgcjfpoableaa.srtI
open Go Go.RowKit Go.Shelf Go.Proofs.Base
attribute [local go_sem] Oper.semAt_some
def RangedTo (L : List (KV Int)) (w : World) (e : Ending) (w' : World) : Prop :=
  ∃ kv vv, e = .returned (.tuple #[kv, vv]) ∧ w'.ownsRow w.heap.size 9 1 kv L.length (keysV L) ∧ w'.ownsRow w.heap.size 3 1 vv L.length (intsV L) ∧ Below w.heap.size w w'
/-- the world in which a range is made -/
def boxW (p : Option Addr) (most : Int) (w : World) : World :=
  (((w.alloc (.cells #[.int .i64 most] 3)).alloc (.cells #[.slice none 0 0] 22)).alloc (.cells #[.slice none 0 0] 38)).alloc (.cells #[.func (.func 37) #[.pointer p] #[]] 71)
theorem boxW_below (p : Option Addr) (most : Int) (w : World) : Below w.heap.size w (boxW p most w) := below_alloc (below_alloc (below_alloc (below_alloc (Below.refl _ _) _) _) _) _
theorem boxW_size (p : Option Addr) (most : Int) (w : World) : (boxW p most w).heap.size = w.heap.size + 1 + 1 + 1 + 1 := by simp [boxW]
theorem boxW_0 (p : Option Addr) (most : Int) (w : World) : Boxed (boxW p most w) w.heap.size 3 (.int .i64 most) := (((Boxed.new w _ _).alloc _).alloc _).alloc _
theorem boxW_1 (p : Option Addr) (most : Int) (w : World) : Boxed (boxW p most w) (w.heap.size + 1) 22 (.slice none 0 0) := by
  have h := ((Boxed.new (w.alloc (.cells #[.int .i64 most] 3)) 22 (.slice none 0 0)).alloc (.cells #[.slice none 0 0] 38)).alloc (.cells #[.func (.func 37) #[.pointer p] #[]] 71)
  rwa [World.size_alloc] at h
theorem boxW_2 (p : Option Addr) (most : Int) (w : World) : Boxed (boxW p most w) (w.heap.size + 1 + 1) 38 (.slice none 0 0) := by
  have h := (Boxed.new ((w.alloc (.cells #[.int .i64 most] 3)).alloc (.cells #[.slice none 0 0] 22)) 38 (.slice none 0 0)).alloc (.cells #[.func (.func 37) #[.pointer p] #[]] 71)
  rwa [World.size_alloc, World.size_alloc] at h
theorem boxW_3 (p : Option Addr) (most : Int) (w : World) : Boxed (boxW p most w) (w.heap.size + 1 + 1 + 1) 71 (.func (.func 37) #[.pointer p] #[]) := by
  have h := Boxed.new (((w.alloc (.cells #[.int .i64 most] 3)).alloc (.cells #[.slice none 0 0] 22)).alloc (.cells #[.slice none 0 0] 38)) 71 (.func (.func 37) #[.pointer p] #[])
  rwa [World.size_alloc, World.size_alloc, World.size_alloc] at h
theorem fromW_below (p : Option Addr) (k : ByteArray) (Y : World) : Below Y.heap.size Y (fromW p k Y) := below_alloc (below_alloc (below_alloc (Below.refl _ _) _) _) _
theorem fromW_size (p : Option Addr) (k : ByteArray) (Y : World) : (fromW p k Y).heap.size = Y.heap.size + 3 := by simp [fromW]
theorem fromW_0 (p : Option Addr) (k : ByteArray) (Y : World) : (fromW p k Y).cell? ⟨Y.heap.size, 0, none⟩ = some (.pointer p) := by
  have := cell_of_blk (heap_alloc_new Y (.cells #[.pointer p] 35)) 0
  exact cell_below (below_alloc (below_alloc (Below.refl _ _) _) _) (by simp)
theorem fromW_1 (p : Option Addr) (k : ByteArray) (Y : World) : (fromW p k Y).cell? ⟨Y.heap.size + 1, 0, none⟩ = some (.string k) := by
  have := cell_of_blk (heap_alloc_new (Y.alloc (.cells #[.pointer p] 35)) (.cells #[.string k] 9)) 0
  exact cell_below (below_alloc (Below.refl _ _) _) (by simp)
theorem fromW_2 (p : Option Addr) (k : ByteArray) (Y : World) : (fromW p k Y).cell? ⟨Y.heap.size + 1 + 1, 0, none⟩ = some (fromFv Y.heap.size) := by
  have := cell_of_blk (heap_alloc_new ((Y.alloc (.cells #[.pointer p] 35)).alloc (.cells #[.string k] 9)) (.cells #[fromFv Y.heap.size] 71)) 0
  simpa [fromW] using this
theorem underW_below (p : Option Addr) (k : ByteArray) (Y : World) : Below Y.heap.size Y (underW p k Y) := below_alloc (below_alloc (Below.refl _ _) _) _
theorem underW_0 (p : Option Addr) (k : ByteArray) (Y : World) : (underW p k Y).cell? ⟨Y.heap.size, 0, none⟩ = some (.pointer p) := by
  have := cell_of_blk (heap_alloc_new Y (.cells #[.pointer p] 35)) 0
  exact cell_below (below_alloc (Below.refl _ _) _) (by simp)
theorem underW_1 (p : Option Addr) (k : ByteArray) (Y : World) : (underW p k Y).heap[Y.heap.size + 1]? = some (.cells #[.string k] 9 (0, 0)) := by
  have := heap_alloc_new (Y.alloc (.cells #[.pointer p] 35)) (.cells #[.string k] 9)
  rwa [World.size_alloc] at this
theorem PRow.to_L {S T : Nat → Prop} {w V : World} {A : Option Addr} {m c n₀ : Nat} {l : List (KV Int)} (h : PRow w S A m c l) (hb : Below w.heap.size w V) (hn : w.heap.size ≤ n₀) (hT : ∀ b, T b → w.heap.size ≤ b) : LRow n₀ T V A m c l := by
  refine ⟨h.1, (h.2.weaken (S' := fun g => g < w.heap.size) (fun b hb _ => hb)).keep (fun b hlt _ => hb.block b hlt) (fun b hlt h2 => ⟨by omega, fun h3 => by have := hT b h3; omega⟩) hb.size⟩
theorem most_all {α : Type} {most : Int} {L : List α} (h : 0 < most → (L.length : Int) < most) (h0 : most ≠ 0) : mostK most L = L := by
  unfold mostK
  split
  · rfl
  · rw [List.take_of_length_le]; have := h (by omega); omega
theorem most_some {α : Type} {most : Int} {L pre : List α} (hp : pre <+: L) (h : (pre.length : Int) = most) : mostK most L = pre := by
  unfold mostK
  rw [if_neg (by omega)]
  have : most.toNat = pre.length := by omega
  rw [this]
  exact (List.prefix_iff_eq_take.1 hp).symm
theorem mostK_zero {α : Type} (L : List α) : mostK 0 L = [] := by unfold mostK; simp
set_option maxRecDepth 100000 in
set_option maxHeartbeats 4000000 in
theorem ranged_4 (S : Nat → Prop) (p A : Option Addr) (m c : Nat) (kind : Int) (h5 : kind ≠ 5) (h6 : kind ≠ 6) (h7 : kind ≠ 7) (most : Int) (k : ByteArray) (l : List (KV Int)) (w : World) (h : Holds w p (.slice A m c)) (hr : PRow w S A m c l) (hs : Rises l) (hm : m ≤ 8796093022208) :
    Calls Try.prog 19 #[.pointer p, .int .i64 kind, .string k, .int .i64 most] w (RangedTo (mostK most (l)) w) := by
  have q5 := beq_f h5
  have q6 := beq_f h6
  have q7 := beq_f h7
  have hka : kind = kind := rfl
  clear h5 h6 h7
  have hNl : l.length ≤ l.length := by first | exact Nat.le_refl _ | (unfold fromK; rw [List.length_drop]; omega) | (unfold underK; refine Nat.le_trans (List.takeWhile_prefix _).length_le ?_; unfold fromK; rw [List.length_drop]; omega)
  have hlm : l.length ≤ 8796093022208 := by rw [hr.1]; exact hm
  have HNL := Lib.hid hNl
  have HLM := Lib.hid hlm
  obtain ⟨Y, hYd⟩ : ∃ Y, Y = boxW p most w := ⟨_, rfl⟩
  have HY := Lib.hid hYd
  have by0 : Boxed Y w.heap.size 3 (.int .i64 most) := by rw [hYd]; exact boxW_0 p most w
  have by1 : Boxed Y (w.heap.size + 1) 22 (.slice none 0 0) := by rw [hYd]; exact boxW_1 p most w
  have by2 : Boxed Y (w.heap.size + 1 + 1) 38 (.slice none 0 0) := by rw [hYd]; exact boxW_2 p most w
  have by3 : Boxed Y (w.heap.size + 1 + 1 + 1) 71 (.func (.func 37) #[.pointer p] #[]) := by rw [hYd]; exact boxW_3 p most w
  have hyB : Below w.heap.size w Y := by rw [hYd]; exact boxW_below p most w
  have hyS : Y.heap.size = w.heap.size + 1 + 1 + 1 + 1 := by rw [hYd]; exact boxW_size p most w
  clear hYd
  have HYV := Lib.hid (show Below Y.heap.size Y Y from Below.refl _ _)
  obtain ⟨V, hVd⟩ : ∃ V, V = Y := ⟨_, rfl⟩
  have HV := Lib.hid hVd
  have hvB : Below Y.heap.size Y V := by rw [hVd]; exact HYV.out
  have hwV : Below w.heap.size w V := below2 hyB hvB
  have b0 : Boxed V w.heap.size 3 (.int .i64 most) := block_below hvB by0
  have b1 : Boxed V (w.heap.size + 1) 22 (.slice none 0 0) := block_below hvB by1
  have b2 : Boxed V (w.heap.size + 1 + 1) 38 (.slice none 0 0) := block_below hvB by2
  have hvs : Y.heap.size ≤ V.heap.size := hvB.size
  have hrow : LRow V.heap.size (fun b => b = w.heap.size + 1 ∨ b = w.heap.size + 1 + 1) V A m c l := hr.to_L hwV hwV.size (fun b h => by omega)
  have hstop := Lib.hid (all_stops p (w.heap.size + 1 + 1 + 1) V.heap.size (V.heap.size + 2) (fun b => b = w.heap.size + 1 ∨ b = w.heap.size + 1 + 1) A m c l V (block_below hvB by3 |> (cell_of_blk · 0)) (h.below hwV) hrow)
  have HB := Lib.hid hwV
  have c0 := b0.cell
  have HB1 := Lib.hid b1
  have HB2 := Lib.hid b2
  have HB0 := Lib.hid b0
  have HYS := Lib.hid hyS
  have HN0 : Hid (w.heap.size + 1 ≤ V.heap.size) := Lib.hid (by omega)
  clear h hr hs hrow by1 by2 by3 hwV b0 b1 b2 hVd hyB hvB by0 hyS
  by_cases hm0 : most = 0
  · subst hm0
    refine (callsIn_wide (n := 0)).1 (callsIn_of_wp_marks Try.func19 rfl trivial ?_ rfl)
    simp only [Try.ntmps19, List.size_toArray, List.length_cons, List.length_nil, Nat.reduceAdd, Nat.reduceSub, Array.replicate_succ, Array.replicate_zero, List.push_toArray, List.append_toArray, List.nil_append, List.cons_append]
    gi_wp2
    refine ⟨trivial, rfl, (callsIn_wide.2 (all_any p _)).mono ?_⟩
    rintro e Z ⟨rfl, hZ⟩
    obtain rfl : Z = Y := hZ.trans HY.out.symm
    clear hZ
    obtain rfl : V = Z := HV.out
    gi_wp2
    exact ⟨_, results_tmp2 rfl _ _ _, _, _, rfl, by rw [mostK_zero]; exact own_nil _ _ _ _, by rw [mostK_zero]; exact own_nil _ _ _ _, HB.out⟩
  · have qm := beq_f hm0
    have HM0 := Lib.hid hm0
    clear hm0
    refine (callsIn_wide (n := 0)).1 (callsIn_of_wp_marks Try.func19 rfl trivial ?_ rfl)
    simp only [Try.ntmps19, List.size_toArray, List.length_cons, List.length_nil, Nat.reduceAdd, Nat.reduceSub, Array.replicate_succ, Array.replicate_zero, List.push_toArray, List.append_toArray, List.nil_append, List.cons_append]
    gi_wp2
    refine ⟨trivial, rfl, (callsIn_wide.2 (all_any p _)).mono ?_⟩
    rintro e Z ⟨rfl, hZ⟩
    obtain rfl : Z = Y := hZ.trans HY.out.symm
    clear hZ
    obtain rfl : V = Z := HV.out
    gi_wp2
    clear c0
    refine range_law (P := Try.prog) (gf := 50) (lb := #[.pointer (some ⟨w.heap.size + 1 + 1 + 1, 0, none⟩)]) (by first | rfl | simp) (enters_of Try.func50 (by kernel_rfl) rfl)
      hstop.out (fun h k => h.trans k) (fun W r o h => KeepC.turn W r o h) (fun _ => rfl)
      (fun pre U => Col V.heap.size (w.heap.size + 1) (w.heap.size + 1 + 1) pre U ∧ (0 < most → (pre.length : Int) < most) ∧ U.heap[w.heap.size]? = some (.cells #[.int .i64 most] 3 (0, 0)) ∧ Below w.heap.size w U)
      (fun c pre U => c = .exit 1 ∧ (pre.length : Int) = most ∧ Col V.heap.size (w.heap.size + 1) (w.heap.size + 1 + 1) pre U ∧ Below w.heap.size w U)
      (OwnFrom.and (Col.own _ _ _ _) (OwnFrom.and (ownFrom_pure _ _) (OwnFrom.and (ownFrom_blk _ _ _ _) (ownFrom_below (Nat.le_refl _) HB.out.size))))
      (fun c => OwnFrom.and (fun _ _ _ _ hs _ _ => hs) (OwnFrom.and (ownFrom_pure _ _) (OwnFrom.and (Col.own _ _ _ _) (ownFrom_below (Nat.le_refl _) HB.out.size))))
      ⟨⟨⟨_, HB1.out, own_nil _ _ _ _, trivial⟩, ⟨_, HB2.out, own_nil _ _ _ _, trivial⟩⟩, (fun h => h), HB0.out, HB.out⟩
      (fun _ x a' _ => a' = { tmps := #[.pointer p, .int .i64 kind, .string k, .int .i64 most, undef, undef, undef, .pointer (some ⟨w.heap.size, 0, none⟩), .slice none 0 0, .slice none 0 0, .pointer (some ⟨w.heap.size + 1, 0, none⟩), .pointer (some ⟨w.heap.size + 1 + 1, 0, none⟩), .func (.func 50) #[] #[.pointer (some ⟨w.heap.size + 1 + 1 + 1, 0, none⟩)], .string x.1, .int .i64 x.2, .pointer p, .func (.func 50) #[] #[.pointer (some ⟨w.heap.size + 1 + 1 + 1, 0, none⟩)], .int .i64 kind, .bool false, .bool false, undef, undef, undef, .bool false, .bool false, undef, undef, .bool false, .bool false, undef, undef, undef, .int .i64 most, .bool false, .func (.func 50) #[] #[.pointer (some ⟨w.heap.size + 1 + 1 + 1, 0, none⟩)], .string x.1, .int .i64 x.2, undef, undef, undef, undef, undef, undef, undef, undef, undef, undef, undef, undef, undef, undef], defers := [] })
      (fun _ _ _ _ _ _ _ hs _ _ => hs)
      ?assign ?body ?done ?stop
    case assign =>
      rintro l2 pre x U K hi hK
      gi_wp2
      exact hK _ _ (KeepsFrom.refl _ _) (KeepC.refl _ _ _) hi (by first | rfl | simp)
    case body =>
      rintro l2 pre x a' U hU ⟨⟨⟨kv, bk, rk, -⟩, vv, bv, rv, -⟩, hlt, hb0, hBU⟩ rfl hlen
      have hpl : pre.length + 1 ≤ 8796093022208 := by have h1 := hlen.length_le; rw [List.length_append] at h1; have := HNL.out; have := HLM.out; simp at h1; omega
      have hUs : V.heap.size ≤ U.heap.size := by omega
      have HBK := Lib.hid bk
      have HBV := Lib.hid bv
      have HRK := Lib.hid rk
      have HRV := Lib.hid rv
      have HB0U := Lib.hid hb0
      have HBU := Lib.hid hBU
      have HLT := Lib.hid hlt
      have HUS := Lib.hid hUs
      have HPL := Lib.hid hpl
      have ck := bk.cell
      clear bk bv rk rv hb0 hBU hlt hUs hpl hlen hU
      by_cases hq : ((pre.length : Int) + 1) = most
      · have hq1 : ((pre.length : Int) + 1 == most) = true := beq_t hq
        have HQ := Lib.hid hq
        clear hq
        gi_wp2_with (first
          | (gi_at_builtin; refine wpIn_app eS (by decide) rfl (.tmp 37) (.tmp 39) rfl V.heap.size kv pre.length (keysV pre) [.string x.1] rfl _ rfl rfl rfl (by simp [Value.oneCell']) HRK.out HUS.out (by have := HPL.out; omega) (by have := HPL.out; omega) ?_; intro v1 w1 own1 hg1; obtain ⟨g1, c1, rfl⟩ := ownsRow_succ own1; obtain ⟨bk1, bk2, rk2, M1⟩ := box_app HBK.out (by decide) HRK.out own1 hg1; have d1 := bk1.cell; have f1 := bk1.frozen; have rv1 := own_mut HRV.out M1 (fun b hb h => h.elim (fun h => own_ne HRV.out HRK.out (by decide) hb h) (fun h => (HBK.out.not_row (by decide) HRV.out) (by rw [hb, h]))); have bv1 : Boxed _ (w.heap.size + 1 + 1) 38 vv := boxed_mut HBV.out M1 (fun h => h.elim (fun h => (HBV.out.not_row (by decide) HRK.out) h.symm) (fun h => by omega)); have cv1 := bv1.cell; have HRV1 := Lib.hid rv1; have HBV1 := Lib.hid bv1; have HM1 := Lib.hid M1; have HRK2 := Lib.hid rk2; have HBK2 := Lib.hid bk2; have hs1 := M1.size; have HS1 := Lib.hid hs1; clear own1 hg1 bk1 bk2 rk2 M1 rv1 bv1 hs1)
          | (gi_at_builtin; refine wpIn_app eI (by decide) rfl (.tmp 41) (.tmp 43) rfl V.heap.size vv pre.length (intsV pre) [.int .i64 x.2] rfl w1.heap.size (by simp) rfl rfl (by simp [Value.oneCell']) HRV1.out (Nat.le_trans HUS.out HS1.out) (by have := HPL.out; omega) (by have := HPL.out; omega) ?_; intro v2 w2 own2 hg2; obtain ⟨g2, c2, rfl⟩ := ownsRow_succ own2; obtain ⟨bv3, bv4, rv4, M2⟩ := box_app HBV1.out (by decide) HRV1.out own2 hg2; have d2 := bv3.cell; have f2 := bv3.frozen; have HE := col_end (n₁ := 0) (by omega) HBK.out HBV.out HRK.out HRV.out HBK2.out HRK2.out HM1.out bv4 rv4 M2; have K1 := col_keep (n₁ := V.heap.size) (T := fun b => b = w.heap.size + 1 ∨ b = w.heap.size + 1 + 1) (Nat.le_refl _) (.inl rfl) (.inr rfl) HBK.out HBV.out HRK.out HRV.out HE.1; have ck2 := HE.2.1.cell; have BE0 : _ = some (Obj.cells #[Value.int .i64 most] 3 (0, 0)) := HE.1.blk HB0U.out (fun h => by have := col_far HRK.out HRV.out HN0.out (Nat.le_refl _) (by omega) h; omega); have c02 := cell_of_blk BE0 0; have HBE := below_of_mut HBU.out HE.1 (fun b h => col_far HRK.out HRV.out (Nat.le_of_succ_le HN0.out) (by omega) (by omega) h); clear own2 hg2 bv3 bv4 rv4 M2))
        · exact ⟨(K1.2.from _), rfl, by rw [List.length_append]; have := HQ.out; simpa using this, HE.2.2, HBE⟩
      · have hq1 : ((pre.length : Int) + 1 == most) = false := beq_f hq
        have HQ := Lib.hid hq
        clear hq
        gi_wp2_with (first
          | (gi_at_builtin; refine wpIn_app eS (by decide) rfl (.tmp 37) (.tmp 39) rfl V.heap.size kv pre.length (keysV pre) [.string x.1] rfl _ rfl rfl rfl (by simp [Value.oneCell']) HRK.out HUS.out (by have := HPL.out; omega) (by have := HPL.out; omega) ?_; intro v1 w1 own1 hg1; obtain ⟨g1, c1, rfl⟩ := ownsRow_succ own1; obtain ⟨bk1, bk2, rk2, M1⟩ := box_app HBK.out (by decide) HRK.out own1 hg1; have d1 := bk1.cell; have f1 := bk1.frozen; have rv1 := own_mut HRV.out M1 (fun b hb h => h.elim (fun h => own_ne HRV.out HRK.out (by decide) hb h) (fun h => (HBK.out.not_row (by decide) HRV.out) (by rw [hb, h]))); have bv1 : Boxed _ (w.heap.size + 1 + 1) 38 vv := boxed_mut HBV.out M1 (fun h => h.elim (fun h => (HBV.out.not_row (by decide) HRK.out) h.symm) (fun h => by omega)); have cv1 := bv1.cell; have HRV1 := Lib.hid rv1; have HBV1 := Lib.hid bv1; have HM1 := Lib.hid M1; have HRK2 := Lib.hid rk2; have HBK2 := Lib.hid bk2; have hs1 := M1.size; have HS1 := Lib.hid hs1; clear own1 hg1 bk1 bk2 rk2 M1 rv1 bv1 hs1)
          | (gi_at_builtin; refine wpIn_app eI (by decide) rfl (.tmp 41) (.tmp 43) rfl V.heap.size vv pre.length (intsV pre) [.int .i64 x.2] rfl w1.heap.size (by simp) rfl rfl (by simp [Value.oneCell']) HRV1.out (Nat.le_trans HUS.out HS1.out) (by have := HPL.out; omega) (by have := HPL.out; omega) ?_; intro v2 w2 own2 hg2; obtain ⟨g2, c2, rfl⟩ := ownsRow_succ own2; obtain ⟨bv3, bv4, rv4, M2⟩ := box_app HBV1.out (by decide) HRV1.out own2 hg2; have d2 := bv3.cell; have f2 := bv3.frozen; have HE := col_end (n₁ := 0) (by omega) HBK.out HBV.out HRK.out HRV.out HBK2.out HRK2.out HM1.out bv4 rv4 M2; have K1 := col_keep (n₁ := V.heap.size) (T := fun b => b = w.heap.size + 1 ∨ b = w.heap.size + 1 + 1) (Nat.le_refl _) (.inl rfl) (.inr rfl) HBK.out HBV.out HRK.out HRV.out HE.1; have ck2 := HE.2.1.cell; have BE0 : _ = some (Obj.cells #[Value.int .i64 most] 3 (0, 0)) := HE.1.blk HB0U.out (fun h => by have := col_far HRK.out HRV.out HN0.out (Nat.le_refl _) (by omega) h; omega); have c02 := cell_of_blk BE0 0; have HBE := below_of_mut HBU.out HE.1 (fun b h => col_far HRK.out HRV.out (Nat.le_of_succ_le HN0.out) (by omega) (by omega) h); clear own2 hg2 bv3 bv4 rv4 M2))
        · exact ⟨(K1.2.from _), K1.1, HE.2.2, (by rw [List.length_append]; have h1 := HLT.out; have h2 := HQ.out; intro h3; have := h1 h3; simp; omega), BE0, HBE⟩
    case done =>
      rintro D ys U hD rfl ⟨⟨⟨kv, bk, rk, -⟩, vv, bv, rv, -⟩, hlt, hb0, hBU⟩ hK
      have HLT := Lib.hid hlt
      have ck := bk.cell
      have cv := bv.cell
      clear hlt hb0
      gi_wp2
      gi_region
      all_goals gi_wp2
      refine ⟨by simp, .inl ⟨_, _, rfl, run_takeDeferred (w := U.drew) hK, ?_⟩⟩
      refine ⟨_, results_tmp2 rfl _ _ _, kv, vv, rfl, ?_, ?_, ?_⟩
      · rw [most_all HLT.out HM0.out]; exact own_base (ownsRow_putObj (W := U.drew) rk _ hK rfl) HB.out.size
      · rw [most_all HLT.out HM0.out]; exact own_base (ownsRow_putObj (W := U.drew) rv _ hK rfl) HB.out.size
      · exact (show Below w.heap.size w U.drew from ⟨hBU.os, hBU.tape, hBU.output, hBU.size, hBU.block⟩).trans (belowK_b (w := w) (Nat.le_refl _) U.drew D _ _ (Nat.le_trans HB.out.size hD) hK rfl rfl)
    case stop =>
      rintro D c pre U hD hS ⟨rfl, hq, ⟨⟨kv, bk, rk, -⟩, vv, bv, rv, -⟩, hBU⟩ hK
      have HQ := Lib.hid hq
      have ck := bk.cell
      have cv := bv.cell
      clear hq
      gi_wp2
      gi_region
      all_goals gi_wp2
      refine ⟨by simp, .inl ⟨_, _, rfl, run_takeDeferred (w := U.drew) hK, ?_⟩⟩
      refine ⟨_, results_tmp2 rfl _ _ _, kv, vv, rfl, ?_, ?_, ?_⟩
      · rw [most_some hS HQ.out]; exact own_base (ownsRow_putObj (W := U.drew) rk _ hK rfl) HB.out.size
      · rw [most_some hS HQ.out]; exact own_base (ownsRow_putObj (W := U.drew) rv _ hK rfl) HB.out.size
      · exact (show Below w.heap.size w U.drew from ⟨hBU.os, hBU.tape, hBU.output, hBU.size, hBU.block⟩).trans (belowK_b (w := w) (Nat.le_refl _) U.drew D _ _ (Nat.le_trans HB.out.size hD) hK rfl rfl)
set_option maxRecDepth 100000 in
set_option maxHeartbeats 4000000 in
theorem ranged_5 (S : Nat → Prop) (p A : Option Addr) (m c : Nat) (most : Int) (k : ByteArray) (l : List (KV Int)) (w : World) (h : Holds w p (.slice A m c)) (hr : PRow w S A m c l) (hs : Rises l) (hm : m ≤ 8796093022208) :
    Calls Try.prog 19 #[.pointer p, .int .i64 5, .string k, .int .i64 most] w (RangedTo (mostK most (fromK k l)) w) := by
  have hNl : (fromK k l).length ≤ l.length := by first | exact Nat.le_refl _ | (unfold fromK; rw [List.length_drop]; omega) | (unfold underK; refine Nat.le_trans (List.takeWhile_prefix _).length_le ?_; unfold fromK; rw [List.length_drop]; omega)
  have hlm : l.length ≤ 8796093022208 := by rw [hr.1]; exact hm
  have HNL := Lib.hid hNl
  have HLM := Lib.hid hlm
  obtain ⟨Y, hYd⟩ : ∃ Y, Y = boxW p most w := ⟨_, rfl⟩
  have HY := Lib.hid hYd
  have by0 : Boxed Y w.heap.size 3 (.int .i64 most) := by rw [hYd]; exact boxW_0 p most w
  have by1 : Boxed Y (w.heap.size + 1) 22 (.slice none 0 0) := by rw [hYd]; exact boxW_1 p most w
  have by2 : Boxed Y (w.heap.size + 1 + 1) 38 (.slice none 0 0) := by rw [hYd]; exact boxW_2 p most w
  have by3 : Boxed Y (w.heap.size + 1 + 1 + 1) 71 (.func (.func 37) #[.pointer p] #[]) := by rw [hYd]; exact boxW_3 p most w
  have hyB : Below w.heap.size w Y := by rw [hYd]; exact boxW_below p most w
  have hyS : Y.heap.size = w.heap.size + 1 + 1 + 1 + 1 := by rw [hYd]; exact boxW_size p most w
  clear hYd
  have HYV := Lib.hid (show Below Y.heap.size Y (fromW p k Y) from fromW_below p k Y)
  obtain ⟨V, hVd⟩ : ∃ V, V = (fromW p k Y) := ⟨_, rfl⟩
  have HV := Lib.hid hVd
  have hvB : Below Y.heap.size Y V := by rw [hVd]; exact HYV.out
  have v0 : V.cell? ⟨Y.heap.size, 0, none⟩ = some (.pointer p) := by rw [hVd]; exact fromW_0 p k Y
  have v1 : V.cell? ⟨Y.heap.size + 1, 0, none⟩ = some (.string k) := by rw [hVd]; exact fromW_1 p k Y
  have v2 : V.cell? ⟨Y.heap.size + 1 + 1, 0, none⟩ = some (fromFv Y.heap.size) := by rw [hVd]; exact fromW_2 p k Y
  have hwV : Below w.heap.size w V := below2 hyB hvB
  have b0 : Boxed V w.heap.size 3 (.int .i64 most) := block_below hvB by0
  have b1 : Boxed V (w.heap.size + 1) 22 (.slice none 0 0) := block_below hvB by1
  have b2 : Boxed V (w.heap.size + 1 + 1) 38 (.slice none 0 0) := block_below hvB by2
  have hvs : Y.heap.size ≤ V.heap.size := hvB.size
  have hrow : LRow V.heap.size (fun b => b = w.heap.size + 1 ∨ b = w.heap.size + 1 + 1) V A m c l := hr.to_L hwV hwV.size (fun b h => by omega)
  have hstop := Lib.hid (from_stops p Y.heap.size (Y.heap.size + 1 + 1) V.heap.size (V.heap.size + 2) (fun b => b = w.heap.size + 1 ∨ b = w.heap.size + 1 + 1) A m c k l V v2 v0 v1 (h.below hwV) (by omega) hrow hs)
  have HB := Lib.hid hwV
  have c0 := b0.cell
  have HB1 := Lib.hid b1
  have HB2 := Lib.hid b2
  have HB0 := Lib.hid b0
  have HYS := Lib.hid hyS
  have HN0 : Hid (w.heap.size + 1 ≤ V.heap.size) := Lib.hid (by omega)
  clear h hr hs hrow by1 by2 by3 hwV b0 b1 b2 hVd hyB hvB by0 hyS
  by_cases hm0 : most = 0
  · subst hm0
    refine (callsIn_wide (n := 0)).1 (callsIn_of_wp_marks Try.func19 rfl trivial ?_ rfl)
    simp only [Try.ntmps19, List.size_toArray, List.length_cons, List.length_nil, Nat.reduceAdd, Nat.reduceSub, Array.replicate_succ, Array.replicate_zero, List.push_toArray, List.append_toArray, List.nil_append, List.cons_append]
    gi_wp2
    refine ⟨trivial, rfl, (callsIn_wide.2 (all_any p _)).mono ?_⟩
    rintro e Z ⟨rfl, hZ⟩
    obtain rfl : Z = Y := hZ.trans HY.out.symm
    clear hZ
    gi_wp2
    refine ⟨trivial, rfl, (callsIn_wide.2 (from_any p k _)).mono ?_⟩
    rintro e Z2 ⟨rfl, hZ⟩
    obtain rfl : Z2 = V := hZ.trans HV.out.symm
    clear hZ
    gi_wp2
    exact ⟨_, results_tmp2 rfl _ _ _, _, _, rfl, by rw [mostK_zero]; exact own_nil _ _ _ _, by rw [mostK_zero]; exact own_nil _ _ _ _, HB.out⟩
  · have qm := beq_f hm0
    have HM0 := Lib.hid hm0
    clear hm0
    refine (callsIn_wide (n := 0)).1 (callsIn_of_wp_marks Try.func19 rfl trivial ?_ rfl)
    simp only [Try.ntmps19, List.size_toArray, List.length_cons, List.length_nil, Nat.reduceAdd, Nat.reduceSub, Array.replicate_succ, Array.replicate_zero, List.push_toArray, List.append_toArray, List.nil_append, List.cons_append]
    gi_wp2
    refine ⟨trivial, rfl, (callsIn_wide.2 (all_any p _)).mono ?_⟩
    rintro e Z ⟨rfl, hZ⟩
    obtain rfl : Z = Y := hZ.trans HY.out.symm
    clear hZ
    gi_wp2
    refine ⟨trivial, rfl, (callsIn_wide.2 (from_any p k _)).mono ?_⟩
    rintro e Z2 ⟨rfl, hZ⟩
    obtain rfl : Z2 = V := hZ.trans HV.out.symm
    clear hZ
    gi_wp2
    clear c0
    refine range_law (P := Try.prog) (gf := 50) (lb := #[.pointer (some ⟨Z.heap.size + 1 + 1, 0, none⟩)]) (by first | rfl | simp) (enters_of Try.func50 (by kernel_rfl) rfl)
      hstop.out (fun h k => h.trans k) (fun W r o h => KeepC.turn W r o h) (fun _ => rfl)
      (fun pre U => Col Z2.heap.size (w.heap.size + 1) (w.heap.size + 1 + 1) pre U ∧ (0 < most → (pre.length : Int) < most) ∧ U.heap[w.heap.size]? = some (.cells #[.int .i64 most] 3 (0, 0)) ∧ Below w.heap.size w U)
      (fun c pre U => c = .exit 1 ∧ (pre.length : Int) = most ∧ Col Z2.heap.size (w.heap.size + 1) (w.heap.size + 1 + 1) pre U ∧ Below w.heap.size w U)
      (OwnFrom.and (Col.own _ _ _ _) (OwnFrom.and (ownFrom_pure _ _) (OwnFrom.and (ownFrom_blk _ _ _ _) (ownFrom_below (Nat.le_refl _) HB.out.size))))
      (fun c => OwnFrom.and (fun _ _ _ _ hs _ _ => hs) (OwnFrom.and (ownFrom_pure _ _) (OwnFrom.and (Col.own _ _ _ _) (ownFrom_below (Nat.le_refl _) HB.out.size))))
      ⟨⟨⟨_, HB1.out, own_nil _ _ _ _, trivial⟩, ⟨_, HB2.out, own_nil _ _ _ _, trivial⟩⟩, (fun h => h), HB0.out, HB.out⟩
      (fun _ x a' _ => a' = { tmps := #[.pointer p, .int .i64 5, .string k, .int .i64 most, undef, undef, undef, .pointer (some ⟨w.heap.size, 0, none⟩), .slice none 0 0, .slice none 0 0, .pointer (some ⟨w.heap.size + 1, 0, none⟩), .pointer (some ⟨w.heap.size + 1 + 1, 0, none⟩), .func (.func 50) #[] #[.pointer (some ⟨Z.heap.size + 1 + 1, 0, none⟩)], .string x.1, .int .i64 x.2, .pointer p, .func (.func 50) #[] #[.pointer (some ⟨w.heap.size + 1 + 1 + 1, 0, none⟩)], .int .i64 5, .bool true, .bool true, .pointer p, .string k, .func (.func 50) #[] #[.pointer (some ⟨Z.heap.size + 1 + 1, 0, none⟩)], undef, undef, undef, undef, undef, undef, undef, undef, undef, .int .i64 most, .bool false, .func (.func 50) #[] #[.pointer (some ⟨Z.heap.size + 1 + 1, 0, none⟩)], .string x.1, .int .i64 x.2, undef, undef, undef, undef, undef, undef, undef, undef, undef, undef, undef, undef, undef, undef], defers := [] })
      (fun _ _ _ _ _ _ _ hs _ _ => hs)
      ?assign ?body ?done ?stop
    case assign =>
      rintro l2 pre x U K hi hK
      gi_wp2
      exact hK _ _ (KeepsFrom.refl _ _) (KeepC.refl _ _ _) hi (by first | rfl | simp)
    case body =>
      rintro l2 pre x a' U hU ⟨⟨⟨kv, bk, rk, -⟩, vv, bv, rv, -⟩, hlt, hb0, hBU⟩ rfl hlen
      have hpl : pre.length + 1 ≤ 8796093022208 := by have h1 := hlen.length_le; rw [List.length_append] at h1; have := HNL.out; have := HLM.out; simp at h1; omega
      have hUs : Z2.heap.size ≤ U.heap.size := by omega
      have HBK := Lib.hid bk
      have HBV := Lib.hid bv
      have HRK := Lib.hid rk
      have HRV := Lib.hid rv
      have HB0U := Lib.hid hb0
      have HBU := Lib.hid hBU
      have HLT := Lib.hid hlt
      have HUS := Lib.hid hUs
      have HPL := Lib.hid hpl
      have ck := bk.cell
      clear bk bv rk rv hb0 hBU hlt hUs hpl hlen hU
      by_cases hq : ((pre.length : Int) + 1) = most
      · have hq1 : ((pre.length : Int) + 1 == most) = true := beq_t hq
        have HQ := Lib.hid hq
        clear hq
        gi_wp2_with (first
          | (gi_at_builtin; refine wpIn_app eS (by decide) rfl (.tmp 37) (.tmp 39) rfl Z2.heap.size kv pre.length (keysV pre) [.string x.1] rfl _ rfl rfl rfl (by simp [Value.oneCell']) HRK.out HUS.out (by have := HPL.out; omega) (by have := HPL.out; omega) ?_; intro v1 w1 own1 hg1; obtain ⟨g1, c1, rfl⟩ := ownsRow_succ own1; obtain ⟨bk1, bk2, rk2, M1⟩ := box_app HBK.out (by decide) HRK.out own1 hg1; have d1 := bk1.cell; have f1 := bk1.frozen; have rv1 := own_mut HRV.out M1 (fun b hb h => h.elim (fun h => own_ne HRV.out HRK.out (by decide) hb h) (fun h => (HBK.out.not_row (by decide) HRV.out) (by rw [hb, h]))); have bv1 : Boxed _ (w.heap.size + 1 + 1) 38 vv := boxed_mut HBV.out M1 (fun h => h.elim (fun h => (HBV.out.not_row (by decide) HRK.out) h.symm) (fun h => by omega)); have cv1 := bv1.cell; have HRV1 := Lib.hid rv1; have HBV1 := Lib.hid bv1; have HM1 := Lib.hid M1; have HRK2 := Lib.hid rk2; have HBK2 := Lib.hid bk2; have hs1 := M1.size; have HS1 := Lib.hid hs1; clear own1 hg1 bk1 bk2 rk2 M1 rv1 bv1 hs1)
          | (gi_at_builtin; refine wpIn_app eI (by decide) rfl (.tmp 41) (.tmp 43) rfl Z2.heap.size vv pre.length (intsV pre) [.int .i64 x.2] rfl w1.heap.size (by simp) rfl rfl (by simp [Value.oneCell']) HRV1.out (Nat.le_trans HUS.out HS1.out) (by have := HPL.out; omega) (by have := HPL.out; omega) ?_; intro v2 w2 own2 hg2; obtain ⟨g2, c2, rfl⟩ := ownsRow_succ own2; obtain ⟨bv3, bv4, rv4, M2⟩ := box_app HBV1.out (by decide) HRV1.out own2 hg2; have d2 := bv3.cell; have f2 := bv3.frozen; have HE := col_end (n₁ := 0) (by omega) HBK.out HBV.out HRK.out HRV.out HBK2.out HRK2.out HM1.out bv4 rv4 M2; have K1 := col_keep (n₁ := Z2.heap.size) (T := fun b => b = w.heap.size + 1 ∨ b = w.heap.size + 1 + 1) (Nat.le_refl _) (.inl rfl) (.inr rfl) HBK.out HBV.out HRK.out HRV.out HE.1; have ck2 := HE.2.1.cell; have BE0 : _ = some (Obj.cells #[Value.int .i64 most] 3 (0, 0)) := HE.1.blk HB0U.out (fun h => by have := col_far HRK.out HRV.out HN0.out (Nat.le_refl _) (by omega) h; omega); have c02 := cell_of_blk BE0 0; have HBE := below_of_mut HBU.out HE.1 (fun b h => col_far HRK.out HRV.out (Nat.le_of_succ_le HN0.out) (by omega) (by omega) h); clear own2 hg2 bv3 bv4 rv4 M2))
        · exact ⟨(K1.2.from _), rfl, by rw [List.length_append]; have := HQ.out; simpa using this, HE.2.2, HBE⟩
      · have hq1 : ((pre.length : Int) + 1 == most) = false := beq_f hq
        have HQ := Lib.hid hq
        clear hq
        gi_wp2_with (first
          | (gi_at_builtin; refine wpIn_app eS (by decide) rfl (.tmp 37) (.tmp 39) rfl Z2.heap.size kv pre.length (keysV pre) [.string x.1] rfl _ rfl rfl rfl (by simp [Value.oneCell']) HRK.out HUS.out (by have := HPL.out; omega) (by have := HPL.out; omega) ?_; intro v1 w1 own1 hg1; obtain ⟨g1, c1, rfl⟩ := ownsRow_succ own1; obtain ⟨bk1, bk2, rk2, M1⟩ := box_app HBK.out (by decide) HRK.out own1 hg1; have d1 := bk1.cell; have f1 := bk1.frozen; have rv1 := own_mut HRV.out M1 (fun b hb h => h.elim (fun h => own_ne HRV.out HRK.out (by decide) hb h) (fun h => (HBK.out.not_row (by decide) HRV.out) (by rw [hb, h]))); have bv1 : Boxed _ (w.heap.size + 1 + 1) 38 vv := boxed_mut HBV.out M1 (fun h => h.elim (fun h => (HBV.out.not_row (by decide) HRK.out) h.symm) (fun h => by omega)); have cv1 := bv1.cell; have HRV1 := Lib.hid rv1; have HBV1 := Lib.hid bv1; have HM1 := Lib.hid M1; have HRK2 := Lib.hid rk2; have HBK2 := Lib.hid bk2; have hs1 := M1.size; have HS1 := Lib.hid hs1; clear own1 hg1 bk1 bk2 rk2 M1 rv1 bv1 hs1)
          | (gi_at_builtin; refine wpIn_app eI (by decide) rfl (.tmp 41) (.tmp 43) rfl Z2.heap.size vv pre.length (intsV pre) [.int .i64 x.2] rfl w1.heap.size (by simp) rfl rfl (by simp [Value.oneCell']) HRV1.out (Nat.le_trans HUS.out HS1.out) (by have := HPL.out; omega) (by have := HPL.out; omega) ?_; intro v2 w2 own2 hg2; obtain ⟨g2, c2, rfl⟩ := ownsRow_succ own2; obtain ⟨bv3, bv4, rv4, M2⟩ := box_app HBV1.out (by decide) HRV1.out own2 hg2; have d2 := bv3.cell; have f2 := bv3.frozen; have HE := col_end (n₁ := 0) (by omega) HBK.out HBV.out HRK.out HRV.out HBK2.out HRK2.out HM1.out bv4 rv4 M2; have K1 := col_keep (n₁ := Z2.heap.size) (T := fun b => b = w.heap.size + 1 ∨ b = w.heap.size + 1 + 1) (Nat.le_refl _) (.inl rfl) (.inr rfl) HBK.out HBV.out HRK.out HRV.out HE.1; have ck2 := HE.2.1.cell; have BE0 : _ = some (Obj.cells #[Value.int .i64 most] 3 (0, 0)) := HE.1.blk HB0U.out (fun h => by have := col_far HRK.out HRV.out HN0.out (Nat.le_refl _) (by omega) h; omega); have c02 := cell_of_blk BE0 0; have HBE := below_of_mut HBU.out HE.1 (fun b h => col_far HRK.out HRV.out (Nat.le_of_succ_le HN0.out) (by omega) (by omega) h); clear own2 hg2 bv3 bv4 rv4 M2))
        · exact ⟨(K1.2.from _), K1.1, HE.2.2, (by rw [List.length_append]; have h1 := HLT.out; have h2 := HQ.out; intro h3; have := h1 h3; simp; omega), BE0, HBE⟩
    case done =>
      rintro D ys U hD rfl ⟨⟨⟨kv, bk, rk, -⟩, vv, bv, rv, -⟩, hlt, hb0, hBU⟩ hK
      have HLT := Lib.hid hlt
      have ck := bk.cell
      have cv := bv.cell
      clear hlt hb0
      gi_wp2
      gi_region
      all_goals gi_wp2
      refine ⟨by simp, .inl ⟨_, _, rfl, run_takeDeferred (w := U.drew) hK, ?_⟩⟩
      refine ⟨_, results_tmp2 rfl _ _ _, kv, vv, rfl, ?_, ?_, ?_⟩
      · rw [most_all HLT.out HM0.out]; exact own_base (ownsRow_putObj (W := U.drew) rk _ hK rfl) HB.out.size
      · rw [most_all HLT.out HM0.out]; exact own_base (ownsRow_putObj (W := U.drew) rv _ hK rfl) HB.out.size
      · exact (show Below w.heap.size w U.drew from ⟨hBU.os, hBU.tape, hBU.output, hBU.size, hBU.block⟩).trans (belowK_b (w := w) (Nat.le_refl _) U.drew D _ _ (Nat.le_trans HB.out.size hD) hK rfl rfl)
    case stop =>
      rintro D c pre U hD hS ⟨rfl, hq, ⟨⟨kv, bk, rk, -⟩, vv, bv, rv, -⟩, hBU⟩ hK
      have HQ := Lib.hid hq
      have ck := bk.cell
      have cv := bv.cell
      clear hq
      gi_wp2
      gi_region
      all_goals gi_wp2
      refine ⟨by simp, .inl ⟨_, _, rfl, run_takeDeferred (w := U.drew) hK, ?_⟩⟩
      refine ⟨_, results_tmp2 rfl _ _ _, kv, vv, rfl, ?_, ?_, ?_⟩
      · rw [most_some hS HQ.out]; exact own_base (ownsRow_putObj (W := U.drew) rk _ hK rfl) HB.out.size
      · rw [most_some hS HQ.out]; exact own_base (ownsRow_putObj (W := U.drew) rv _ hK rfl) HB.out.size
      · exact (show Below w.heap.size w U.drew from ⟨hBU.os, hBU.tape, hBU.output, hBU.size, hBU.block⟩).trans (belowK_b (w := w) (Nat.le_refl _) U.drew D _ _ (Nat.le_trans HB.out.size hD) hK rfl rfl)
set_option maxRecDepth 100000 in
set_option maxHeartbeats 4000000 in
theorem ranged_6 (S : Nat → Prop) (p A : Option Addr) (m c : Nat) (most : Int) (k : ByteArray) (l : List (KV Int)) (w : World) (h : Holds w p (.slice A m c)) (hr : PRow w S A m c l) (hs : Rises l) (hm : m ≤ 8796093022208) :
    Calls Try.prog 19 #[.pointer p, .int .i64 6, .string k, .int .i64 most] w (RangedTo (mostK most (l.reverse)) w) := by
  have hNl : l.length ≤ l.length := by first | exact Nat.le_refl _ | (unfold fromK; rw [List.length_drop]; omega) | (unfold underK; refine Nat.le_trans (List.takeWhile_prefix _).length_le ?_; unfold fromK; rw [List.length_drop]; omega)
  have hlm : l.length ≤ 8796093022208 := by rw [hr.1]; exact hm
  have HNL := Lib.hid hNl
  have HLM := Lib.hid hlm
  obtain ⟨Y, hYd⟩ : ∃ Y, Y = boxW p most w := ⟨_, rfl⟩
  have HY := Lib.hid hYd
  have by0 : Boxed Y w.heap.size 3 (.int .i64 most) := by rw [hYd]; exact boxW_0 p most w
  have by1 : Boxed Y (w.heap.size + 1) 22 (.slice none 0 0) := by rw [hYd]; exact boxW_1 p most w
  have by2 : Boxed Y (w.heap.size + 1 + 1) 38 (.slice none 0 0) := by rw [hYd]; exact boxW_2 p most w
  have by3 : Boxed Y (w.heap.size + 1 + 1 + 1) 71 (.func (.func 37) #[.pointer p] #[]) := by rw [hYd]; exact boxW_3 p most w
  have hyB : Below w.heap.size w Y := by rw [hYd]; exact boxW_below p most w
  have hyS : Y.heap.size = w.heap.size + 1 + 1 + 1 + 1 := by rw [hYd]; exact boxW_size p most w
  clear hYd
  have HYV := Lib.hid (show Below Y.heap.size Y (Y.alloc (.cells #[.pointer p] 35)) from below_alloc (Below.refl _ _) _)
  obtain ⟨V, hVd⟩ : ∃ V, V = (Y.alloc (.cells #[.pointer p] 35)) := ⟨_, rfl⟩
  have HV := Lib.hid hVd
  have hvB : Below Y.heap.size Y V := by rw [hVd]; exact HYV.out
  have v0 : V.cell? ⟨Y.heap.size, 0, none⟩ = some (.pointer p) := by rw [hVd]; simp
  have hwV : Below w.heap.size w V := below2 hyB hvB
  have b0 : Boxed V w.heap.size 3 (.int .i64 most) := block_below hvB by0
  have b1 : Boxed V (w.heap.size + 1) 22 (.slice none 0 0) := block_below hvB by1
  have b2 : Boxed V (w.heap.size + 1 + 1) 38 (.slice none 0 0) := block_below hvB by2
  have hvs : Y.heap.size ≤ V.heap.size := hvB.size
  have hrow : LRow V.heap.size (fun b => b = w.heap.size + 1 ∨ b = w.heap.size + 1 + 1) V A m c l := hr.to_L hwV hwV.size (fun b h => by omega)
  have hstop := Lib.hid (down_stops p Y.heap.size V.heap.size (V.heap.size + 2) (fun b => b = w.heap.size + 1 ∨ b = w.heap.size + 1 + 1) A m c l V (Nat.le_refl _) v0 (h.below hwV) hrow)
  have HB := Lib.hid hwV
  have c0 := b0.cell
  have HB1 := Lib.hid b1
  have HB2 := Lib.hid b2
  have HB0 := Lib.hid b0
  have HYS := Lib.hid hyS
  have HN0 : Hid (w.heap.size + 1 ≤ V.heap.size) := Lib.hid (by omega)
  clear h hr hs hrow by1 by2 by3 hwV b0 b1 b2 hVd hyB hvB by0 hyS
  by_cases hm0 : most = 0
  · subst hm0
    refine (callsIn_wide (n := 0)).1 (callsIn_of_wp_marks Try.func19 rfl trivial ?_ rfl)
    simp only [Try.ntmps19, List.size_toArray, List.length_cons, List.length_nil, Nat.reduceAdd, Nat.reduceSub, Array.replicate_succ, Array.replicate_zero, List.push_toArray, List.append_toArray, List.nil_append, List.cons_append]
    gi_wp2
    refine ⟨trivial, rfl, (callsIn_wide.2 (all_any p _)).mono ?_⟩
    rintro e Z ⟨rfl, hZ⟩
    obtain rfl : Z = Y := hZ.trans HY.out.symm
    clear hZ
    gi_wp2
    refine ⟨trivial, rfl, (callsIn_wide.2 (down_any p _)).mono ?_⟩
    rintro e Z2 ⟨rfl, hZ⟩
    obtain rfl : Z2 = V := hZ.trans HV.out.symm
    clear hZ
    gi_wp2
    exact ⟨_, results_tmp2 rfl _ _ _, _, _, rfl, by rw [mostK_zero]; exact own_nil _ _ _ _, by rw [mostK_zero]; exact own_nil _ _ _ _, HB.out⟩
  · have qm := beq_f hm0
    have HM0 := Lib.hid hm0
    clear hm0
    refine (callsIn_wide (n := 0)).1 (callsIn_of_wp_marks Try.func19 rfl trivial ?_ rfl)
    simp only [Try.ntmps19, List.size_toArray, List.length_cons, List.length_nil, Nat.reduceAdd, Nat.reduceSub, Array.replicate_succ, Array.replicate_zero, List.push_toArray, List.append_toArray, List.nil_append, List.cons_append]
    gi_wp2
    refine ⟨trivial, rfl, (callsIn_wide.2 (all_any p _)).mono ?_⟩
    rintro e Z ⟨rfl, hZ⟩
    obtain rfl : Z = Y := hZ.trans HY.out.symm
    clear hZ
    gi_wp2
    refine ⟨trivial, rfl, (callsIn_wide.2 (down_any p _)).mono ?_⟩
    rintro e Z2 ⟨rfl, hZ⟩
    obtain rfl : Z2 = V := hZ.trans HV.out.symm
    clear hZ
    gi_wp2
    clear c0
    refine range_law (P := Try.prog) (gf := 41) (lb := #[.pointer (some ⟨Z.heap.size, 0, none⟩)]) (by first | rfl | simp) (enters_of Try.func41 (by kernel_rfl) rfl)
      hstop.out (fun h k => h.trans k) (fun W r o h => KeepC.turn W r o h) (fun _ => rfl)
      (fun pre U => Col Z2.heap.size (w.heap.size + 1) (w.heap.size + 1 + 1) pre U ∧ (0 < most → (pre.length : Int) < most) ∧ U.heap[w.heap.size]? = some (.cells #[.int .i64 most] 3 (0, 0)) ∧ Below w.heap.size w U)
      (fun c pre U => c = .exit 1 ∧ (pre.length : Int) = most ∧ Col Z2.heap.size (w.heap.size + 1) (w.heap.size + 1 + 1) pre U ∧ Below w.heap.size w U)
      (OwnFrom.and (Col.own _ _ _ _) (OwnFrom.and (ownFrom_pure _ _) (OwnFrom.and (ownFrom_blk _ _ _ _) (ownFrom_below (Nat.le_refl _) HB.out.size))))
      (fun c => OwnFrom.and (fun _ _ _ _ hs _ _ => hs) (OwnFrom.and (ownFrom_pure _ _) (OwnFrom.and (Col.own _ _ _ _) (ownFrom_below (Nat.le_refl _) HB.out.size))))
      ⟨⟨⟨_, HB1.out, own_nil _ _ _ _, trivial⟩, ⟨_, HB2.out, own_nil _ _ _ _, trivial⟩⟩, (fun h => h), HB0.out, HB.out⟩
      (fun _ x a' _ => a' = { tmps := #[.pointer p, .int .i64 6, .string k, .int .i64 most, undef, undef, undef, .pointer (some ⟨w.heap.size, 0, none⟩), .slice none 0 0, .slice none 0 0, .pointer (some ⟨w.heap.size + 1, 0, none⟩), .pointer (some ⟨w.heap.size + 1 + 1, 0, none⟩), .func (.func 41) #[] #[.pointer (some ⟨Z.heap.size, 0, none⟩)], .string x.1, .int .i64 x.2, .pointer p, .func (.func 50) #[] #[.pointer (some ⟨w.heap.size + 1 + 1 + 1, 0, none⟩)], .int .i64 6, .bool false, .bool false, undef, undef, undef, .bool true, .bool true, .pointer p, .func (.func 41) #[] #[.pointer (some ⟨Z.heap.size, 0, none⟩)], undef, undef, undef, undef, undef, .int .i64 most, .bool false, .func (.func 41) #[] #[.pointer (some ⟨Z.heap.size, 0, none⟩)], .string x.1, .int .i64 x.2, undef, undef, undef, undef, undef, undef, undef, undef, undef, undef, undef, undef, undef, undef], defers := [] })
      (fun _ _ _ _ _ _ _ hs _ _ => hs)
      ?assign ?body ?done ?stop
    case assign =>
      rintro l2 pre x U K hi hK
      gi_wp2
      exact hK _ _ (KeepsFrom.refl _ _) (KeepC.refl _ _ _) hi (by first | rfl | simp)
    case body =>
      rintro l2 pre x a' U hU ⟨⟨⟨kv, bk, rk, -⟩, vv, bv, rv, -⟩, hlt, hb0, hBU⟩ rfl hlen
      have hpl : pre.length + 1 ≤ 8796093022208 := by have h1 := hlen.length_le; rw [List.length_append] at h1; have := HNL.out; have := HLM.out; simp at h1; omega
      have hUs : Z2.heap.size ≤ U.heap.size := by omega
      have HBK := Lib.hid bk
      have HBV := Lib.hid bv
      have HRK := Lib.hid rk
      have HRV := Lib.hid rv
      have HB0U := Lib.hid hb0
      have HBU := Lib.hid hBU
      have HLT := Lib.hid hlt
      have HUS := Lib.hid hUs
      have HPL := Lib.hid hpl
      have ck := bk.cell
      clear bk bv rk rv hb0 hBU hlt hUs hpl hlen hU
      by_cases hq : ((pre.length : Int) + 1) = most
      · have hq1 : ((pre.length : Int) + 1 == most) = true := beq_t hq
        have HQ := Lib.hid hq
        clear hq
        gi_wp2_with (first
          | (gi_at_builtin; refine wpIn_app eS (by decide) rfl (.tmp 37) (.tmp 39) rfl Z2.heap.size kv pre.length (keysV pre) [.string x.1] rfl _ rfl rfl rfl (by simp [Value.oneCell']) HRK.out HUS.out (by have := HPL.out; omega) (by have := HPL.out; omega) ?_; intro v1 w1 own1 hg1; obtain ⟨g1, c1, rfl⟩ := ownsRow_succ own1; obtain ⟨bk1, bk2, rk2, M1⟩ := box_app HBK.out (by decide) HRK.out own1 hg1; have d1 := bk1.cell; have f1 := bk1.frozen; have rv1 := own_mut HRV.out M1 (fun b hb h => h.elim (fun h => own_ne HRV.out HRK.out (by decide) hb h) (fun h => (HBK.out.not_row (by decide) HRV.out) (by rw [hb, h]))); have bv1 : Boxed _ (w.heap.size + 1 + 1) 38 vv := boxed_mut HBV.out M1 (fun h => h.elim (fun h => (HBV.out.not_row (by decide) HRK.out) h.symm) (fun h => by omega)); have cv1 := bv1.cell; have HRV1 := Lib.hid rv1; have HBV1 := Lib.hid bv1; have HM1 := Lib.hid M1; have HRK2 := Lib.hid rk2; have HBK2 := Lib.hid bk2; have hs1 := M1.size; have HS1 := Lib.hid hs1; clear own1 hg1 bk1 bk2 rk2 M1 rv1 bv1 hs1)
          | (gi_at_builtin; refine wpIn_app eI (by decide) rfl (.tmp 41) (.tmp 43) rfl Z2.heap.size vv pre.length (intsV pre) [.int .i64 x.2] rfl w1.heap.size (by simp) rfl rfl (by simp [Value.oneCell']) HRV1.out (Nat.le_trans HUS.out HS1.out) (by have := HPL.out; omega) (by have := HPL.out; omega) ?_; intro v2 w2 own2 hg2; obtain ⟨g2, c2, rfl⟩ := ownsRow_succ own2; obtain ⟨bv3, bv4, rv4, M2⟩ := box_app HBV1.out (by decide) HRV1.out own2 hg2; have d2 := bv3.cell; have f2 := bv3.frozen; have HE := col_end (n₁ := 0) (by omega) HBK.out HBV.out HRK.out HRV.out HBK2.out HRK2.out HM1.out bv4 rv4 M2; have K1 := col_keep (n₁ := Z2.heap.size) (T := fun b => b = w.heap.size + 1 ∨ b = w.heap.size + 1 + 1) (Nat.le_refl _) (.inl rfl) (.inr rfl) HBK.out HBV.out HRK.out HRV.out HE.1; have ck2 := HE.2.1.cell; have BE0 : _ = some (Obj.cells #[Value.int .i64 most] 3 (0, 0)) := HE.1.blk HB0U.out (fun h => by have := col_far HRK.out HRV.out HN0.out (Nat.le_refl _) (by omega) h; omega); have c02 := cell_of_blk BE0 0; have HBE := below_of_mut HBU.out HE.1 (fun b h => col_far HRK.out HRV.out (Nat.le_of_succ_le HN0.out) (by omega) (by omega) h); clear own2 hg2 bv3 bv4 rv4 M2))
        · exact ⟨(K1.2.from _), rfl, by rw [List.length_append]; have := HQ.out; simpa using this, HE.2.2, HBE⟩
      · have hq1 : ((pre.length : Int) + 1 == most) = false := beq_f hq
        have HQ := Lib.hid hq
        clear hq
        gi_wp2_with (first
          | (gi_at_builtin; refine wpIn_app eS (by decide) rfl (.tmp 37) (.tmp 39) rfl Z2.heap.size kv pre.length (keysV pre) [.string x.1] rfl _ rfl rfl rfl (by simp [Value.oneCell']) HRK.out HUS.out (by have := HPL.out; omega) (by have := HPL.out; omega) ?_; intro v1 w1 own1 hg1; obtain ⟨g1, c1, rfl⟩ := ownsRow_succ own1; obtain ⟨bk1, bk2, rk2, M1⟩ := box_app HBK.out (by decide) HRK.out own1 hg1; have d1 := bk1.cell; have f1 := bk1.frozen; have rv1 := own_mut HRV.out M1 (fun b hb h => h.elim (fun h => own_ne HRV.out HRK.out (by decide) hb h) (fun h => (HBK.out.not_row (by decide) HRV.out) (by rw [hb, h]))); have bv1 : Boxed _ (w.heap.size + 1 + 1) 38 vv := boxed_mut HBV.out M1 (fun h => h.elim (fun h => (HBV.out.not_row (by decide) HRK.out) h.symm) (fun h => by omega)); have cv1 := bv1.cell; have HRV1 := Lib.hid rv1; have HBV1 := Lib.hid bv1; have HM1 := Lib.hid M1; have HRK2 := Lib.hid rk2; have HBK2 := Lib.hid bk2; have hs1 := M1.size; have HS1 := Lib.hid hs1; clear own1 hg1 bk1 bk2 rk2 M1 rv1 bv1 hs1)
          | (gi_at_builtin; refine wpIn_app eI (by decide) rfl (.tmp 41) (.tmp 43) rfl Z2.heap.size vv pre.length (intsV pre) [.int .i64 x.2] rfl w1.heap.size (by simp) rfl rfl (by simp [Value.oneCell']) HRV1.out (Nat.le_trans HUS.out HS1.out) (by have := HPL.out; omega) (by have := HPL.out; omega) ?_; intro v2 w2 own2 hg2; obtain ⟨g2, c2, rfl⟩ := ownsRow_succ own2; obtain ⟨bv3, bv4, rv4, M2⟩ := box_app HBV1.out (by decide) HRV1.out own2 hg2; have d2 := bv3.cell; have f2 := bv3.frozen; have HE := col_end (n₁ := 0) (by omega) HBK.out HBV.out HRK.out HRV.out HBK2.out HRK2.out HM1.out bv4 rv4 M2; have K1 := col_keep (n₁ := Z2.heap.size) (T := fun b => b = w.heap.size + 1 ∨ b = w.heap.size + 1 + 1) (Nat.le_refl _) (.inl rfl) (.inr rfl) HBK.out HBV.out HRK.out HRV.out HE.1; have ck2 := HE.2.1.cell; have BE0 : _ = some (Obj.cells #[Value.int .i64 most] 3 (0, 0)) := HE.1.blk HB0U.out (fun h => by have := col_far HRK.out HRV.out HN0.out (Nat.le_refl _) (by omega) h; omega); have c02 := cell_of_blk BE0 0; have HBE := below_of_mut HBU.out HE.1 (fun b h => col_far HRK.out HRV.out (Nat.le_of_succ_le HN0.out) (by omega) (by omega) h); clear own2 hg2 bv3 bv4 rv4 M2))
        · exact ⟨(K1.2.from _), K1.1, HE.2.2, (by rw [List.length_append]; have h1 := HLT.out; have h2 := HQ.out; intro h3; have := h1 h3; simp; omega), BE0, HBE⟩
    case done =>
      rintro D ys U hD rfl ⟨⟨⟨kv, bk, rk, -⟩, vv, bv, rv, -⟩, hlt, hb0, hBU⟩ hK
      have HLT := Lib.hid hlt
      have ck := bk.cell
      have cv := bv.cell
      clear hlt hb0
      gi_wp2
      gi_region
      all_goals gi_wp2
      refine ⟨by simp, .inl ⟨_, _, rfl, run_takeDeferred (w := U.drew) hK, ?_⟩⟩
      refine ⟨_, results_tmp2 rfl _ _ _, kv, vv, rfl, ?_, ?_, ?_⟩
      · rw [most_all HLT.out HM0.out]; exact own_base (ownsRow_putObj (W := U.drew) rk _ hK rfl) HB.out.size
      · rw [most_all HLT.out HM0.out]; exact own_base (ownsRow_putObj (W := U.drew) rv _ hK rfl) HB.out.size
      · exact (show Below w.heap.size w U.drew from ⟨hBU.os, hBU.tape, hBU.output, hBU.size, hBU.block⟩).trans (belowK_b (w := w) (Nat.le_refl _) U.drew D _ _ (Nat.le_trans HB.out.size hD) hK rfl rfl)
    case stop =>
      rintro D c pre U hD hS ⟨rfl, hq, ⟨⟨kv, bk, rk, -⟩, vv, bv, rv, -⟩, hBU⟩ hK
      have HQ := Lib.hid hq
      have ck := bk.cell
      have cv := bv.cell
      clear hq
      gi_wp2
      gi_region
      all_goals gi_wp2
      refine ⟨by simp, .inl ⟨_, _, rfl, run_takeDeferred (w := U.drew) hK, ?_⟩⟩
      refine ⟨_, results_tmp2 rfl _ _ _, kv, vv, rfl, ?_, ?_, ?_⟩
      · rw [most_some hS HQ.out]; exact own_base (ownsRow_putObj (W := U.drew) rk _ hK rfl) HB.out.size
      · rw [most_some hS HQ.out]; exact own_base (ownsRow_putObj (W := U.drew) rv _ hK rfl) HB.out.size
      · exact (show Below w.heap.size w U.drew from ⟨hBU.os, hBU.tape, hBU.output, hBU.size, hBU.block⟩).trans (belowK_b (w := w) (Nat.le_refl _) U.drew D _ _ (Nat.le_trans HB.out.size hD) hK rfl rfl)
set_option maxRecDepth 100000 in
set_option maxHeartbeats 4000000 in
theorem ranged_7 (S : Nat → Prop) (p A : Option Addr) (m c : Nat) (most : Int) (k : ByteArray) (l : List (KV Int)) (w : World) (h : Holds w p (.slice A m c)) (hr : PRow w S A m c l) (hs : Rises l) (hm : m ≤ 8796093022208) :
    Calls Try.prog 19 #[.pointer p, .int .i64 7, .string k, .int .i64 most] w (RangedTo (mostK most (underK k l)) w) := by
  have hNl : (underK k l).length ≤ l.length := by first | exact Nat.le_refl _ | (unfold fromK; rw [List.length_drop]; omega) | (unfold underK; refine Nat.le_trans (List.takeWhile_prefix _).length_le ?_; unfold fromK; rw [List.length_drop]; omega)
  have hlm : l.length ≤ 8796093022208 := by rw [hr.1]; exact hm
  have HNL := Lib.hid hNl
  have HLM := Lib.hid hlm
  obtain ⟨Y, hYd⟩ : ∃ Y, Y = boxW p most w := ⟨_, rfl⟩
  have HY := Lib.hid hYd
  have by0 : Boxed Y w.heap.size 3 (.int .i64 most) := by rw [hYd]; exact boxW_0 p most w
  have by1 : Boxed Y (w.heap.size + 1) 22 (.slice none 0 0) := by rw [hYd]; exact boxW_1 p most w
  have by2 : Boxed Y (w.heap.size + 1 + 1) 38 (.slice none 0 0) := by rw [hYd]; exact boxW_2 p most w
  have by3 : Boxed Y (w.heap.size + 1 + 1 + 1) 71 (.func (.func 37) #[.pointer p] #[]) := by rw [hYd]; exact boxW_3 p most w
  have hyB : Below w.heap.size w Y := by rw [hYd]; exact boxW_below p most w
  have hyS : Y.heap.size = w.heap.size + 1 + 1 + 1 + 1 := by rw [hYd]; exact boxW_size p most w
  clear hYd
  have HYV := Lib.hid (show Below Y.heap.size Y (underW p k Y) from underW_below p k Y)
  obtain ⟨V, hVd⟩ : ∃ V, V = (underW p k Y) := ⟨_, rfl⟩
  have HV := Lib.hid hVd
  have hvB : Below Y.heap.size Y V := by rw [hVd]; exact HYV.out
  have v0 : V.cell? ⟨Y.heap.size, 0, none⟩ = some (.pointer p) := by rw [hVd]; exact underW_0 p k Y
  have v1 : V.heap[Y.heap.size + 1]? = some (.cells #[.string k] 9 (0, 0)) := by rw [hVd]; exact underW_1 p k Y
  have v1s := lt_of_blk v1
  have hwV : Below w.heap.size w V := below2 hyB hvB
  have b0 : Boxed V w.heap.size 3 (.int .i64 most) := block_below hvB by0
  have b1 : Boxed V (w.heap.size + 1) 22 (.slice none 0 0) := block_below hvB by1
  have b2 : Boxed V (w.heap.size + 1 + 1) 38 (.slice none 0 0) := block_below hvB by2
  have hvs : Y.heap.size ≤ V.heap.size := hvB.size
  have hrow : LRow V.heap.size (fun b => b = w.heap.size + 1 ∨ b = w.heap.size + 1 + 1) V A m c l := hr.to_L hwV hwV.size (fun b h => by omega)
  have hstop := Lib.hid (under_stops p Y.heap.size (Y.heap.size + 1) V.heap.size (V.heap.size + 2) (fun b => b = w.heap.size + 1 ∨ b = w.heap.size + 1 + 1) A m c k l V (Nat.le_refl _) v0 v1 ⟨v1s, fun h => by omega⟩ (h.below hwV) (by omega) hrow hs)
  have HB := Lib.hid hwV
  have c0 := b0.cell
  have HB1 := Lib.hid b1
  have HB2 := Lib.hid b2
  have HB0 := Lib.hid b0
  have HYS := Lib.hid hyS
  have HN0 : Hid (w.heap.size + 1 ≤ V.heap.size) := Lib.hid (by omega)
  clear h hr hs hrow by1 by2 by3 hwV b0 b1 b2 hVd hyB hvB by0 hyS
  by_cases hm0 : most = 0
  · subst hm0
    refine (callsIn_wide (n := 0)).1 (callsIn_of_wp_marks Try.func19 rfl trivial ?_ rfl)
    simp only [Try.ntmps19, List.size_toArray, List.length_cons, List.length_nil, Nat.reduceAdd, Nat.reduceSub, Array.replicate_succ, Array.replicate_zero, List.push_toArray, List.append_toArray, List.nil_append, List.cons_append]
    gi_wp2
    refine ⟨trivial, rfl, (callsIn_wide.2 (all_any p _)).mono ?_⟩
    rintro e Z ⟨rfl, hZ⟩
    obtain rfl : Z = Y := hZ.trans HY.out.symm
    clear hZ
    gi_wp2
    refine ⟨trivial, rfl, (callsIn_wide.2 (under_any p k _)).mono ?_⟩
    rintro e Z2 ⟨rfl, hZ⟩
    obtain rfl : Z2 = V := hZ.trans HV.out.symm
    clear hZ
    gi_wp2
    exact ⟨_, results_tmp2 rfl _ _ _, _, _, rfl, by rw [mostK_zero]; exact own_nil _ _ _ _, by rw [mostK_zero]; exact own_nil _ _ _ _, HB.out⟩
  · have qm := beq_f hm0
    have HM0 := Lib.hid hm0
    clear hm0
    refine (callsIn_wide (n := 0)).1 (callsIn_of_wp_marks Try.func19 rfl trivial ?_ rfl)
    simp only [Try.ntmps19, List.size_toArray, List.length_cons, List.length_nil, Nat.reduceAdd, Nat.reduceSub, Array.replicate_succ, Array.replicate_zero, List.push_toArray, List.append_toArray, List.nil_append, List.cons_append]
    gi_wp2
    refine ⟨trivial, rfl, (callsIn_wide.2 (all_any p _)).mono ?_⟩
    rintro e Z ⟨rfl, hZ⟩
    obtain rfl : Z = Y := hZ.trans HY.out.symm
    clear hZ
    gi_wp2
    refine ⟨trivial, rfl, (callsIn_wide.2 (under_any p k _)).mono ?_⟩
    rintro e Z2 ⟨rfl, hZ⟩
    obtain rfl : Z2 = V := hZ.trans HV.out.symm
    clear hZ
    gi_wp2
    clear c0
    refine range_law (P := Try.prog) (gf := 43) (lb := #[.pointer (some ⟨Z.heap.size, 0, none⟩), .pointer (some ⟨Z.heap.size + 1, 0, none⟩)]) (by first | rfl | simp) (enters_of Try.func43 (by kernel_rfl) rfl)
      hstop.out (fun h k => h.trans k) (fun W r o h => KeepC.turn W r o h) (fun _ => rfl)
      (fun pre U => Col Z2.heap.size (w.heap.size + 1) (w.heap.size + 1 + 1) pre U ∧ (0 < most → (pre.length : Int) < most) ∧ U.heap[w.heap.size]? = some (.cells #[.int .i64 most] 3 (0, 0)) ∧ Below w.heap.size w U)
      (fun c pre U => c = .exit 1 ∧ (pre.length : Int) = most ∧ Col Z2.heap.size (w.heap.size + 1) (w.heap.size + 1 + 1) pre U ∧ Below w.heap.size w U)
      (OwnFrom.and (Col.own _ _ _ _) (OwnFrom.and (ownFrom_pure _ _) (OwnFrom.and (ownFrom_blk _ _ _ _) (ownFrom_below (Nat.le_refl _) HB.out.size))))
      (fun c => OwnFrom.and (fun _ _ _ _ hs _ _ => hs) (OwnFrom.and (ownFrom_pure _ _) (OwnFrom.and (Col.own _ _ _ _) (ownFrom_below (Nat.le_refl _) HB.out.size))))
      ⟨⟨⟨_, HB1.out, own_nil _ _ _ _, trivial⟩, ⟨_, HB2.out, own_nil _ _ _ _, trivial⟩⟩, (fun h => h), HB0.out, HB.out⟩
      (fun _ x a' _ => a' = { tmps := #[.pointer p, .int .i64 7, .string k, .int .i64 most, undef, undef, undef, .pointer (some ⟨w.heap.size, 0, none⟩), .slice none 0 0, .slice none 0 0, .pointer (some ⟨w.heap.size + 1, 0, none⟩), .pointer (some ⟨w.heap.size + 1 + 1, 0, none⟩), .func (.func 43) #[] #[.pointer (some ⟨Z.heap.size, 0, none⟩), .pointer (some ⟨Z.heap.size + 1, 0, none⟩)], .string x.1, .int .i64 x.2, .pointer p, .func (.func 50) #[] #[.pointer (some ⟨w.heap.size + 1 + 1 + 1, 0, none⟩)], .int .i64 7, .bool false, .bool false, undef, undef, undef, .bool false, .bool false, undef, undef, .bool true, .bool true, .pointer p, .string k, .func (.func 43) #[] #[.pointer (some ⟨Z.heap.size, 0, none⟩), .pointer (some ⟨Z.heap.size + 1, 0, none⟩)], .int .i64 most, .bool false, .func (.func 43) #[] #[.pointer (some ⟨Z.heap.size, 0, none⟩), .pointer (some ⟨Z.heap.size + 1, 0, none⟩)], .string x.1, .int .i64 x.2, undef, undef, undef, undef, undef, undef, undef, undef, undef, undef, undef, undef, undef, undef], defers := [] })
      (fun _ _ _ _ _ _ _ hs _ _ => hs)
      ?assign ?body ?done ?stop
    case assign =>
      rintro l2 pre x U K hi hK
      gi_wp2
      exact hK _ _ (KeepsFrom.refl _ _) (KeepC.refl _ _ _) hi (by first | rfl | simp)
    case body =>
      rintro l2 pre x a' U hU ⟨⟨⟨kv, bk, rk, -⟩, vv, bv, rv, -⟩, hlt, hb0, hBU⟩ rfl hlen
      have hpl : pre.length + 1 ≤ 8796093022208 := by have h1 := hlen.length_le; rw [List.length_append] at h1; have := HNL.out; have := HLM.out; simp at h1; omega
      have hUs : Z2.heap.size ≤ U.heap.size := by omega
      have HBK := Lib.hid bk
      have HBV := Lib.hid bv
      have HRK := Lib.hid rk
      have HRV := Lib.hid rv
      have HB0U := Lib.hid hb0
      have HBU := Lib.hid hBU
      have HLT := Lib.hid hlt
      have HUS := Lib.hid hUs
      have HPL := Lib.hid hpl
      have ck := bk.cell
      clear bk bv rk rv hb0 hBU hlt hUs hpl hlen hU
      by_cases hq : ((pre.length : Int) + 1) = most
      · have hq1 : ((pre.length : Int) + 1 == most) = true := beq_t hq
        have HQ := Lib.hid hq
        clear hq
        gi_wp2_with (first
          | (gi_at_builtin; refine wpIn_app eS (by decide) rfl (.tmp 37) (.tmp 39) rfl Z2.heap.size kv pre.length (keysV pre) [.string x.1] rfl _ rfl rfl rfl (by simp [Value.oneCell']) HRK.out HUS.out (by have := HPL.out; omega) (by have := HPL.out; omega) ?_; intro v1 w1 own1 hg1; obtain ⟨g1, c1, rfl⟩ := ownsRow_succ own1; obtain ⟨bk1, bk2, rk2, M1⟩ := box_app HBK.out (by decide) HRK.out own1 hg1; have d1 := bk1.cell; have f1 := bk1.frozen; have rv1 := own_mut HRV.out M1 (fun b hb h => h.elim (fun h => own_ne HRV.out HRK.out (by decide) hb h) (fun h => (HBK.out.not_row (by decide) HRV.out) (by rw [hb, h]))); have bv1 : Boxed _ (w.heap.size + 1 + 1) 38 vv := boxed_mut HBV.out M1 (fun h => h.elim (fun h => (HBV.out.not_row (by decide) HRK.out) h.symm) (fun h => by omega)); have cv1 := bv1.cell; have HRV1 := Lib.hid rv1; have HBV1 := Lib.hid bv1; have HM1 := Lib.hid M1; have HRK2 := Lib.hid rk2; have HBK2 := Lib.hid bk2; have hs1 := M1.size; have HS1 := Lib.hid hs1; clear own1 hg1 bk1 bk2 rk2 M1 rv1 bv1 hs1)
          | (gi_at_builtin; refine wpIn_app eI (by decide) rfl (.tmp 41) (.tmp 43) rfl Z2.heap.size vv pre.length (intsV pre) [.int .i64 x.2] rfl w1.heap.size (by simp) rfl rfl (by simp [Value.oneCell']) HRV1.out (Nat.le_trans HUS.out HS1.out) (by have := HPL.out; omega) (by have := HPL.out; omega) ?_; intro v2 w2 own2 hg2; obtain ⟨g2, c2, rfl⟩ := ownsRow_succ own2; obtain ⟨bv3, bv4, rv4, M2⟩ := box_app HBV1.out (by decide) HRV1.out own2 hg2; have d2 := bv3.cell; have f2 := bv3.frozen; have HE := col_end (n₁ := 0) (by omega) HBK.out HBV.out HRK.out HRV.out HBK2.out HRK2.out HM1.out bv4 rv4 M2; have K1 := col_keep (n₁ := Z2.heap.size) (T := fun b => b = w.heap.size + 1 ∨ b = w.heap.size + 1 + 1) (Nat.le_refl _) (.inl rfl) (.inr rfl) HBK.out HBV.out HRK.out HRV.out HE.1; have ck2 := HE.2.1.cell; have BE0 : _ = some (Obj.cells #[Value.int .i64 most] 3 (0, 0)) := HE.1.blk HB0U.out (fun h => by have := col_far HRK.out HRV.out HN0.out (Nat.le_refl _) (by omega) h; omega); have c02 := cell_of_blk BE0 0; have HBE := below_of_mut HBU.out HE.1 (fun b h => col_far HRK.out HRV.out (Nat.le_of_succ_le HN0.out) (by omega) (by omega) h); clear own2 hg2 bv3 bv4 rv4 M2))
        · exact ⟨(K1.2.from _), rfl, by rw [List.length_append]; have := HQ.out; simpa using this, HE.2.2, HBE⟩
      · have hq1 : ((pre.length : Int) + 1 == most) = false := beq_f hq
        have HQ := Lib.hid hq
        clear hq
        gi_wp2_with (first
          | (gi_at_builtin; refine wpIn_app eS (by decide) rfl (.tmp 37) (.tmp 39) rfl Z2.heap.size kv pre.length (keysV pre) [.string x.1] rfl _ rfl rfl rfl (by simp [Value.oneCell']) HRK.out HUS.out (by have := HPL.out; omega) (by have := HPL.out; omega) ?_; intro v1 w1 own1 hg1; obtain ⟨g1, c1, rfl⟩ := ownsRow_succ own1; obtain ⟨bk1, bk2, rk2, M1⟩ := box_app HBK.out (by decide) HRK.out own1 hg1; have d1 := bk1.cell; have f1 := bk1.frozen; have rv1 := own_mut HRV.out M1 (fun b hb h => h.elim (fun h => own_ne HRV.out HRK.out (by decide) hb h) (fun h => (HBK.out.not_row (by decide) HRV.out) (by rw [hb, h]))); have bv1 : Boxed _ (w.heap.size + 1 + 1) 38 vv := boxed_mut HBV.out M1 (fun h => h.elim (fun h => (HBV.out.not_row (by decide) HRK.out) h.symm) (fun h => by omega)); have cv1 := bv1.cell; have HRV1 := Lib.hid rv1; have HBV1 := Lib.hid bv1; have HM1 := Lib.hid M1; have HRK2 := Lib.hid rk2; have HBK2 := Lib.hid bk2; have hs1 := M1.size; have HS1 := Lib.hid hs1; clear own1 hg1 bk1 bk2 rk2 M1 rv1 bv1 hs1)
          | (gi_at_builtin; refine wpIn_app eI (by decide) rfl (.tmp 41) (.tmp 43) rfl Z2.heap.size vv pre.length (intsV pre) [.int .i64 x.2] rfl w1.heap.size (by simp) rfl rfl (by simp [Value.oneCell']) HRV1.out (Nat.le_trans HUS.out HS1.out) (by have := HPL.out; omega) (by have := HPL.out; omega) ?_; intro v2 w2 own2 hg2; obtain ⟨g2, c2, rfl⟩ := ownsRow_succ own2; obtain ⟨bv3, bv4, rv4, M2⟩ := box_app HBV1.out (by decide) HRV1.out own2 hg2; have d2 := bv3.cell; have f2 := bv3.frozen; have HE := col_end (n₁ := 0) (by omega) HBK.out HBV.out HRK.out HRV.out HBK2.out HRK2.out HM1.out bv4 rv4 M2; have K1 := col_keep (n₁ := Z2.heap.size) (T := fun b => b = w.heap.size + 1 ∨ b = w.heap.size + 1 + 1) (Nat.le_refl _) (.inl rfl) (.inr rfl) HBK.out HBV.out HRK.out HRV.out HE.1; have ck2 := HE.2.1.cell; have BE0 : _ = some (Obj.cells #[Value.int .i64 most] 3 (0, 0)) := HE.1.blk HB0U.out (fun h => by have := col_far HRK.out HRV.out HN0.out (Nat.le_refl _) (by omega) h; omega); have c02 := cell_of_blk BE0 0; have HBE := below_of_mut HBU.out HE.1 (fun b h => col_far HRK.out HRV.out (Nat.le_of_succ_le HN0.out) (by omega) (by omega) h); clear own2 hg2 bv3 bv4 rv4 M2))
        · exact ⟨(K1.2.from _), K1.1, HE.2.2, (by rw [List.length_append]; have h1 := HLT.out; have h2 := HQ.out; intro h3; have := h1 h3; simp; omega), BE0, HBE⟩
    case done =>
      rintro D ys U hD rfl ⟨⟨⟨kv, bk, rk, -⟩, vv, bv, rv, -⟩, hlt, hb0, hBU⟩ hK
      have HLT := Lib.hid hlt
      have ck := bk.cell
      have cv := bv.cell
      clear hlt hb0
      gi_wp2
      gi_region
      all_goals gi_wp2
      refine ⟨by simp, .inl ⟨_, _, rfl, run_takeDeferred (w := U.drew) hK, ?_⟩⟩
      refine ⟨_, results_tmp2 rfl _ _ _, kv, vv, rfl, ?_, ?_, ?_⟩
      · rw [most_all HLT.out HM0.out]; exact own_base (ownsRow_putObj (W := U.drew) rk _ hK rfl) HB.out.size
      · rw [most_all HLT.out HM0.out]; exact own_base (ownsRow_putObj (W := U.drew) rv _ hK rfl) HB.out.size
      · exact (show Below w.heap.size w U.drew from ⟨hBU.os, hBU.tape, hBU.output, hBU.size, hBU.block⟩).trans (belowK_b (w := w) (Nat.le_refl _) U.drew D _ _ (Nat.le_trans HB.out.size hD) hK rfl rfl)
    case stop =>
      rintro D c pre U hD hS ⟨rfl, hq, ⟨⟨kv, bk, rk, -⟩, vv, bv, rv, -⟩, hBU⟩ hK
      have HQ := Lib.hid hq
      have ck := bk.cell
      have cv := bv.cell
      clear hq
      gi_wp2
      gi_region
      all_goals gi_wp2
      refine ⟨by simp, .inl ⟨_, _, rfl, run_takeDeferred (w := U.drew) hK, ?_⟩⟩
      refine ⟨_, results_tmp2 rfl _ _ _, kv, vv, rfl, ?_, ?_, ?_⟩
      · rw [most_some hS HQ.out]; exact own_base (ownsRow_putObj (W := U.drew) rk _ hK rfl) HB.out.size
      · rw [most_some hS HQ.out]; exact own_base (ownsRow_putObj (W := U.drew) rv _ hK rfl) HB.out.size
      · exact (show Below w.heap.size w U.drew from ⟨hBU.os, hBU.tape, hBU.output, hBU.size, hBU.block⟩).trans (belowK_b (w := w) (Nat.le_refl _) U.drew D _ _ (Nat.le_trans HB.out.size hD) hK rfl rfl)
end Go.Proofs.Ytncgcjfpoableaa.srtI
