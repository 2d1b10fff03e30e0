/-
  The walks of sorted.Map[int]'s ranges: Under.
-/
import Derived.Test.YtncgcjfpoableaaSrtJ
set_option linter.unusedVariables false
set_option linter.unusedSimpArgs false
namespace Go.Proofs.Base
open Go Go.RowKit
theorem begins_take {s h : ByteArray} (hle : h.size ≤ s.size) : ((s.extract 0 h.size).toList == h.toList) = beginsS s h := by
  unfold beginsS
  rw [Bool.eq_iff_iff, beq_iff_eq, List.isPrefixOf_iff_prefix, toList_toL, toList_toL]
  have e1 : toL (s.extract 0 h.size) = (toL s).take h.size := by simp [toL, ByteArray.data_extract]
  rw [e1]
  have e2 : (toL h).length = h.size := toL_length h
  constructor
  · intro h1; rw [List.prefix_iff_eq_take]; show toL h = (toL s).take (toL h).length; rw [e2, h1]
  · intro h1; rw [List.prefix_iff_eq_take] at h1; have h1' : toL h = (toL s).take (toL h).length := h1; rw [e2] at h1'; exact h1'.symm
theorem begins_long {s h : ByteArray} (hlt : s.size < h.size) : beginsS s h = false := by
  cases hb : beginsS s h with
  | false => rfl
  | true =>
    have := (List.isPrefixOf_iff_prefix.1 hb).length_le
    have e1 : h.data.toList.length = h.size := toL_length h
    have e2 : s.data.toList.length = s.size := toL_length s
    omega
end Go.Proofs.Base
namespace Go.Proofs.Ytncgcjfpoableaa
open Go Go.RowKit Go.Proofs.Base
theorem lite_HasPrefix (s h : ByteArray) (w : World) :
    Calls Try.prog 54 #[.string s, .string h] w fun e w' => e = .returned (.bool (beginsS s h)) ∧ w = w' := by
  by_cases hle : h.size ≤ s.size
  · have HB := Lib.hid (begins_take hle)
    go_enter Try.func54, Try.ntmps54
    go_wp2
    go_ret
    exact ⟨by rw [← HB.out]; rfl, rfl⟩
  · have HB := Lib.hid (begins_long (s := s) (h := h) (by omega))
    go_enter Try.func54, Try.ntmps54
    go_wp2
    go_ret
    exact ⟨by rw [HB.out]; exact ret1 rfl, rfl⟩
theorem str_HasPrefix (s h : ByteArray) (w : World) :
    Calls Try.prog 44 #[.string s, .string h] w fun e w' => e = .returned (.bool (beginsS s h)) ∧ w = w' := by
  have h1 := lite_HasPrefix s h w
  go_enter Try.func44, Try.ntmps44
  go_wp2_with (go_at_call 54; refine h1.mono ?_; rintro e w' ⟨rfl, rfl⟩)
  go_ret
  exact ⟨rfl, rfl⟩
theorem ref_Begins (s h : ByteArray) (w : World) :
    Calls Try.prog 23 #[.string s, .string h] w fun e w' => e = .returned (.bool (beginsS s h)) ∧ w = w' := by
  by_cases hle : h.size ≤ s.size
  · have HB := Lib.hid (begins_take hle)
    go_enter Try.func23, Try.ntmps23
    go_wp2
    go_ret
    exact ⟨by rw [← HB.out]; rfl, rfl⟩
  · have HB := Lib.hid (begins_long (s := s) (h := h) (by omega))
    go_enter Try.func23, Try.ntmps23
    go_wp2
    go_ret
    exact ⟨by rw [HB.out]; exact ret1 rfl, rfl⟩
end Go.Proofs.Ytncgcjfpoableaa
namespace Go.Proofs.Ytncgcjfpoableaa.srtI
open Go Go.RowKit Go.Shelf Go.Proofs.Base
attribute [local go_sem] Oper.semAt_some
def underW (p : Option Addr) (k : ByteArray) (w : World) : World := (w.alloc (.cells #[.pointer p] 35)).alloc (.cells #[.string k] 9)
theorem under_any (p : Option Addr) (k : ByteArray) (w : World) :
    Calls Try.prog 30 #[.pointer p, .string k] w fun e w' => e = .returned (.func (.func 43) #[] #[.pointer (some ⟨w.heap.size, 0, none⟩), .pointer (some ⟨w.heap.size + 1, 0, none⟩)]) ∧ w' = underW p k w := by
  go_enter Try.func30, Try.ntmps30
  go_wp2
  go_ret
  exact ⟨rfl, rfl⟩
theorem while_prefix {α : Type} {p : α → Bool} : ∀ {a l : List α}, a <+: l → (∀ x ∈ a, p x = true) → a <+: l.takeWhile p
  | [], _, _, _ => List.nil_prefix
  | x :: a, [], h, _ => by simp at h
  | x :: a, y :: l, h, ha => by
    obtain ⟨rfl, h2⟩ := List.cons_prefix_cons.1 h
    rw [List.takeWhile_cons_of_pos (ha x (by simp))]
    exact List.cons_prefix_cons.2 ⟨rfl, while_prefix h2 (fun z hz => ha z (by simp [hz]))⟩
theorem while_stops {α : Type} {p : α → Bool} : ∀ {a l : List α} {x : α}, a ++ [x] <+: l → (∀ y ∈ a, p y = true) → p x = false → l.takeWhile p = a
  | [], [], x, h, _, _ => by simp at h
  | [], y :: l, x, h, _, hx => by
    obtain ⟨rfl, _⟩ := List.cons_prefix_cons.1 h
    rw [List.takeWhile_cons_of_neg (by simp [hx])]
  | z :: a, [], x, h, _, _ => by simp at h
  | z :: a, y :: l, x, h, ha, hx => by
    obtain ⟨rfl, h2⟩ := List.cons_prefix_cons.1 h
    rw [List.takeWhile_cons_of_pos (ha z (by simp)), while_stops h2 (fun w hw => ha w (by simp [hw])) hx]
theorem while_all {α : Type} {p : α → Bool} {l : List α} (h : ∀ y ∈ l, p y = true) : l.takeWhile p = l := by
  induction l with
  | nil => rfl
  | cons y l ih => rw [List.takeWhile_cons_of_pos (h y (by simp)), ih (fun z hz => h z (by simp [hz]))]

set_option maxHeartbeats 2000000 in
/-- Under's range -/
theorem under_stops (p : Option Addr) (bm bk n₀ n₂ : Nat) (T : Nat → Prop) (A : Option Addr) (m c : Nat) (k : ByteArray) (l : List (KV Int)) (w : World) (hn₂ : n₀ + 2 ≤ n₂)
    (hm : w.cell? ⟨bm, 0, none⟩ = some (.pointer p)) (hk : w.heap[bk]? = some (.cells #[.string k] 9 (0, 0))) (hbk : bk < n₀ ∧ ¬ T bk) (hH : Holds w p (.slice A m c)) (hn : m < 4611686018427387904) (hr : LRow n₀ T w A m c l) (hs : Rises l) :
    SeqN Try.prog 43 #[.pointer (some ⟨bm, 0, none⟩), .pointer (some ⟨bk, 0, none⟩)] (fun x : KV Int => #[Value.string x.1, .int .i64 x.2]) (KeepC n₀ T) (fun ys => ys = underK k l) (fun pre => pre <+: underK k l) (fun pre => pre <+: underK k l) n₂ w := by
  intro lp J Jx W hW hn' hJ hJx hY h0
  obtain ⟨Y, hYd⟩ : ∃ Y, Y = W.alloc (.cells #[.func (.yield lp) #[] #[]] 75) := ⟨_, rfl⟩
  have hy0 : Below W.heap.size W Y := by rw [hYd]; exact (Below.refl _ _).alloc (Nat.le_refl _) _
  have h1 := from_any p k Y
  have hm2 := cell_below hy0 (cell_below hW hm)
  have hk2 := cell_of_blk (block_below hy0 (block_below hW hk)) 0
  have hy1 : Below W.heap.size W (fromW p k Y) := below_alloc (below_alloc (below_alloc hy0 _) _) _
  have hYs : Y.heap.size = W.heap.size + 1 := by rw [hYd]; simp
  have bY : (fromW p k Y).heap[W.heap.size]? = some (.cells #[.func (.yield lp) #[] #[]] 75 (0, 0)) := by
    have : Y.heap[W.heap.size]? = some (.cells #[.func (.yield lp) #[] #[]] 75 (0, 0)) := by rw [hYd]; exact heap_alloc_new W _
    exact block_below (below_alloc (below_alloc (below_alloc (Below.refl _ Y) _) _) _) this
  have c2 : (fromW p k Y).cell? ⟨Y.heap.size + 1 + 1, 0, none⟩ = some (fromFv Y.heap.size) := by
    have := cell_of_blk (heap_alloc_new ((Y.alloc (.cells #[.pointer p] 35)).alloc (.cells #[.string k] 9)) (.cells #[fromFv Y.heap.size] 71)) 0
    simpa [fromW] using this
  have c1 : (fromW p k Y).cell? ⟨Y.heap.size + 1, 0, none⟩ = some (.string k) := by
    have := cell_of_blk (heap_alloc_new (Y.alloc (.cells #[.pointer p] 35)) (.cells #[.string k] 9)) 0
    exact cell_below (below_alloc (Below.refl _ _) _) (by simp)
  have c0 : (fromW p k Y).cell? ⟨Y.heap.size, 0, none⟩ = some (.pointer p) := by
    have := cell_of_blk (heap_alloc_new Y (.cells #[.pointer p] 35)) 0
    exact cell_below (below_alloc (below_alloc (Below.refl _ _) _) _) (by simp)
  have hsz : (fromW p k Y).heap.size = W.heap.size + 4 := by simp [fromW, hYs]
  have hj0 : J [] (fromW p k Y) := own_below hJ h0 hy1
  have hR1 := Lib.hid ((hr.below hW).below hy1)
  have hH1 : Holds (fromW p k Y) p (.slice A m c) := (hH.below hW).below hy1
  have hk3 := block_below hy1 (block_below hW hk)
  generalize hV : fromW p k Y = V at *
  have hrow : LRow V.heap.size (fun b => n₀ ≤ b ∨ T b) V A m c l := ⟨hR1.out.1, hR1.out.2.weaken (fun b hb h => ⟨hb, fun h2 => h2.elim (fun h3 => by have := h.1; omega) h.2⟩)⟩
  have hrJ : OwnFrom V.heap.size J := OwnFrom.mono' (B := W.heap.size) (I := J) hJ (by rw [hsz]; omega)
  have hrJx : OwnFrom V.heap.size Jx := OwnFrom.mono' (B := W.heap.size) (I := Jx) hJx (by rw [hsz]; omega)
  have hstop := from_stops p Y.heap.size (Y.heap.size + 1 + 1) V.heap.size (V.heap.size + 2) (fun b => n₀ ≤ b ∨ T b) A m c k l V c2 c0 c1 hH1 hn hrow hs
  have HY := Lib.hid hV
  refine callsIn_of_wp_marks Try.func43 rfl trivial ?_ rfl
  simp only [Try.ntmps43, List.size_toArray, List.length_cons, List.length_nil, Nat.reduceAdd, Nat.reduceSub, Array.replicate_succ, Array.replicate_zero, List.push_toArray, List.append_toArray, List.nil_append, List.cons_append]
  rw [hYd] at h1 hm2 hk2
  clear hs hr hH hH1 hrow
  gi_wp2
  refine ⟨trivial, rfl, (callsIn_wide.2 h1).mono ?_⟩
  rintro e w1 ⟨rfl, hw1⟩
  rw [hw1]
  clear hw1
  gi_wp2
  clear h1 hm2 hk2 c0 c1 c2
  refine range_law (P := Try.prog) (gf := 50) (lb := #[.pointer (some ⟨W.heap.size + 1 + 1 + 1, 0, none⟩)]) (by first | rfl | simp) (enters_of Try.func50 (by kernel_rfl) rfl)
    (by rw [hYs] at hstop; exact hstop) (fun h k => h.trans k) (fun W r o h => KeepC.turn W r o h) (fun _ => rfl)
    (fun pre U => ((∀ x ∈ pre, beginsS x.1 k = true) ∧ J pre U) ∧ U.heap[W.heap.size]? = some (.cells #[.func (.yield lp) #[] #[]] 75 (0, 0)) ∧ U.heap[bk]? = some (.cells #[.string k] 9 (0, 0)))
    (fun c pre U => c = .ret ∧ ((∃ p0 x, pre = p0 ++ [x] ∧ (∀ y ∈ p0, beginsS y.1 k = true) ∧ beginsS x.1 k = false ∧ J p0 U) ∨ ((∀ y ∈ pre, beginsS y.1 k = true) ∧ Jx pre U)))
    (OwnFrom.and (OwnFrom.and (ownFrom_pure _ _) hrJ) (OwnFrom.and (ownFrom_blk _ _ _ _) (ownFrom_blk _ _ _ _)))
    (fun c s X B row hs hg hr => by
      obtain ⟨hc, ⟨p0, x, e, g1, g2, g3⟩ | ⟨g1, g2⟩⟩ := hs
      · exact ⟨hc, .inl ⟨p0, x, e, g1, g2, hrJ _ X B row g3 hg hr⟩⟩
      · exact ⟨hc, .inr ⟨g1, hrJx _ X B row g2 hg hr⟩⟩)
    ⟨⟨by simp, hj0⟩, bY, hk3⟩
    (fun _ x a' U => a' = { tmps := #[.func (.yield lp) #[] #[], .pointer (some ⟨bm, 0, none⟩), .pointer (some ⟨bk, 0, none⟩), .pointer (some ⟨W.heap.size, 0, none⟩), .string x.1, .int .i64 x.2, .pointer p, .string k, .func (.func 50) #[] #[.pointer (some ⟨W.heap.size + 1 + 1 + 1, 0, none⟩)], .string x.1, .int .i64 x.2, undef, undef, undef, undef, undef, undef, undef, undef, undef, undef, undef], defers := [] })
    (fun _ _ _ _ _ _ _ hs _ _ => hs)
    ?assign ?body ?done ?stop
  case assign =>
    rintro l2 pre x U K hi hK
    gi_wp2
    exact hK _ _ (KeepsFrom.refl _ _) (KeepC.refl _ _ _) hi (by first | rfl | simp)
  case body =>
    rintro l2 pre x a' U hU ⟨⟨hall, hj⟩, hb, hbk'⟩ rfl hlen
    have d0 := cell_of_blk hb 0
    have d1 := cell_of_blk hbk' 0
    have HALL := Lib.hid hall
    have hp := str_HasPrefix x.1 k U
    clear hall
    cases hx : beginsS x.1 k with
    | true =>
      rw [hx] at hp
      obtain ⟨fn, tmps, assign, body, hy, hR⟩ := hY pre x U hj (while_prefix hlen (fun y hy => (List.mem_append.1 hy).elim (HALL.out y) (fun h => by rw [List.mem_singleton.1 h]; exact hx)))
      have HX := Lib.hid hx
      clear hx
      gi_wp2
      refine ⟨trivial, rfl, CallsIn.mono (F := Fence.wide.inRound l2) (callsIn_wide.2 hp) ?_⟩
      rintro e w2 ⟨rfl, rfl⟩
      gi_wp2
      have hall' : ∀ y ∈ pre ++ [x], beginsS y.1 k = true := fun y hy => (List.mem_append.1 hy).elim (HALL.out y) (fun h => by rw [List.mem_singleton.1 h]; exact HX.out)
      refine ⟨rfl, RoundIn.mono (F := Fence.wide.inRound l2) hR ?_⟩
      rintro e U' (⟨rfl, hj3, hk4⟩ | ⟨rfl, hjx, hkf⟩)
      · gi_wp2
        exact ⟨hk4.others (by omega), hk4.inner (by omega), ⟨hall', hj3⟩, hk4.2.1 _ _ _ _ hb (.inr (.inr (.inr rfl))), hk4.2.1 _ _ _ _ hbk' (.inl hbk)⟩
      · gi_wp2
        exact ⟨KeepsFrom.mono' hkf (by omega), rfl, .inr ⟨hall', hjx⟩⟩
    | false =>
      rw [hx] at hp
      have HX := Lib.hid hx
      clear hx
      gi_wp2
      refine ⟨trivial, rfl, CallsIn.mono (F := Fence.wide.inRound l2) (callsIn_wide.2 hp) ?_⟩
      rintro e w2 ⟨rfl, rfl⟩
      gi_wp2
      refine ⟨fun _ h => (by cases h), ?_⟩
      gi_wp2
      exact ⟨KeepsFrom.refl _ _, rfl, .inl ⟨pre, x, rfl, HALL.out, HX.out, hj⟩⟩
  case done =>
    rintro D ys U hD rfl ⟨⟨hall, hj⟩, _, _⟩ hK
    have HU := Lib.hid (while_all hall)
    clear hall
    gi_wp2
    refine ⟨by simp, .inl ⟨_, _, rfl, run_takeDeferred hK, ?_⟩⟩
    exact ⟨_, results_none rfl _ _ _, ⟨_, rfl⟩, .inl ⟨_, HU.out.symm, hrJ.putObj _ hj hD hK rfl⟩⟩
  case stop =>
    rintro D c pre U hD hS ⟨rfl, h⟩ hK
    have H := Lib.hid h
    clear h
    gi_wp2
    refine ⟨by simp, .inl ⟨_, _, rfl, run_takeDeferred hK, ?_⟩⟩
    rcases H.out with ⟨p0, x, rfl, h1, h2, h3⟩ | ⟨h1, h2⟩
    · exact ⟨_, results_none rfl _ _ _, ⟨_, rfl⟩, .inl ⟨_, (while_stops hS h1 h2).symm, hrJ.putObj _ h3 hD hK rfl⟩⟩
    · exact ⟨_, results_none rfl _ _ _, ⟨_, rfl⟩, .inr ⟨_, while_prefix hS h1, hrJx.putObj _ h2 hD hK rfl⟩⟩
end Go.Proofs.Ytncgcjfpoableaa.srtI
