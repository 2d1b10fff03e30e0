/-
  The walks of sorted.Map[int]'s ranges: From, Down.
-/
import Derived.Test.YtncgcjfpoableaaSrtII
set_option linter.unusedVariables false
set_option linter.unusedSimpArgs false
namespace Go.Proofs.Ytncgcjfpoableaa.srtI
open Go Go.RowKit Go.Shelf Go.Proofs.Base
attribute [local go_sem] Oper.semAt_some

/-! ### From -/
def fromFv (b : Nat) : Value := .func (.func 39) #[] #[.pointer (some ⟨b, 0, none⟩), .pointer (some ⟨b + 1, 0, none⟩)]
def fromW (p : Option Addr) (k : ByteArray) (w : World) : World :=
  ((w.alloc (.cells #[.pointer p] 35)).alloc (.cells #[.string k] 9)).alloc (.cells #[fromFv w.heap.size] 71)
theorem from_any (p : Option Addr) (k : ByteArray) (w : World) :
    Calls Try.prog 22 #[.pointer p, .string k] w fun e w' => e = .returned (.func (.func 50) #[] #[.pointer (some ⟨w.heap.size + 1 + 1, 0, none⟩)]) ∧ w' = fromW p k w := by
  go_enter Try.func22, Try.ntmps22
  go_wp2_with (go_at_call 38; refine (over_any _ _ _ _).mono ?_; rintro e w' ⟨rfl, rfl⟩)
  go_ret
  exact ⟨by simp, rfl⟩
theorem from1 (S : Nat → Prop) (bm bk : Nat) (p A A2 : Option Addr) (m c : Nat) (k : ByteArray) (l : List (KV Int)) (w : World) (hm : w.cell? ⟨bm, 0, none⟩ = some (.pointer p)) (hk : w.cell? ⟨bk, 0, none⟩ = some (.string k))
    (h : Holds w p (.slice A m c)) (hn : m < 4611686018427387904) (hr : PRow w S A m c l) (hs : Rises l) (hA2 : (if c = idxK k l then A else A.map (·.add (idxK k l * 2))) = A2) :
    Calls Try.prog 39 #[.pointer (some ⟨bm, 0, none⟩), .pointer (some ⟨bk, 0, none⟩)] w fun e w' => e = .returned (.slice A2 (m - idxK k l) (c - idxK k l)) ∧ Below w.heap.size w w' := by
  have h1 := find_any S p A m c k l w h hn hr hs
  have h2 := fun W hW => pairs_any p A m c W (h.below hW)
  have hin : idxK k l ≤ m := by have := hr.1; have := idxK_le k l; omega
  have hcn := hr.le
  generalize idxK k l = i at *
  have hq2 : ∀ w, (Instr.slice 68 (.slice A m c) (some (.int .i64 (i : Int))) none none).run Try.prog w = .ok (.slice A2 (m - i) (c - i)) w := run_from eP A A2 m c i _ rfl hin hA2
  have HM := Lib.hid hm
  have H1 := Lib.hid h1
  have H2 := Lib.hid h2
  clear h1 h2 hr hs hA2 h
  go_enter Try.func39, Try.ntmps39
  go_wp2_with (first
    | (go_at_call 40; refine H1.out.mono ?_; rintro e w1 ⟨rfl, hb1⟩; have d1 := cell_below hb1 HM.out; have HB1 := Lib.hid hb1; clear hb1)
    | (go_at_call 37; refine (H2.out _ HB1.out).mono ?_; rintro e w2 ⟨rfl, rfl⟩))
  go_ret
  exact ⟨rfl, HB1.out⟩
theorem LRow.from_ {n₀ : Nat} {T : Nat → Prop} {w : World} {A A2 : Option Addr} {m c i : Nat} {l : List (KV Int)} (hr : LRow n₀ T w A m c l) (hi : i ≤ m) (hA2 : (if c = i then A else A.map (·.add (i * 2))) = A2) : LRow n₀ T w A2 (m - i) (c - i) (l.drop i) := by
  have h := hr.2.drop i hi
  rw [pcells_drop, hA2] at h
  exact ⟨by rw [List.length_drop, hr.1], h⟩
/-- From's range -/
theorem from_stops (p : Option Addr) (bm Bf n₀ n₂ : Nat) (T : Nat → Prop) (A : Option Addr) (m c : Nat) (k : ByteArray) (l : List (KV Int)) (w : World)
    (hBf : w.cell? ⟨Bf, 0, none⟩ = some (fromFv bm)) (hm : w.cell? ⟨bm, 0, none⟩ = some (.pointer p)) (hk : w.cell? ⟨bm + 1, 0, none⟩ = some (.string k)) (hH : Holds w p (.slice A m c)) (hn : m < 4611686018427387904) (hr : LRow n₀ T w A m c l) (hs : Rises l) :
    SeqN Try.prog 50 #[.pointer (some ⟨Bf, 0, none⟩)] (fun x : KV Int => #[Value.string x.1, .int .i64 x.2]) (KeepC n₀ T) (fun ys => ys = fromK k l) (fun pre => pre <+: fromK k l) (fun pre => pre <+: fromK k l) n₂ w := by
  intro lp J Jx W hW _ hJ _ hY h0
  have hin : idxK k l ≤ m := by have := hr.1; have := idxK_le k l; omega
  refine over1f #[] #[.pointer (some ⟨bm, 0, none⟩), .pointer (some ⟨bm + 1, 0, none⟩)] (m - idxK k l) lp Bf n₀ n₂ T _ _ (c - idxK k l) (fromK k l) (fun _ h => h) J Jx W (cell_below hW hBf) ?_ (LRow.from_ (hr.below hW) hin rfl) (fun W' hb => own_below hJ h0 hb) (fun pre W1 o h => hJ.alloc _ h) hY
  exact from1 _ bm (bm + 1) p A _ m c k l W (cell_below hW hm) (cell_below hW hk) (hH.below hW) hn (hr.below hW) hs rfl

/-! ### Down -/
theorem down_any (p : Option Addr) (w : World) :
    Calls Try.prog 29 #[.pointer p] w fun e w' => e = .returned (.func (.func 41) #[] #[.pointer (some ⟨w.heap.size, 0, none⟩)]) ∧ w' = w.alloc (.cells #[.pointer p] 35) := by
  go_enter Try.func29, Try.ntmps29
  go_wp2
  go_ret
  exact ⟨rfl, rfl⟩
theorem back_any (A : Option Addr) (m c : Nat) (w : World) :
    Calls Try.prog 42 #[.slice A m c] w fun e w' => e = .returned (.func (.func 53) #[] #[.pointer (some ⟨w.heap.size, 0, none⟩)]) ∧ w' = w.alloc (.cells #[.slice A m c] 68) := by
  go_enter Try.func42, Try.ntmps42
  go_wp2
  go_ret
  exact ⟨rfl, rfl⟩
theorem rev_take {α : Type} (l : List α) (i : Nat) (hi : i < l.length) : l.reverse.take (l.length - i) = l.reverse.take (l.length - (i + 1)) ++ [l[i]] := by
  have h1 : l.length - i = l.length - (i + 1) + 1 := by omega
  rw [h1, List.take_succ_eq_append_getElem (by rw [List.length_reverse]; omega)]
  congr 2
  rw [List.getElem_reverse]
  congr 1
  omega
abbrev encB (x : Nat × KV Int) : Array Value := #[.int .i64 (x.1 : Nat), .agg #[.string x.2.1, .int .i64 x.2.2]]
set_option maxRecDepth 100000 in
set_option maxHeartbeats 2000000 in
theorem back1 (lp Bs n₀ n₂ : Nat) (T : Nat → Prop) (A : Option Addr) (m c : Nat) (l : List (KV Int)) (J Jx : List (Nat × KV Int) → World → Prop) (W : World)
    (hBs : W.heap[Bs]? = some (.cells #[.slice A m c] 68 (0, 0))) (hr : LRow n₀ T W A m c l) (h0 : J [] W)
    (hY : ∀ pre x W1, J pre W1 → (pre ++ [x]).map Prod.snd <+: l.reverse → YieldAt Fence.wide 0 Try.prog lp (encB x) W1 fun e W' =>
      (e = .returned (.bool true) ∧ J (pre ++ [x]) W' ∧ KeepC n₀ T W1 W') ∨ (e = .returned (.bool false) ∧ Jx (pre ++ [x]) W' ∧ KeepsFrom n₂ W1 W')) :
    CallsIn Fence.wide 0 Try.prog 53 #[.func (.yield lp) #[] #[], .pointer (some ⟨Bs, 0, none⟩)] W fun e W' => (∃ v, e = .returned v) ∧
      ((∃ ys, ys.map Prod.snd = l.reverse ∧ J ys W') ∨ (∃ pre, pre.map Prod.snd <+: l.reverse ∧ Jx pre W')) := by
  have hcn := hr.le
  have HL := Lib.hid hr.1
  have HR := Lib.hid hr
  have HBs := Lib.hid hBs
  have d0 := cell_of_blk hBs 0
  clear hr hBs
  refine callsIn_of_wp Try.func53 rfl trivial ?_ rfl
  simp only [Try.ntmps53, List.size_toArray, List.length_cons, List.length_nil, Nat.reduceAdd, Nat.reduceSub, Array.replicate_succ, Array.replicate_zero, List.push_toArray, List.append_toArray, List.nil_append, List.cons_append]
  gi_wp2
  clear d0
  gi_loopw [3] (fun i wr => ∃ (j : Nat) (pre : List (Nat × KV Int)), j ≤ m ∧ i = .int .i64 ((j : Int) - 1) ∧ J pre wr ∧ Hid (pre.map Prod.snd = l.reverse.take (l.length - j)) ∧ Hid (LRow n₀ T wr A m c l ∧ wr.heap[Bs]? = some (.cells #[.slice A m c] 68 (0, 0)))) (fun i _ => (intOf i + 1).toNat)
  case atStart => exact ⟨m, [], Nat.le_refl _, rfl, h0, Lib.hid (by rw [HL.out]; simp), Lib.hid ⟨HR.out, HBs.out⟩⟩
  case round =>
    obtain ⟨j, pre, hj, rfl, hJs, HP, HK⟩ := hrel
    cases j with
    | zero =>
      have HPE : Hid (pre.map Prod.snd = l.reverse) := Lib.hid (by rw [HP.out, Nat.sub_zero, List.take_of_length_le (by simp)])
      gi_wp2
      go_end0
      exact ⟨⟨_, rfl⟩, .inl ⟨pre, HPE.out, hJs⟩⟩
    | succ i =>
      rw [show ((i + 1 : Nat) : Int) - 1 = (i : Int) by omega]
      have hil : i < l.length := by rw [HL.out]; omega
      obtain ⟨g, o, rfl, _, _, c0, c1⟩ := HK.out.1.at_ hil
      have d1 := cell_of_blk HK.out.2 0
      have HT : Hid (l.reverse.take (l.length - i) = l.reverse.take (l.length - (i + 1)) ++ [l[i]]) := Lib.hid (rev_take l i hil)
      generalize l[i] = x at *
      have HP2 : Hid ((pre ++ [(i, x)]).map Prod.snd = l.reverse.take (l.length - i)) := Lib.hid (by rw [List.map_append, HP.out, HT.out]; rfl)
      obtain ⟨fn, tmps, assign, body, hy, hR⟩ := hY _ (i, x) wr hJs (by rw [HP2.out]; exact List.take_prefix _ _)
      simp only [encB] at hy
      gi_wp2
      refine ⟨rfl, hR.mono ?_⟩
      rintro e W3 (⟨rfl, hJ3, hk3⟩ | ⟨rfl, hJx3, -⟩)
      · have HK3 := Lib.hid (And.intro (PRow.keepC HK.out.1 hk3 (fun _ h => h)) (hk3.2.1 _ _ _ _ HK.out.2 (.inr (.inr (.inl rfl)))))
        clear hk3
        gi_wp2
        go_roundw
        case rel => exact ⟨i, pre ++ [(i, x)], by omega, rfl, hJ3, HP2, HK3⟩
        case measure => simp [intOf]
      · gi_wp2
        refine bodyPost_ret (results_none rfl _ _ _) rfl ?_
        exact ⟨⟨_, rfl⟩, .inr ⟨_, by rw [HP2.out]; exact List.take_prefix _ _, hJx3⟩⟩
theorem back_stops (Bs n₀ n₂ : Nat) (T : Nat → Prop) (A : Option Addr) (m c : Nat) (l : List (KV Int)) (w : World) (hBs : w.heap[Bs]? = some (.cells #[.slice A m c] 68 (0, 0))) (hr : LRow n₀ T w A m c l) :
    SeqN Try.prog 53 #[.pointer (some ⟨Bs, 0, none⟩)] encB (KeepC n₀ T) (fun ys => ys.map Prod.snd = l.reverse) (fun pre => pre.map Prod.snd <+: l.reverse) (fun pre => pre.map Prod.snd <+: l.reverse) n₂ w :=
  fun lp J Jx W hW _ _ _ hY h0 => back1 lp Bs n₀ n₂ T A m c l J Jx W (block_below hW hBs) (hr.below hW) h0 hY

theorem OwnFrom.mono' {β : Type} {B B' : Nat} {I : β → World → Prop} (h : OwnFrom B I) (hB : B ≤ B') : OwnFrom B' I := fun s W W' row hs hg hr => h s W W' row hs hg (fun r e => ⟨Nat.le_trans hB (hr r e).1, (hr r e).2⟩)
theorem ownFrom_blk {β : Type} (B b : Nat) (cs : Array Value) (t : TypeId) : OwnFrom B (fun (_ : β) W => W.heap[b]? = some (.cells cs t (0, 0))) := fun s W W' row hs hg hr =>
  (hg.block b (lt_of_blk hs) (fun e => by obtain ⟨_, o, ho, hc⟩ := hr b e.symm; rw [hs] at ho; injection ho with ho; subst ho; cases hc)).trans hs
theorem KeepC.inner {n₀ n₁ : Nat} {T : Nat → Prop} {W W' : World} (h : KeepC n₀ T W W') (hn : n₀ ≤ n₁) : KeepC n₁ (fun b => n₀ ≤ b ∨ T b) W W' :=
  ⟨h.1, fun b c t f hb ht => h.2.1 b c t f hb (ht.elim (fun k => .inl ⟨Nat.lt_of_not_le (fun h2 => k.2 (.inl h2)), fun h2 => k.2 (.inr h2)⟩) .inr), fun b o hb ho hc => h.2.2 b o (by omega) ho hc⟩
theorem KeepC.others {n₀ n₁ : Nat} {T : Nat → Prop} {W W' : World} (h : KeepC n₀ T W W') (hn : n₀ + 2 ≤ n₁) : KeepsFrom n₁ W W' := ⟨h.1, fun k o hk ho hc => h.2.2 k o (by omega) ho hc⟩
/-- Down's range -/
theorem down_stops (p : Option Addr) (bm n₀ n₂ : Nat) (T : Nat → Prop) (A : Option Addr) (m c : Nat) (l : List (KV Int)) (w : World) (hn₂ : n₀ + 2 ≤ n₂)
    (hm : w.cell? ⟨bm, 0, none⟩ = some (.pointer p)) (hH : Holds w p (.slice A m c)) (hr : LRow n₀ T w A m c l) :
    SeqN Try.prog 41 #[.pointer (some ⟨bm, 0, none⟩)] (fun x : KV Int => #[Value.string x.1, .int .i64 x.2]) (KeepC n₀ T) (fun ys => ys = l.reverse) (fun pre => pre <+: l.reverse) (fun pre => pre <+: l.reverse) n₂ w := by
  intro lp J Jx W hW hn hJ hJx hY h0
  have hy0 : Below W.heap.size W (W.alloc (.cells #[.func (.yield lp) #[] #[]] 75)) := (Below.refl _ _).alloc (Nat.le_refl _) _
  have h1 := pairs_any p A m c _ ((hH.below hW).below hy0)
  have h2 := back_any A m c (W.alloc (.cells #[.func (.yield lp) #[] #[]] 75))
  have hm2 := cell_below hy0 (cell_below hW hm)
  have hy1 : Below W.heap.size W ((W.alloc (.cells #[.func (.yield lp) #[] #[]] 75)).alloc (.cells #[.slice A m c] 68)) := below_alloc hy0 _
  have hR1 := Lib.hid ((hr.below hW).below hy1)
  refine callsIn_of_wp_marks Try.func41 rfl trivial ?_ rfl
  simp only [Try.ntmps41, List.size_toArray, List.length_cons, List.length_nil, Nat.reduceAdd, Nat.reduceSub, Array.replicate_succ, Array.replicate_zero, List.push_toArray, List.append_toArray, List.nil_append, List.cons_append]
  gi_wp2
  refine ⟨trivial, rfl, (callsIn_wide.2 h1).mono ?_⟩
  rintro e w1 ⟨rfl, rfl⟩
  gi_wp2
  refine ⟨trivial, rfl, (callsIn_wide.2 h2).mono ?_⟩
  rintro e w1 ⟨rfl, rfl⟩
  gi_wp2
  have bY : ((W.alloc (.cells #[.func (.yield lp) #[] #[]] 75)).alloc (.cells #[.slice A m c] 68)).heap[W.heap.size]? = some (.cells #[.func (.yield lp) #[] #[]] 75 (0, 0)) :=
    (heap_alloc_old _ _ (by simp)).trans (heap_alloc_new W _)
  have bS : ((W.alloc (.cells #[.func (.yield lp) #[] #[]] 75)).alloc (.cells #[.slice A m c] 68)).heap[W.heap.size + 1]? = some (.cells #[.slice A m c] 68 (0, 0)) := by
    have := heap_alloc_new (W.alloc (.cells #[.func (.yield lp) #[] #[]] 75)) (.cells #[.slice A m c] 68)
    rwa [World.size_alloc] at this
  have hsz : ((W.alloc (.cells #[.func (.yield lp) #[] #[]] 75)).alloc (.cells #[.slice A m c] 68)).heap.size = W.heap.size + 2 := by simp
  have hj0 : J [] ((W.alloc (.cells #[.func (.yield lp) #[] #[]] 75)).alloc (.cells #[.slice A m c] 68)) := own_below hJ h0 hy1
  generalize (W.alloc (.cells #[.func (.yield lp) #[] #[]] 75)).alloc (.cells #[.slice A m c] 68) = V at *
  have hrow : LRow V.heap.size (fun b => n₀ ≤ b ∨ T b) V A m c l := ⟨hR1.out.1, hR1.out.2.weaken (fun b hb h => ⟨hb, fun h2 => h2.elim (fun h3 => by have := h.1; omega) h.2⟩)⟩
  have hrJ : OwnFrom V.heap.size J := OwnFrom.mono' (B := W.heap.size) (I := J) hJ (by rw [hsz]; omega)
  have hrJx : OwnFrom V.heap.size Jx := OwnFrom.mono' (B := W.heap.size) (I := Jx) hJx (by rw [hsz]; omega)
  clear h1 h2 hm2
  refine range_law (P := Try.prog) (gf := 53) (lb := #[.pointer (some ⟨W.heap.size + 1, 0, none⟩)]) rfl (enters_of Try.func53 (by kernel_rfl) rfl)
    (back_stops (W.heap.size + 1) V.heap.size (V.heap.size + 2) (fun b => n₀ ≤ b ∨ T b) A m c l V bS hrow) (fun h k => h.trans k) (fun W r o h => KeepC.turn W r o h) (fun _ => rfl)
    (fun pre U => J (pre.map Prod.snd) U ∧ U.heap[W.heap.size]? = some (.cells #[.func (.yield lp) #[] #[]] 75 (0, 0)))
    (fun c pre U => c = .ret ∧ Jx (pre.map Prod.snd) U)
    (OwnFrom.and (fun s A B row hs hg hr => hrJ _ A B row hs hg hr) (ownFrom_blk _ _ _ _))
    (fun c s A B row hs hg hr => ⟨hs.1, hrJx _ A B row hs.2 hg hr⟩)
    ⟨hj0, bY⟩
    (fun _ x a' U => ∃ Bx, U.heap[Bx]? = some (.cells #[.string x.2.1, .int .i64 x.2.2] 74 (0, 0)) ∧ a' = { tmps := #[.func (.yield lp) #[] #[], .pointer (some ⟨bm, 0, none⟩), .pointer (some ⟨W.heap.size, 0, none⟩), undef, .pointer (some ⟨Bx, 0, none⟩), .pointer p, .slice A m c, .func (.func 53) #[] #[.pointer (some ⟨W.heap.size + 1, 0, none⟩)], .int .i64 (x.1 : Nat), .agg #[.string x.2.1, .int .i64 x.2.2], undef, undef, undef, undef, undef, undef, undef], defers := [] })
    (fun pre x a' s A B row hs hg hr => by obtain ⟨Bx, h1, h2⟩ := hs; exact ⟨Bx, ownFrom_blk (β := Unit) V.heap.size Bx _ _ () A B row h1 hg hr, h2⟩)
    ?assign ?body ?done ?stop
  case assign =>
    rintro l2 pre x U K ⟨hj, hb⟩ hK
    gi_wp2
    have hbU : Below U.heap.size U (U.alloc (.cells #[.string x.2.1, .int .i64 x.2.2] 74)) := (Below.refl _ _).alloc (Nat.le_refl _) _
    exact hK _ _ ((KeepsOthers.alloc _ _).from _) (KeepC.below hbU) ⟨hrJ.alloc _ hj, block_below hbU hb⟩ ⟨U.heap.size, heap_alloc_new U _, rfl⟩
  case body =>
    rintro l2 pre x a' U hU ⟨hj, hb⟩ ⟨Bx, hx, rfl⟩ hlen
    obtain ⟨fn, tmps, assign, body, hy, hR⟩ := hY (pre.map Prod.snd) x.2 U hj (by rw [List.map_append] at hlen; exact hlen)
    have d0 := cell_of_blk hb 0
    have k0 := cell_of_blk hx 0
    have k1 := cell_of_blk hx 1
    gi_wp2
    refine ⟨rfl, RoundIn.mono (F := Fence.wide.inRound l2) hR ?_⟩
    rintro e U' (⟨rfl, hj3, hk3⟩ | ⟨rfl, hjx, hkf⟩)
    · gi_wp2
      exact ⟨hk3.others (by omega), hk3.inner (by omega), by rw [List.map_append]; exact hj3, hk3.2.1 _ _ _ _ hb (.inr (.inr (.inr rfl)))⟩
    · gi_wp2
      exact ⟨KeepsFrom.mono' hkf (by omega), rfl, by rw [List.map_append]; exact hjx⟩
  case done =>
    rintro D ys U hD hS ⟨hj, hb⟩ hK
    gi_wp2
    refine ⟨by simp, .inl ⟨_, _, rfl, run_takeDeferred hK, ?_⟩⟩
    exact ⟨_, results_none rfl _ _ _, ⟨_, rfl⟩, .inl ⟨_, hS, hrJ.putObj _ hj hD hK rfl⟩⟩
  case stop =>
    rintro D c pre U hD hS ⟨rfl, hjx⟩ hK
    gi_wp2
    refine ⟨by simp, .inl ⟨_, _, rfl, run_takeDeferred hK, ?_⟩⟩
    exact ⟨_, results_none rfl _ _ _, ⟨_, rfl⟩, .inr ⟨_, hS, hrJx.putObj _ hjx hD hK rfl⟩⟩
end Go.Proofs.Ytncgcjfpoableaa.srtI
