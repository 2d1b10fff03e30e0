/-
  Merged from ActM, ActW, Tkn, Trn, Shw, SrtB, Trl, Open, FoO, FoO2, Trb.
-/
import Derived.Test.YtfjdllpacdobdaaGreatQ05c5bf68621d
import Derived.BigRegionIn
import Derived.Test.YtfjdllpacdobdaaGreatQ336bc39176a5
import Derived.Deep.DeepAppendRoom
import Derived.Laws.MakeOwn
import Derived.Laws.AppendOwnNone
import Derived.Lib.SliceRun
import Derived.LoopTactic
import Derived.Test.YtfjdllpacdobdaaGreatRows
import Derived.Deep.Slices
import Derived.Deep.Fields
import Derived.SizedLaws
import Derived.OpenShut
/-
  Words for book.Activate: what a round makes of what stands; lists stay as long as they are.
-/
set_option linter.unusedVariables false
set_option linter.unusedSimpArgs false
namespace Go.Proofs.Base
open Go Go.RowKit
theorem wpIn_app_at {F : Fence} {nF : Nat} {P : Program} {W : World} {ops : Array Oper} {rest : List Oper} {o : Oper} {a : Act} {Q : Exit → Act → World → Prop} {t e : TypeId} {sz bytes : Nat} (E : ElemT P t e sz bytes) (hsz : 0 < sz)
    (hgd : o.guard = none) (s x : Operand) (ho : o.op = .call { callee := .builtin .append, args := #[s, x], argTypes := #[t, t] })
    (base : Nat) (v : Value) (n : Nat) (xs cs : List Value) (hs : a.eval s = v) (z0 : Nat) (hz0 : z0 = W.heap.size) (hx : a.eval x = .slice (some ⟨z0, 0, none⟩) 1 1) (hcs : cs.length = sz) (h1 : ∀ u ∈ cs, u.oneCell' = true)
    (HO : W.ownsRow base e sz v n xs) (hbase : base ≤ W.heap.size) (hl : n + 1 ≤ 140737488355328) (hl2 : (n + 1) * bytes ≤ 140737488355328)
    (h : ∀ v1 w1, w1.ownsRow base e sz v1 (n + 1) (xs ++ cs) → (W.alloc (.cells cs.toArray e)).grownBy w1 v.ownBlock → (∀ g, v1.ownBlock = some g → v.ownBlock = some g ∨ W.heap.size ≤ g) → wpListIn F nF P ops Q rest (a.put o.dst v1) w1) :
    wpListIn F nF P ops Q (o :: rest) a (W.alloc (.cells cs.toArray e)) := by
  subst hz0
  obtain ⟨i0, z, hi, hz0, hz1, hz2, hzc⟩ := E.hi
  refine wpListIn_plain hgd fun K hK' => ?_
  obtain ⟨v', w', hrun, r1, r2, -, r4⟩ := run_append_own_at (P := P) (w := W.alloc (.cells cs.toArray e)) base t o.type e i0 z sz bytes E.ht hi hz0 hz1 hz2 hzc hsz v n xs (HO.alloc _) ⟨W.heap.size, 0, none⟩ 1 1 cs (by omega)
    (World.news_of_block (cs := cs.toArray) (t := e) (fr := (0, 0)) (heap_alloc_new W _)) h1 (by simp only [maxLen]; omega) hl2 (by simp; omega)
  unfold Oper.wpIn
  refine ⟨?_, ?_⟩
  · simp [Oper.about, ho, resolve, Target.leads, Sem.run_pure]
  · rw [Oper.semAt_plain F _ _ (by rw [ho]; intro c hc'; cases hc')]
    simp [execOp, ho, resolve, invoke, builtin, hs, hx, hrun, Result.andThen]
    refine hK' _ _ (h v' w' r1 r2 (fun g hg => ?_))
    rcases r4 with r4 | r4
    · exact .inl (r4 ▸ hg)
    · rw [r4] at hg
      injection hg with hg
      rw [World.size_alloc] at hg
      exact .inr (by omega)
theorem KeepsFrom.of_mut {B : Nat} {T : Nat → Prop} {W W' : World} (h : Mut T W W') (hT : ∀ x, T x → x < W.heap.size → isC W x) : KeepsFrom B W W' :=
  ⟨h.size, fun k o _ ho hc => h.blk ho (fun ht => by
    obtain ⟨cs, t, f, hx⟩ := hT k ht (lt_of_blk ho)
    rw [ho] at hx; injection hx with hx; subst hx; cases hc)⟩
def GSt.alike (g g' : GSt) : Prop := g.procs.length = g'.procs.length ∧ g.insts.length = g'.insts.length ∧ g.tokens.length = g'.tokens.length ∧ g.jobs.length = g'.jobs.length ∧ g.timers.length = g'.timers.length ∧ g.subs.length = g'.subs.length ∧ g.kept.length = g'.kept.length ∧ g.listed.length = g'.listed.length ∧ g.msgs.length = g'.msgs.length ∧ g.msgs.map pureMsg = g'.msgs.map pureMsg
theorem alike_refl (g : GSt) : g.alike g := ⟨rfl, rfl, rfl, rfl, rfl, rfl, rfl, rfl, rfl, rfl⟩
theorem GSt.alike.trans {a b c : GSt} (h : a.alike b) (k : b.alike c) : a.alike c :=
  ⟨h.1.trans k.1, h.2.1.trans k.2.1, h.2.2.1.trans k.2.2.1, h.2.2.2.1.trans k.2.2.2.1, h.2.2.2.2.1.trans k.2.2.2.2.1, h.2.2.2.2.2.1.trans k.2.2.2.2.2.1, h.2.2.2.2.2.2.1.trans k.2.2.2.2.2.2.1, h.2.2.2.2.2.2.2.1.trans k.2.2.2.2.2.2.2.1, h.2.2.2.2.2.2.2.2.1.trans k.2.2.2.2.2.2.2.2.1, h.2.2.2.2.2.2.2.2.2.trans k.2.2.2.2.2.2.2.2.2⟩
theorem GSt.alike.fits {a b : GSt} (h : a.alike b) (hf : b.fits) : a.fits := by
  obtain ⟨h1, h2, h3, h4, h5, h6, h7, h8, h9, -⟩ := h
  unfold GSt.fits at hf ⊢
  rw [h1, h2, h3, h4, h5, h6, h7, h8, h9]
  exact hf
theorem GSt.alike.ints {a b : GSt} (h : a.alike b) {n : Nat} (hi : ∀ x ∈ b.msgs, x.insts.length * 8 ≤ n) : ∀ x ∈ a.msgs, x.insts.length * 8 ≤ n := fun x hx => by
  have h1 : pureMsg x ∈ b.msgs.map pureMsg := h.2.2.2.2.2.2.2.2.2 ▸ List.mem_map_of_mem hx
  obtain ⟨y, hy, e⟩ := List.mem_map.1 h1
  have := hi y hy
  have e2 : (pureMsg y).insts = (pureMsg x).insts := by rw [e]
  have e3 : y.insts = x.insts := e2
  rwa [e3] at this
theorem alike_pure (g : GSt) : g.pure.alike g := ⟨rfl, by simp [GSt.pure], rfl, rfl, rfl, rfl, rfl, by simp [GSt.pure], by simp [GSt.pure], by simp [GSt.pure, Function.comp_def, pureMsg]⟩
theorem GSt.alike.symm {a b : GSt} (h : a.alike b) : b.alike a :=
  ⟨h.1.symm, h.2.1.symm, h.2.2.1.symm, h.2.2.2.1.symm, h.2.2.2.2.1.symm, h.2.2.2.2.2.1.symm, h.2.2.2.2.2.2.1.symm, h.2.2.2.2.2.2.2.1.symm, h.2.2.2.2.2.2.2.2.1.symm, h.2.2.2.2.2.2.2.2.2.symm⟩
theorem alike_of {g g' : GSt} (h : g.pure.alike g'.pure) : g.alike g' := ((alike_pure g).symm.trans h).trans (alike_pure g')
end Go.Proofs.Base
namespace Go.Proofs.YtfjdllpacdobdaaGreat
open Go Go.RowKit Go.Proofs.Base
theorem step_tk (p : WkP) (key : Int) (worker : ByteArray) (till : Int) (g : GSt) : (stepP p (tkR key worker till) g).alike g := by
  unfold stepP applyP evP emR tkR
  simp [GSt.alike, changeL_len]
theorem step_bk (p : WkP) (key n : Int) (g : GSt) : (stepP p (bkR key n) g).alike g := by
  unfold stepP applyP evP emR bkR
  simp [GSt.alike, changeL_len]
theorem take_alike (p : WkP) (worker : ByteArray) (till : Int) : ∀ (ts : List (Nat × EJob)) (g : GSt), (takeP p worker till ts g).alike g
  | [], g => alike_refl g
  | x :: ts, g => (take_alike p worker till ts _).trans (step_tk p _ _ _ _)
theorem take_snoc (p : WkP) (worker : ByteArray) (till : Int) (ts : List (Nat × EJob)) (x : Nat × EJob) (g : GSt) : takeP p worker till (ts ++ [x]) g = stepP p (tkR x.2.key worker till) (takeP p worker till ts g) := by
  unfold takeP; rw [List.foldl_append]; rfl
theorem emR_eq {p p' : WkP} (h1 : p'.pos = p.pos) (h2 : p'.now = p.now) (r : GRec) : emR p' r = emR p r := by unfold emR; rw [h1, h2]
theorem act_round {n₀ b Bo Jb : Nat} {S0 F S2 S3 T0 : Nat → Prop} {g0 g2 g3 : GSt} {p0 p2 p3 : WkP} {v2 v3 : StV} {worker : ByteArray} {till : Int} {pre : List (Nat × EJob)} {x : Nat × EJob} {V U U1 U2 w4 : World} {A2 A4 : Option Addr} {c2 c4 : Nat} {ob : Obj} {jc : Array Value} {tj : TypeId} {fj : Nat × Nat}
    (hW2 : WkB S2 b U v2 g2 p2) (hp2 : g2.pure = takeP p0 worker till pre g0.pure) (hq2 : p2.m = p0.m + pre.length ∧ p2.part = p0.part ∧ p2.pos = p0.pos ∧ p2.now = p0.now) (hbo : U.heap[Bo]? = some (.cells #[.slice A2 pre.length c2] 26 (0, 0)))
    (ho : U.ownsRow n₀ 45 6 (.slice A2 pre.length c2) pre.length ((pre.map (outJ worker till)).flatMap encJob)) (hF2 : ∀ y, F y ∨ y = Jb → ¬ S2 y ∧ ¬ p2.T b y ∧ (Value.slice A2 pre.length c2).ownBlock ≠ some y) (hd2 : ∀ y, (Value.slice A2 pre.length c2).ownBlock = some y → ¬ S2 y ∧ ¬ p2.T b y) (hS2 : ∀ y, S2 y → S0 y ∨ n₀ ≤ y) (hT2 : ∀ y, p2.T b y → p0.T b y ∨ n₀ ≤ y)
    (hFn : ∀ y, F y → y < n₀) (hBF : F Bo) (hUn : n₀ ≤ U.heap.size) (hJn : n₀ ≤ Jb) (hJc : U.heap[Jb]? = some (.cells jc tj fj))
    (hW3 : WkB S3 b U1 v3 g3 p3) (hp3 : g3.pure = applyP (IntKind.u64.wrap (g2.pos + 1)) (emR p2 (tkR x.2.key worker till)) g2.pure) (hm3 : p3.m = p2.m + 1) (ha3 : p3.part = p2.part) (hb3 : p3.pos = p2.pos) (hn3 : p3.now = p2.now) (hS3 : ∀ y, S3 y → S2 y ∨ U.heap.size ≤ y) (hT3 : ∀ y, p3.T b y → p2.T b y ∨ U.heap.size ≤ y) (hMu : Mut (p2.T b) U U1)
    (hM2 : Mut (fun y => y = Jb) U1 U2) (ho4 : w4.ownsRow n₀ 45 6 (.slice A4 (pre.length + 1) c4) (pre.length + 1) ((pre.map (outJ worker till)).flatMap encJob ++ encJob (outJ worker till x))) (hg4 : (U2.alloc ob).grownBy w4 (Value.slice A2 pre.length c2).ownBlock)
    (hat : ∀ y, (Value.slice A4 (pre.length + 1) c4).ownBlock = some y → (Value.slice A2 pre.length c2).ownBlock = some y ∨ U2.heap.size ≤ y) (hMV : Mut T0 V U) (hVn : V.heap.size = n₀) (hT0 : ∀ y, p0.T b y ∨ y = Bo → T0 y) :
    KeepsFrom n₀ U (w4.setCell ⟨Bo, 0, none⟩ (.slice A4 (pre.length + 1) c4)) ∧ KeepN n₀ T0 U (w4.setCell ⟨Bo, 0, none⟩ (.slice A4 (pre.length + 1) c4)) ∧ ActI n₀ b Bo S0 g0 p0 worker till F (pre ++ [x]) (w4.setCell ⟨Bo, 0, none⟩ (.slice A4 (pre.length + 1) c4)) ∧ Mut T0 V (w4.setCell ⟨Bo, 0, none⟩ (.slice A4 (pre.length + 1) c4)) := by
  generalize hu4 : (Value.slice A4 (pre.length + 1) c4) = u4 at *
  have hBn := hFn Bo hBF
  have hJl : Jb < U.heap.size := lt_of_blk hJc
  have hm1 : Mut (fun y => y = Jb ∨ (Value.slice A2 pre.length c2).ownBlock = some y ∨ y = Bo) U1 (w4.setCell ⟨Bo, 0, none⟩ u4) :=
    Mut.setCell (Mut.trans (Mut.trans (hM2.mono (fun _ _ h => .inl h)) (Mut.of_below (below_alloc (Below.refl _ _) ob) (fun _ => False)) (fun _ _ h => h.elim)) (Mut.grown (T := fun y => (Value.slice A2 pre.length c2).ownBlock = some y) hg4 (fun _ h => h)) (fun _ _ h => .inr (.inl h))) (p := ⟨Bo, 0, none⟩) (fun _ => .inr (.inr rfl)) u4
  have hall : Mut (fun y => p2.T b y ∨ y = Jb ∨ (Value.slice A2 pre.length c2).ownBlock = some y ∨ y = Bo) U (w4.setCell ⟨Bo, 0, none⟩ u4) := Mut.trans (hMu.mono (fun _ _ h => .inl h)) hm1 (fun _ _ h => .inr h)
  have hkn : KeepN n₀ T0 U (w4.setCell ⟨Bo, 0, none⟩ u4) := KeepN.of_mut hall hUn (fun y hy ht => by
    rcases ht with ht | rfl | ht | rfl
    · exact hT0 y (.inl ((hT2 y ht).resolve_right (by omega)))
    · omega
    · have := (ho.lt y ht).1; omega
    · exact hT0 _ (.inr rfl))
  refine ⟨KeepsFrom.of_mut hall (fun y ht hlt => ?_), hkn, ?_, ?_⟩
  · rcases ht with ht | rfl | ht | rfl
    · rcases ht with rfl | ht
      · exact ⟨_, _, _, hW2.box⟩
      · obtain ⟨xs, hx⟩ := hW2.ev
        obtain ⟨_, cs, h⟩ := own_type hx ht
        exact ⟨cs, _, _, h⟩
    · exact ⟨_, _, _, hJc⟩
    · obtain ⟨_, cs, h⟩ := own_type ho ht
      exact ⟨cs, _, _, h⟩
    · exact ⟨_, _, _, hbo⟩
  · have hlen : (pre ++ [x]).length = pre.length + 1 := by simp
    have hs1 := hMu.size
    have hs2 := hM2.size
    have hold : ∀ y, y < U.heap.size → ¬ S2 y → ¬ p2.T b y → ¬ S3 y ∧ ¬ p3.T b y := fun y hy h1 h2 => ⟨fun h => (hS3 y h).elim h1 (by omega), fun h => (hT3 y h).elim h2 (by omega)⟩
    have hF3 : ∀ y, F y ∨ y = Jb → ¬ S3 y ∧ ¬ p3.T b y := fun y hy => hold y (by rcases hy with hy | rfl; have := hFn y hy; omega; exact hJl) (hF2 y hy).1 (hF2 y hy).2.1
    have hO3 : ∀ y, (Value.slice A2 pre.length c2).ownBlock = some y → ¬ S3 y ∧ ¬ p3.T b y := fun y hy => hold y (ho.lt y hy).2 (hd2 y hy).1 (hd2 y hy).2
    have hu : u4 = .slice A4 (pre.length + 1) c4 := hu4.symm
    have hw4B : w4.heap[Bo]? = some (.cells #[.slice A2 pre.length c2] 26 (0, 0)) := by
      have k1 := hMu.blk hbo (hF2 Bo (.inl hBF)).2.1
      have k2 := hM2.blk k1 (by omega)
      have k3 := block_below (below_alloc (Below.refl _ U2) ob) k2
      exact (hg4.block Bo (lt_of_blk k3) (fun e => (hF2 Bo (.inl hBF)).2.2 e.symm)).trans k3
    refine ⟨S3, v3, g3, p3, A4, c4, ?_, ?_, ⟨by rw [hm3, hq2.1, hlen]; omega, ha3.trans hq2.2.1, hb3.trans hq2.2.2.1, hn3.trans hq2.2.2.2⟩, ?_, ?_, ?_, ?_, ?_, ?_⟩
    · refine hW3.mut hm1 (fun y hy => ?_)
      rcases hy with rfl | hy | rfl
      · exact (hF3 _ (.inr rfl)).symm
      · exact (hO3 y hy).symm
      · exact (hF3 _ (.inl hBF)).symm
    · rw [take_snoc, ← hp2, hp3, emR_eq hq2.2.2.1 hq2.2.2.2]; rfl
    · rw [hlen, ← hu]; exact set_blk (o := 0) hw4B u4
    · rw [hlen, List.map_append, List.flatMap_append, ← hu]
      have h2 := own_mut ho4 (Mut.setCell (T := fun y => y = Bo) (Mut.refl _ w4) (p := ⟨Bo, 0, none⟩) (fun _ => rfl) u4) (fun y hy e => by have := (ho4.lt y hy).1; omega)
      simpa using h2
    · intro y hy
      refine ⟨(hF3 y (.inl hy)).1, (hF3 y (.inl hy)).2, fun e => ?_⟩
      rw [hlen, ← hu] at e
      have := (ho4.lt y e).1
      have := hFn y hy
      omega
    · intro y hy
      rw [hlen, ← hu] at hy
      rcases hat y hy with h | h
      · exact hO3 y h
      · exact ⟨fun h' => by have := (hW3.dis y h').2; omega, fun h' => by have := hW3.lt h'; omega⟩
    · exact fun y hy => (hS3 y hy).elim (hS2 y) (fun h => .inr (by omega))
    · exact fun y hy => (hT3 y hy).elim (hT2 y) (fun h => .inr (by omega))
  · refine Mut.trans hMV hall (fun y hy ht => ?_)
    rcases ht with ht | rfl | ht | rfl
    · exact hT0 y (.inl ((hT2 y ht).resolve_right (by omega)))
    · omega
    · have := (ho.lt y ht).1; omega
    · exact hT0 _ (.inr rfl)
def ActX (n₀ b Bo : Nat) (S0 : Nat → Prop) (g0 : GSt) (p0 : WkP) (worker : ByteArray) (till : Int) (F : Nat → Prop) (most : Int) (pre' : List (Nat × EJob)) (W : World) : Prop := ∃ pre x, pre' = pre ++ [x] ∧ (pre.length : Int) = most ∧ ActI n₀ b Bo S0 g0 p0 worker till F pre W
theorem actX_own (B n₀ b Bo : Nat) (S0 : Nat → Prop) (g0 : GSt) (p0 : WkP) (worker : ByteArray) (till : Int) (F : Nat → Prop) (most : Int) : OwnFrom B (ActX n₀ b Bo S0 g0 p0 worker till F most) := fun pre' W W' row hs hg hr => by
  obtain ⟨pre, x, h1, h2, h3⟩ := hs
  exact ⟨pre, x, h1, h2, actI_own _ _ _ _ _ _ _ _ _ _ _ W W' row h3 hg hr⟩
end Go.Proofs.YtfjdllpacdobdaaGreat
/-
  book.Activate.
-/
set_option linter.unusedVariables false
set_option linter.unusedSimpArgs false
namespace Go.Proofs.YtfjdllpacdobdaaGreat
open Go Go.RowKit Go.Shelf Go.Proofs.Base
attribute [local go_sem] Oper.semAt_some
def ActTo (S : Nat → Prop) (b : Nat) (w : World) (g : GSt) (p : WkP) (worker : ByteArray) (till : Int) (ts : List (Nat × EJob)) (e : Ending) (w' : World) : Prop :=
  ∃ A c, e = .returned (.tuple #[.slice A ts.length c, .int .i64 0]) ∧ w'.ownsRow w.heap.size 45 6 (.slice A ts.length c) ts.length ((ts.map (outJ worker till)).flatMap encJob) ∧
    ∃ S' v' g' p', WkB S' b w' v' g' p' ∧ g'.pure = (if ts = [] then stepP p dnR g.pure else takeP p worker till ts g.pure) ∧ p'.m ≤ p.m + 32 ∧ p'.part = p.part ∧ p'.pos = p.pos ∧ p'.now = p.now ∧ (∀ x, S' x → S x ∨ w.heap.size ≤ x) ∧ (∀ x, p'.T b x → p.T b x ∨ w.heap.size ≤ x) ∧
      (∀ x, (Value.slice A ts.length c).ownBlock = some x → ¬ S' x ∧ ¬ p'.T b x) ∧ Mut (p.T b) w w'
theorem act_fin {S S3 : Nat → Prop} {b n₀ D : Nat} {w U1 : World} {v3 : StV} {g g3 : GSt} {p p3 : WkP} {worker : ByteArray} {till : Int} {ts : List (Nat × EJob)} {A : Option Addr} {c : Nat} (hW3 : WkB S3 b U1 v3 g3 p3) (hp : g3.pure = (if ts = [] then stepP p dnR g.pure else takeP p worker till ts g.pure)) (hm : p3.m ≤ p.m + 32) (ha : p3.part = p.part) (hb : p3.pos = p.pos) (hn : p3.now = p.now)
    (ho : U1.ownsRow n₀ 45 6 (.slice A ts.length c) ts.length ((ts.map (outJ worker till)).flatMap encJob)) (hd : ∀ x, (Value.slice A ts.length c).ownBlock = some x → ¬ S3 x ∧ ¬ p3.T b x) (hS : ∀ x, S3 x → S x ∨ w.heap.size ≤ x) (hT : ∀ x, p3.T b x → p.T b x ∨ w.heap.size ≤ x) (hM : Mut (p.T b) w U1) (hn0 : w.heap.size ≤ n₀) (hK : U1.heap[D]? = some (.deferred (some []))) (hD : w.heap.size ≤ D) :
    ActTo S b w g p worker till ts (.returned (.tuple #[.slice A ts.length c, .int .i64 0])) (U1.putObj D (.deferred none)) :=
  ⟨A, c, rfl, own_base (ownsRow_putObj ho _ hK rfl) hn0, _, v3, g3, p3, hW3.own (grownBy_putObj' U1 D _) (fun r e => by injection e with e; subst e; exact ⟨_, hK, rfl⟩), hp, hm, ha, hb, hn, fun x hx => hS x hx.1, hT, fun x hx => ⟨fun h => (hd x hx).1 h.1, (hd x hx).2⟩,
    Mut.trans hM (Mut.grown (T := fun x => D = x) (grownBy_putObj' U1 D _) (fun r e => by injection e)) (fun x hx e => by omega)⟩
set_option maxRecDepth 100000 in
set_option maxHeartbeats 8000000 in
theorem act_ok {S : Nat → Prop} {b : Nat} {w : World} {v : StV} {g : GSt} {p : WkP} (h : WkB S b w v g p) (hf : g.fits) (hi : ∀ x ∈ g.msgs, x.insts.length * 8 ≤ 140737488355328) (hm : (p.m + 33) * 144 ≤ 140737488355328) (kind worker : ByteArray) (most wait : Int) (hok : actOk kind worker most wait = true) (hk : kind.size ≤ 9223372036854775807) (hw : worker.size ≤ 9223372036854775807) (till : Int) (ht : wrap64 (p.now + wait) = till) :
    Calls Tryz.prog 12 #[.pointer (some ⟨b, 0, none⟩), .string kind, .string worker, .int .i64 most, .int .i64 wait] w (ActTo S b w g p worker till ((rdy kind g.jobs 0).take most.toNat)) := by
  obtain ⟨N, hN⟩ : ∃ N, N = ((w.alloc (.cells #[.pointer (some ⟨b, 0, none⟩)] 36)).alloc (.cells #[.string worker] 9)).alloc (.cells #[.int .i64 most] 2) := ⟨_, rfl⟩
  have HB0 : Hid (Below w.heap.size w N) := Lib.hid (by rw [hN]; exact below_alloc (below_alloc (below_alloc (Below.refl _ _) _) _) _)
  have b0 : N.heap[w.heap.size]? = some (.cells #[.pointer (some ⟨b, 0, none⟩)] 36 (0, 0)) := by rw [hN]; exact blk_alloc (blk_alloc (blk_new _) _) _
  have b1 : N.heap[w.heap.size + 1]? = some (.cells #[.string worker] 9 (0, 0)) := by rw [hN]; exact blk_alloc (blk_new_of _ (by simp)) _
  have b2 : N.heap[w.heap.size + 2]? = some (.cells #[.int .i64 most] 2 (0, 0)) := by rw [hN]; exact blk_new_of _ (by simp)
  have HNS : Hid (N.heap.size = w.heap.size + 3) := Lib.hid (by rw [hN]; simp)
  have HK := Lib.hid (fun W => val_Named kind W hk)
  have HW := Lib.hid (fun W => val_Named worker W hw)
  have B0 := Lib.hid b0
  have B1 := Lib.hid b1
  have B2 := Lib.hid b2
  have HN := Lib.hid hN
  have HWK := Lib.hid h
  have HF := Lib.hid hf
  have HI := Lib.hid hi
  have HM := Lib.hid hm
  obtain ⟨⟨⟨⟨⟨q1, q2⟩, m1⟩, m2⟩, m3⟩, m4⟩ : ((((named kind = true ∧ named worker = true) ∧ 1 ≤ most) ∧ most ≤ 32) ∧ 1 ≤ wait) ∧ wait ≤ 1048576 := by
    simpa only [actOk, Bool.and_eq_true, decide_eq_true_eq] using hok
  have k1 : decide (most < 1) = false := by simp; omega
  have k2 : decide (32 < most) = false := by simp; omega
  have k3 : decide (wait < 1) = false := by simp; omega
  have k4 : decide (1048576 < wait) = false := by simp; omega
  have HMO : Hid (1 ≤ most ∧ most ≤ 32) := Lib.hid ⟨m1, m2⟩
  clear hk hw b1 b2 hN h hf hi hm hok m1 m2
  have c0 := cell_of_blk b0 0
  clear b0
  refine (callsIn_wide (n := 0)).1 (callsIn_of_wp_marks Tryz.func12 rfl trivial ?_ rfl)
  simp only [Tryz.ntmps12, List.size_toArray, List.length_cons, List.length_nil, Nat.reduceAdd, Nat.reduceSub, Array.replicate_succ, Array.replicate_zero, List.push_toArray, List.append_toArray, List.nil_append, List.cons_append]
  refine (wpIn_wide (n := 0)).2 ?_
  go_wp2_with fail
  rw [show ((w.alloc (.cells #[.pointer (some ⟨b, 0, none⟩)] 36)).alloc (.cells #[.string worker] 9)).alloc (.cells #[.int .i64 most] 2) = N from HN.out.symm]
  clear HN
  refine (HK.out _).mono ?_
  rintro e w1 ⟨rfl, hb1⟩
  have c1 : w1.cell? ⟨w.heap.size + 1, 0, none⟩ = some (.string worker) := cell_of_blk (block_below hb1 B1.out) 0
  have H1 := Lib.hid hb1
  clear hb1 c0
  go_wp2_with fail
  refine (HW.out _).mono ?_
  rintro e w2 ⟨rfl, hb2⟩
  have c2 : w2.cell? ⟨w.heap.size + 2, 0, none⟩ = some (.int .i64 most) := cell_of_blk (block_below hb2 (block_below H1.out B2.out)) 0
  have H2 := Lib.hid (below2 (below2 HB0.out H1.out) hb2)
  have H2n := Lib.hid (below2 H1.out hb2)
  have HZ2 : Hid (w.heap.size + 3 ≤ w2.heap.size) := Lib.hid (by have h1 := HNS.out; have h2 := H2n.out.size; omega)
  have d0 : (w2.alloc (.cells #[.slice none 0 0] 26)).cell? ⟨w.heap.size, 0, none⟩ = some (.pointer (some ⟨b, 0, none⟩)) := cell_of_blk (block_below (below_alloc (Below.refl _ _) _) (block_below H2n.out B0.out)) 0
  clear hb2 c1 H1 HB0
  go_wp2_with fail
  refine (wk_Now (HWK.out.below (below_alloc H2.out _))).mono ?_
  rintro e w3 ⟨rfl, rfl⟩
  clear c2
  have e0 : ((w2.alloc (.cells #[.slice none 0 0] 26)).alloc (.cells #[.int .i64 till] 2)).cell? ⟨w.heap.size, 0, none⟩ = some (.pointer (some ⟨b, 0, none⟩)) := cell_of_blk (block_below (below_alloc (below_alloc (Below.refl _ _) _) _) (block_below H2n.out B0.out)) 0
  clear d0
  go_wp2_with fail
  obtain ⟨M, hM⟩ : ∃ M, M = (w2.alloc (.cells #[.slice none 0 0] 26)).alloc (.cells #[.int .i64 till] 2) := ⟨_, rfl⟩
  have HMB : Hid (Below w2.heap.size w2 M) := Lib.hid (by rw [hM]; exact below_alloc (below_alloc (Below.refl _ _) _) _)
  have HMS : Hid (M.heap.size = w2.heap.size + 2) := Lib.hid (by rw [hM]; simp)
  have HBo : Hid (M.heap[w2.heap.size]? = some (.cells #[.slice none 0 0] 26 (0, 0))) := Lib.hid (by rw [hM]; exact blk_alloc (blk_new _) _)
  have HBu : Hid (M.heap[w2.heap.size + 1]? = some (.cells #[.int .i64 till] 2 (0, 0))) := Lib.hid (by rw [hM]; exact blk_new_of _ (by simp))
  rw [← hM]
  clear hM e0
  have HWM := Lib.hid (HWK.out.below (below2 H2.out HMB.out))
  refine (wk_State HWM.out HF.out HI.out).mono ?_
  rintro e w4 ⟨v1, g1, rfl, hs, hp, hb4⟩
  have HS1 := Lib.hid hs
  have HP1 := Lib.hid hp
  have HB4 := Lib.hid hb4
  clear hs hp hb4
  go_wp2_with fail
  refine (ready_any v1 kind _).mono ?_
  rintro e V ⟨rfl, hV⟩
  have HBV : Hid (Below w4.heap.size w4 V) := Lib.hid (by rw [hV]; exact below_alloc (below_alloc (Below.refl _ _) _) _)
  have HSV : Hid (V.heap.size = w4.heap.size + 2) := Lib.hid (by rw [hV]; simp)
  have HV6 : Hid (V.cell? ⟨w4.heap.size, 6, none⟩ = some (.slice v1.A6 v1.n6 v1.c6)) := Lib.hid (by rw [hV]; exact cell_of_blk (blk_alloc (blk_new _) _) 6)
  have HVK : Hid (V.heap[w4.heap.size + 1]? = some (.cells #[.string kind] 9 (0, 0))) := Lib.hid (by rw [hV]; exact blk_new_of _ (by simp))
  clear hV
  go_wp2_with fail
  have HG1 : Hid (g1.jobs = g.jobs) := Lib.hid (by show g1.pure.jobs = g.pure.jobs; rw [HP1.out])
  have HZM := Lib.hid HB4.out.size
  have HWB : Hid (Below w.heap.size w V) := Lib.hid (below2 (below2 (below2 H2.out HMB.out) HB4.out) HBV.out)
  have HM2V : Hid (Below M.heap.size M V) := Lib.hid (below2 HB4.out HBV.out)
  have HNV : Hid (Below N.heap.size N V) := Lib.hid (below2 (below2 (below2 H2n.out HMB.out) HB4.out) HBV.out)
  have HWV := Lib.hid (HWK.out.below HWB.out)
  have HPL : Hid (∀ y, p.T b y → y < w.heap.size) := Lib.hid (fun y hy => HWK.out.lt hy)
  have HSZ : Hid (w.heap.size + 3 ≤ w2.heap.size ∧ w2.heap.size + 2 = M.heap.size ∧ M.heap.size ≤ w4.heap.size ∧ w4.heap.size + 2 = V.heap.size) := Lib.hid ⟨HZ2.out, HMS.out.symm, HZM.out, HSV.out.symm⟩
  have B0V := Lib.hid (block_below HNV.out B0.out)
  have B1V := Lib.hid (block_below HNV.out B1.out)
  have B2V := Lib.hid (block_below HNV.out B2.out)
  have BoV := Lib.hid (block_below HM2V.out HBo.out)
  have BuV := Lib.hid (block_below HM2V.out HBu.out)
  have HROW : Hid (ListR V (fun x => x < V.heap.size ∧ ¬ (p.T b x ∨ x = w2.heap.size)) 6 encJob v1.A6 v1.n6 v1.c6 g.jobs) := Lib.hid (by
    have h1 := HS1.out.jobs
    rw [HG1.out] at h1
    refine ⟨h1.1, (h1.2.weaken (S' := fun x => x < w4.heap.size ∧ (S x ∨ M.heap.size ≤ x)) (fun x hx hs => ⟨hx, hs⟩)).below HBV.out |>.weaken (fun x hx hs => ⟨hx, fun ht => ?_⟩)⟩
    have hz := HSZ.out
    rcases hs.2 with h | h
    · rcases ht with ht | ht
      · exact (HWK.out.dis x h).1 ht
      · have := (HWK.out.dis x h).2; omega
    · rcases ht with ht | ht
      · have := HPL.out x ht; omega
      · omega)
  have HSEQ := Lib.hid (ready_seq (n₂ := V.heap.size + 2) HV6.out HVK.out (by have hz := HSZ.out; exact ⟨by omega, fun ht => by rcases ht with ht | ht; have := HPL.out _ ht; omega; omega⟩) HROW.out (Nat.le_refl _))
  have HAI : Hid (ActI V.heap.size b w2.heap.size S g p worker till (fun y => y = w.heap.size ∨ y = w.heap.size + 1 ∨ y = w.heap.size + 2 ∨ y = w2.heap.size ∨ y = w2.heap.size + 1) [] V) := Lib.hid ⟨S, v, g, p, none, 0, HWV.out, rfl, ⟨rfl, rfl, rfl, rfl⟩, BoV.out, own_nil _ _ _ _, fun y hy => by
    have hz := HSZ.out
    exact ⟨fun h => by have := (HWK.out.dis y h).2; omega, fun h => by have := HPL.out y h; omega, fun h => by cases h⟩, (fun y h => by cases h), fun y h => .inl h, fun y h => .inl h⟩
  clear ht
  clear HS1 HP1 HBV HV6 HVK HMB HMS HBo HBu HWM B0 B1 B2 HZM HM2V HNV HROW HNS HZ2 H2 H2n HB4 HSV
  refine (wpIn_wide (n := 0)).1 ?_
  refine range_law (P := Tryz.prog) (gf := 30) (lb := #[.pointer (some ⟨w4.heap.size, 0, none⟩), .pointer (some ⟨w4.heap.size + 1, 0, none⟩)]) (by first | rfl | simp) (enters_of Tryz.func30 (by kernel_rfl) rfl)
    HSEQ.out (fun h k => h.trans k) (fun W r o h => KeepN.turn W o) (fun _ => rfl)
    (fun pre U => ActI V.heap.size b w2.heap.size S g p worker till (fun y => y = w.heap.size ∨ y = w.heap.size + 1 ∨ y = w.heap.size + 2 ∨ y = w2.heap.size ∨ y = w2.heap.size + 1) pre U ∧ Mut (fun y => p.T b y ∨ y = w2.heap.size) V U ∧ (pre.length : Int) ≤ most)
    (fun c pre' U => c = .exit 0 ∧ ActX V.heap.size b w2.heap.size S g p worker till (fun y => y = w.heap.size ∨ y = w.heap.size + 1 ∨ y = w.heap.size + 2 ∨ y = w2.heap.size ∨ y = w2.heap.size + 1) most pre' U ∧ Mut (fun y => p.T b y ∨ y = w2.heap.size) V U)
    (OwnFrom.and (actI_own _ _ _ _ _ _ _ _ _ _) (OwnFrom.and (ownFrom_mut (Nat.le_refl _)) (ownFrom_pure _ _)))
    (fun c => OwnFrom.and (ownFrom_pure _ _) (OwnFrom.and (actX_own _ _ _ _ _ _ _ _ _ _ _) (ownFrom_mut (Nat.le_refl _))))
    ⟨HAI.out, Mut.refl _ _, by have := HMO.out; simp; omega⟩
    (fun pre x a' W => ∃ Jb, V.heap.size ≤ Jb ∧ a' = { tmps := #[.pointer (some ⟨b, 0, none⟩), .string kind, .string worker, .int .i64 most, .int .i64 wait, .pointer (some ⟨w.heap.size, 0, none⟩), undef, .pointer (some ⟨w.heap.size + 1, 0, none⟩), .pointer (some ⟨w.heap.size + 1 + 1, 0, none⟩), undef, .slice none 0 0, .int .i64 0, .pointer (some ⟨w2.heap.size, 0, none⟩), .pointer (some ⟨w2.heap.size + 1, 0, none⟩), undef, .pointer (some ⟨Jb, 0, none⟩), .pointer (some ⟨b, 0, none⟩), .bool false, .bool false, .string kind, .bool true, .bool false, .bool false, .bool false, .string worker, .bool true, .bool false, .bool false, .bool false, .int .i64 most, .bool false, .bool false, .bool false, .int .i64 most, .bool false, .bool false, .bool false, .int .i64 wait, .bool false, .bool false, .bool false, .int .i64 wait, .bool false, .bool false, .pointer (some ⟨b, 0, none⟩), .int .i64 p.now, .int .i64 wait, .int .i64 till, .pointer (some ⟨b, 0, none⟩), .agg v1.vals, .string kind, .func (.func 30) #[] #[.pointer (some ⟨w4.heap.size, 0, none⟩), .pointer (some ⟨w4.heap.size + 1, 0, none⟩)], .int .i64 (x.1 : Nat), .agg #[.int .u64 x.2.key, .int .u64 x.2.token, .string x.2.typ, .int .i64 x.2.retries, .string x.2.worker, .int .i64 x.2.till], undef, undef, undef, undef, undef, undef, undef, undef, undef, undef, undef, undef, undef, undef, undef, undef, undef, undef, undef, undef, undef, undef, undef, undef, undef, undef], defers := [] } ∧ W.heap[Jb]? = some (.cells #[.int .u64 x.2.key, .int .u64 x.2.token, .string x.2.typ, .int .i64 x.2.retries, .string x.2.worker, .int .i64 x.2.till] 45 (0, 0)) ∧ ActI V.heap.size b w2.heap.size S g p worker till (fun y => (y = w.heap.size ∨ y = w.heap.size + 1 ∨ y = w.heap.size + 2 ∨ y = w2.heap.size ∨ y = w2.heap.size + 1) ∨ y = Jb) pre W)
    (fun pre x a' u W W' row hs hg hr => by obtain ⟨Jb, h1, h2, h3, h4⟩ := hs; exact ⟨Jb, h1, h2, ownFrom_blk _ _ _ _ () W W' row h3 hg hr, actI_own _ _ _ _ _ _ _ _ _ _ _ W W' row h4 hg hr⟩)
    ?assign ?body ?done ?stop
  case assign =>
    rintro l2 pre x U K ⟨hAI, hMU, hle⟩ hK
    gi_wp2
    exact hK _ _ ⟨by simp, fun k o _ ho _ => block_below (below_alloc (Below.refl _ _) _) ho⟩ (KeepN.of_mut (Mut.of_below (below_alloc (Below.refl _ _) _) (fun _ => False)) hMU.size (fun _ _ h => h.elim)) ⟨(actI_own V.heap.size _ _ _ _ _ _ _ _ _).alloc _ hAI, Mut.trans hMU (Mut.of_below (below_alloc (Below.refl _ _) _) (fun _ => False)) (fun _ _ h => h.elim), hle⟩ ⟨U.heap.size, hMU.size, (by first | rfl | simp), blk_new _, hAI.new _⟩
  case body =>
    rintro l2 pre x a' U hU ⟨hAI, hMU, hle⟩ ⟨Jb, hJn, rfl, hJc, S2, v2, g2, p2, A2, cc2, hW2, hp2, hq2, hbo, ho, hF2, hd2, hS2, hT2⟩ hok
    have hz := HSZ.out
    have NT : ∀ y, w.heap.size ≤ y → y ≠ w2.heap.size → ¬ (p.T b y ∨ y = w2.heap.size) := fun y h1 h2 ht => by rcases ht with ht | ht; have := HPL.out y ht; omega; omega
    have c0 : U.cell? ⟨w.heap.size, 0, none⟩ = some (.pointer (some ⟨b, 0, none⟩)) := cell_of_blk (hMU.blk B0V.out (NT _ (by omega) (by omega))) 0
    have c2 : U.cell? ⟨w.heap.size + 1 + 1, 0, none⟩ = some (.int .i64 most) := cell_of_blk (hMU.blk B2V.out (NT _ (by omega) (by omega))) 0
    have b1U := hMU.blk B1V.out (NT _ (by omega) (by omega))
    have buU := hMU.blk BuV.out (NT _ (by omega) (by omega))
    have c1 : U.cell? ⟨w.heap.size + 1, 0, none⟩ = some (.string worker) := cell_of_blk b1U 0
    have cu : U.cell? ⟨w2.heap.size + 1, 0, none⟩ = some (.int .i64 till) := cell_of_blk buU 0
    have co : U.cell? ⟨w2.heap.size, 0, none⟩ = some (.slice A2 pre.length cc2) := cell_of_blk hbo 0
    have j0 : U.cell? ⟨Jb, 0, none⟩ = some (.int .u64 x.2.key) := cell_of_blk hJc 0
    have B1U := Lib.hid b1U
    have BuU := Lib.hid buU
    have HJC := Lib.hid hJc
    have HW2 := Lib.hid hW2
    have HP2 := Lib.hid hp2
    have HQ2 := Lib.hid hq2
    have HBO := Lib.hid hbo
    have HO := Lib.hid ho
    have HF2 := Lib.hid hF2
    have HD2 := Lib.hid hd2
    have HS2 := Lib.hid hS2
    have HT2 := Lib.hid hT2
    have HAIU := Lib.hid hAI
    have HMU := Lib.hid hMU
    have HUN : Hid (V.heap.size ≤ U.heap.size) := Lib.hid (by omega)
    have HJN := Lib.hid hJn
    have HLE := Lib.hid hle
    clear b1U buU hJc hW2 hp2 hq2 hbo ho hF2 hd2 hS2 hT2 hAI hMU hU hJn hok NT hz hle k1 k2 k3 k4 m3 m4
    by_cases hq : (pre.length : Int) = most
    · have hq1 : ((pre.length : Int) == most) = true := beq_t hq
      have HQ := Lib.hid hq
      clear hq
      gi_wp2
      exact ⟨KeepsFrom.refl _ _, rfl, ⟨pre, x, rfl, HQ.out, HAIU.out⟩, HMU.out⟩
    · have hq1 : ((pre.length : Int) == most) = false := beq_f hq
      have HQ := Lib.hid hq
      clear hq
      gi_wp2
      refine ⟨trivial, rfl, CallsIn.mono (F := Fence.wide.inRound l2) (callsIn_wide.2 (em7 HW2.out ?_ ?_ x.2.key worker till)) ?_⟩
      · have h1 := HM.out; have h2 := HQ2.out.1; have h3 := HLE.out; have h4 := HMO.out; omega
      · exact (alike_of (by rw [HP2.out]; exact take_alike _ _ _ _ _)).fits HF.out
      rintro e U1 ⟨⟨ev, rfl⟩, S3, v3, g3, p3, hW3, hp3, hm3, ha3, hb3, hn3, hS3, hT3, hMu⟩
      have NF : ∀ y, (y = w.heap.size ∨ y = w.heap.size + 1 ∨ y = w.heap.size + 2 ∨ y = w2.heap.size ∨ y = w2.heap.size + 1) ∨ y = Jb → ¬ p2.T b y := fun y hy => (HF2.out y hy).2.1
      have d1 : U1.cell? ⟨w.heap.size + 1, 0, none⟩ = some (.string worker) := cell_of_blk (hMu.blk B1U.out (NF _ (by omega))) 0
      have du : U1.cell? ⟨w2.heap.size + 1, 0, none⟩ = some (.int .i64 till) := cell_of_blk (hMu.blk BuU.out (NF _ (by omega))) 0
      have hJ1 := hMu.blk HJC.out (NF Jb (.inr rfl))
      have z4 := cell_of_blk hJ1 4
      have z5 := cell_of_blk hJ1 5
      have f4 := frozen_of_blk hJ1 4
      have f5 := frozen_of_blk hJ1 5
      have hjo : Jb ≠ w2.heap.size := by have h1 := HJN.out; have h2 := HSZ.out; omega
      have hju : Jb ≠ w2.heap.size + 1 := by have h1 := HJN.out; have h2 := HSZ.out; omega
      have hj1 : Jb ≠ w.heap.size + 1 := by have h1 := HJN.out; have h2 := HSZ.out; omega
      have do1 : U1.cell? ⟨w2.heap.size, 0, none⟩ = some (.slice A2 pre.length cc2) := cell_of_blk (hMu.blk HBO.out (NF _ (by omega))) 0
      have HJ1 := Lib.hid hJ1
      have HW3 := Lib.hid hW3
      have HP3 := Lib.hid hp3
      have HM3 := Lib.hid hm3
      have HA3 := Lib.hid ha3
      have HB3 := Lib.hid hb3
      have HN3 := Lib.hid hn3
      have HS3 := Lib.hid hS3
      have HT3 := Lib.hid hT3
      have HMu := Lib.hid hMu
      have HOU := Lib.hid (own_mut HO.out hMu (fun y hy => (HD2.out y hy).2))
      clear NF hJ1 hW3 hp3 hm3 ha3 hb3 hn3 hS3 hT3 hMu c0 c1 c2 cu co j0 hq1
      obtain ⟨U2, hU2⟩ : ∃ U2, U2 = ((U1.setCell ⟨Jb, 4, none⟩ (.string worker)).setCell ⟨Jb, 5, none⟩ (.int .i64 till)).drew := ⟨_, rfl⟩
      have hM2 : Mut (fun y => y = Jb) U1 U2 := by rw [hU2]; exact (Mut.setCell (T := fun y => y = Jb) (Mut.setCell (T := fun y => y = Jb) (Mut.refl _ _) (p := ⟨Jb, 4, none⟩) (fun _ => rfl) _) (p := ⟨Jb, 5, none⟩) (fun _ => rfl) _).drew
      have hJ2 : U2.heap[Jb]? = some (.cells #[.int .u64 x.2.key, .int .u64 x.2.token, .string x.2.typ, .int .i64 x.2.retries, .string worker, .int .i64 till] 45 (0, 0)) := by rw [hU2]; exact set_blk (o := 5) (set_blk (o := 4) HJ1.out _) _
      have y0 : U2.cell? ⟨Jb, 0, none⟩ = some (.int .u64 x.2.key) := cell_of_blk hJ2 0
      have y1 : U2.cell? ⟨Jb, 1, none⟩ = some (.int .u64 x.2.token) := cell_of_blk hJ2 1
      have y2 : U2.cell? ⟨Jb, 2, none⟩ = some (.string x.2.typ) := cell_of_blk hJ2 2
      have y3 : U2.cell? ⟨Jb, 3, none⟩ = some (.int .i64 x.2.retries) := cell_of_blk hJ2 3
      have y4 : U2.cell? ⟨Jb, 4, none⟩ = some (.string worker) := cell_of_blk hJ2 4
      have y5 : U2.cell? ⟨Jb, 5, none⟩ = some (.int .i64 till) := cell_of_blk hJ2 5
      have yo : U2.cell? ⟨w2.heap.size, 0, none⟩ = some (.slice A2 pre.length cc2) := hM2.cell do1 (fun e => hjo e.symm)
      have HO2 := Lib.hid (own_mut HOU.out hM2 (fun y hy e => (HF2.out Jb (.inr rfl)).2.2 (by rw [hy, e])))
      have HU2 := Lib.hid hU2
      have HM2 := Lib.hid hM2
      have HBO2 := Lib.hid (hM2.blk (HMu.out.blk HBO.out (fun h => (HF2.out w2.heap.size (.inl (by omega))).2.1 h)) (fun e => hjo e.symm))
      clear hU2 hM2 hJ2
      gi_wp2
      gi_region
      all_goals (rw [show ((U1.setCell ⟨Jb, 4, none⟩ (.string worker)).setCell ⟨Jb, 5, none⟩ (.int .i64 till)).drew = U2 from HU2.out.symm])
      clear HU2
      gi_wp2_with (gi_at_builtin; refine wpIn_app_at eJob (by decide) rfl (.tmp 69) (.tmp 71) rfl V.heap.size (.slice A2 pre.length cc2) pre.length ((pre.map (outJ worker till)).flatMap encJob) [.int .u64 x.2.key, .int .u64 x.2.token, .string x.2.typ, .int .i64 x.2.retries, .string worker, .int .i64 till] rfl U2.heap.size rfl rfl rfl (by simp [Value.oneCell']) HO2.out (by have h1 := HUN.out; have h2 := HMu.out.size; have h3 := HM2.out.size; omega) (by have h3 := HLE.out; have h4 := HMO.out; omega) (by have h3 := HLE.out; have h4 := HMO.out; omega) ?_; intro v4 w4x own4 hg4 hat4; obtain ⟨A4, c4, rfl, -, -⟩ := (Row.of_own own4).open_; have HO4 := Lib.hid own4; have HG4 := Lib.hid hg4; have HA4 := Lib.hid hat4; have xb := (hg4.block _ (lt_of_blk (block_below (below_alloc (Below.refl _ _) _) HBO2.out)) (fun e => (HF2.out w2.heap.size (.inl (by omega))).2.2 e.symm)).trans (block_below (below_alloc (Below.refl _ _) _) HBO2.out); have xc := cell_of_blk xb 0; have xf := frozen_of_blk xb 0; clear own4 hg4 hat4 xb)
      all_goals
        have hR := act_round (V := V) (T0 := fun y => p.T b y ∨ y = w2.heap.size) HW2.out HP2.out HQ2.out HBO.out HO.out HF2.out HD2.out HS2.out HT2.out (fun y hy => by have := HSZ.out; omega) (.inr (.inr (.inr (.inl rfl)))) HUN.out HJN.out HJC.out HW3.out HP3.out HM3.out HA3.out HB3.out HN3.out HS3.out HT3.out HMu.out HM2.out HO4.out HG4.out HA4.out HMU.out rfl (fun y h => h)
        exact ⟨hR.1, hR.2.1, hR.2.2.1, hR.2.2.2, by have h1 := HLE.out; have h2 := HQ.out; rw [List.length_append]; simp; omega⟩
  case done =>
    rintro D ys U hD rfl ⟨hAI, hMU, hle⟩ hK
    have hz := HSZ.out
    have NT : ∀ y, w.heap.size ≤ y → y ≠ w2.heap.size → ¬ (p.T b y ∨ y = w2.heap.size) := fun y h1 h2 ht => by rcases ht with ht | ht; have := HPL.out y ht; omega; omega
    have c0 : U.cell? ⟨w.heap.size, 0, none⟩ = some (.pointer (some ⟨b, 0, none⟩)) := cell_of_blk (hMU.blk B0V.out (NT _ (by omega) (by omega))) 0
    have HTS : Hid ((rdy kind g.jobs 0).take most.toNat = rdy kind g.jobs 0) := Lib.hid (List.take_of_length_le (by omega))
    generalize rdy kind g.jobs 0 = ts at *
    have HLT := Lib.hid hle
    have HZ := Lib.hid hz
    obtain ⟨S2, v2, g2, p2, A2, cc2, hW2, hp2, hq2, hbo, ho, hF2, hd2, hS2, hT2⟩ := hAI
    have co : U.cell? ⟨w2.heap.size, 0, none⟩ = some (.slice A2 ts.length cc2) := cell_of_blk hbo 0
    have HWU := Lib.hid hW2
    have HPU := Lib.hid hp2
    have HQU := Lib.hid hq2
    have HO := Lib.hid ho
    have HDU := Lib.hid hd2
    have HSU := Lib.hid hS2
    have HTU := Lib.hid hT2
    have HKD := Lib.hid hK
    have HDV := Lib.hid hD
    have HMX : Hid (Mut (p.T b) w U) := Lib.hid (Mut.trans (Mut.of_below HWB.out (p.T b)) hMU (fun y hy ht => by rcases ht with ht | ht; exact ht; have h1 := HSZ.out; omega))
    clear hW2 hp2 hq2 hbo ho hF2 hd2 hS2 hT2 hz NT hK hD hle hMU HSEQ HAI
    by_cases h0 : ts.length = 0
    · obtain rfl : ts = [] := List.eq_nil_of_length_eq_zero h0
      clear h0
      go_wp2_with fail
      refine (em24 HWU.out (by have h1 := HM.out; have h2 := HQU.out.1; simp at h2; omega)).mono ?_
      rintro e U1 ⟨⟨ev, rfl⟩, S3, v3, g3, p3, hW3, hp3, hm3, ha3, hb3, hn3, hS3, hT3, hMu⟩
      have co1 : U1.cell? ⟨w2.heap.size, 0, none⟩ = some (.slice A2 0 cc2) := hMu.cell co (fun h => by
        have h : p.T b w2.heap.size ∨ V.heap.size ≤ w2.heap.size := HTU.out _ h
        have hz := HSZ.out
        rcases h with h | h
        · have := HPL.out _ h; omega
        · omega)
      have HK1 : Hid (U1.heap[D]? = some (.deferred (some []))) := Lib.hid (hMu.blk HKD.out (fun h => by
        have h4 := HKD.out
        rcases h with rfl | h
        · rw [HWU.out.box] at h4; cases h4
        · obtain ⟨xs, hx⟩ := HWU.out.ev
          obtain ⟨_, cs, h3⟩ := own_type hx h
          rw [h3] at h4; cases h4))
      have HR := act_fin (S := S) (g := g) (p := p) (worker := worker) (till := till) (ts := []) hW3 (by rw [if_pos rfl, hp3, show g2.pure = g.pure from HPU.out, emR_eq HQU.out.2.2.1 HQU.out.2.2.2, show g2.pos = g.pos from (by show g2.pure.pos = g.pure.pos; rw [show g2.pure = g.pure from HPU.out])]; rfl) (by have h1 := HQU.out.1; simp at h1; omega) (ha3.trans HQU.out.2.1) (hb3.trans HQU.out.2.2.1) (hn3.trans HQU.out.2.2.2) (own_mut HO.out hMu (fun x hx => (HDU.out x hx).2)) (fun x hx => by have h1 := HDU.out x hx; have h2 := (HO.out.lt x hx).2; exact ⟨fun h => (hS3 x h).elim h1.1 (by omega), fun h => (hT3 x h).elim h1.2 (by omega)⟩) (fun x hx => (hS3 x hx).elim (fun h => (HSU.out x h).imp id (fun h => by have h1 := HSZ.out; omega)) (fun h => .inr (by have h1 := HMX.out.size; omega))) (fun x hx => (hT3 x hx).elim (fun h => (HTU.out x h).imp id (fun h => by have h1 := HSZ.out; omega)) (fun h => .inr (by have h1 := HMX.out.size; omega))) (Mut.trans HMX.out hMu (fun x hx h => (HTU.out x h).resolve_right (by have h1 := HSZ.out; omega))) HWB.out.size HK1.out (Nat.le_trans HWB.out.size HDV.out)
      have HR2 := Lib.hid HR
      clear HR hW3 hp3 hm3 ha3 hb3 hn3 hS3 hT3 hMu co c0
      go_wp2
      refine ⟨by simp, .inl ⟨_, _, rfl, run_takeDeferred (w := U1) HK1.out, ?_⟩⟩
      rw [HTS.out]
      refine ⟨_, results_tmp2 rfl _ _ _, ?_⟩
      exact HR2.out
    · have hl0 : ((ts.length : Int) == 0) = false := beq_f (by omega)
      have H0 := Lib.hid h0
      clear h0
      have HR := act_fin (S := S) (g := g) (p := p) (till := till) HWU.out (by rw [if_neg (by intro h; rw [h] at H0; exact H0.out rfl)]; exact HPU.out) (by have h1 := HQU.out.1; have h2 := HLT.out; have h3 := HMO.out; omega) HQU.out.2.1 HQU.out.2.2.1 HQU.out.2.2.2 HO.out HDU.out (fun x hx => (HSU.out x hx).imp id (fun h => by have h1 := HSZ.out; omega)) (fun x hx => (HTU.out x hx).imp id (fun h => by have h1 := HSZ.out; omega)) HMX.out HWB.out.size HKD.out (Nat.le_trans HWB.out.size HDV.out)
      go_wp2
      refine ⟨by simp, .inl ⟨_, _, rfl, run_takeDeferred (w := U) HKD.out, ?_⟩⟩
      rw [HTS.out]
      refine ⟨_, results_tmp2 rfl _ _ _, ?_⟩
      exact HR
  case stop =>
    rintro D c pre' U hD hS ⟨rfl, ⟨pre, x, rfl, hpl, hAI⟩, hMU⟩ hK
    have hz := HSZ.out
    have NT : ∀ y, w.heap.size ≤ y → y ≠ w2.heap.size → ¬ (p.T b y ∨ y = w2.heap.size) := fun y h1 h2 ht => by rcases ht with ht | ht; have := HPL.out y ht; omega; omega
    have c0 : U.cell? ⟨w.heap.size, 0, none⟩ = some (.pointer (some ⟨b, 0, none⟩)) := cell_of_blk (hMU.blk B0V.out (NT _ (by omega) (by omega))) 0
    have HTS : Hid ((rdy kind g.jobs 0).take most.toNat = pre) := Lib.hid (by
      have h1 := List.prefix_iff_eq_take.1 ((List.prefix_append pre [x]).trans hS)
      have h2 : most.toNat = pre.length := by omega
      rw [h2]; exact h1.symm)
    have HLT : Hid ((pre.length : Int) ≤ most) := Lib.hid (by omega)
    have HPL1 : Hid (1 ≤ pre.length) := Lib.hid (by have h1 := HMO.out; omega)
    clear hpl hS
    generalize pre = ts at *
    have HZ := Lib.hid hz
    obtain ⟨S2, v2, g2, p2, A2, cc2, hW2, hp2, hq2, hbo, ho, hF2, hd2, hS2, hT2⟩ := hAI
    have co : U.cell? ⟨w2.heap.size, 0, none⟩ = some (.slice A2 ts.length cc2) := cell_of_blk hbo 0
    have HWU := Lib.hid hW2
    have HPU := Lib.hid hp2
    have HQU := Lib.hid hq2
    have HO := Lib.hid ho
    have HDU := Lib.hid hd2
    have HSU := Lib.hid hS2
    have HTU := Lib.hid hT2
    have HKD := Lib.hid hK
    have HDV := Lib.hid hD
    have HMX : Hid (Mut (p.T b) w U) := Lib.hid (Mut.trans (Mut.of_below HWB.out (p.T b)) hMU (fun y hy ht => by rcases ht with ht | ht; exact ht; have h1 := HSZ.out; omega))
    clear hW2 hp2 hq2 hbo ho hF2 hd2 hS2 hT2 hz NT hK hD hMU HSEQ HAI
    have hl0 : ((ts.length : Int) == 0) = false := beq_f (by have h1 := HPL1.out; omega)
    have H0 : Hid (¬ ts.length = 0) := Lib.hid (by have h1 := HPL1.out; omega)
    refine (wpIn_wide (n := 0)).2 ?_
    have HR := act_fin (S := S) (g := g) (p := p) (till := till) HWU.out (by rw [if_neg (by intro h; rw [h] at H0; exact H0.out rfl)]; exact HPU.out) (by have h1 := HQU.out.1; have h2 := HLT.out; have h3 := HMO.out; omega) HQU.out.2.1 HQU.out.2.2.1 HQU.out.2.2.2 HO.out HDU.out (fun x hx => (HSU.out x hx).imp id (fun h => by have h1 := HSZ.out; omega)) (fun x hx => (HTU.out x hx).imp id (fun h => by have h1 := HSZ.out; omega)) HMX.out HWB.out.size HKD.out (Nat.le_trans HWB.out.size HDV.out)
    go_wp2
    refine ⟨by simp, .inl ⟨_, _, rfl, run_takeDeferred (w := U) HKD.out, ?_⟩⟩
    rw [HTS.out]
    refine ⟨_, results_tmp2 rfl _ _ _, ?_⟩
    exact HR
end Go.Proofs.YtfjdllpacdobdaaGreat
/-
  book.taken, Fail, Late.
-/
set_option linter.unusedVariables false
set_option linter.unusedSimpArgs false
namespace Go.Proofs.YtfjdllpacdobdaaGreat
open Go Go.RowKit Go.Proofs.Base
open Go.Sort (grow)
theorem bJob : BoxT Tryz.prog 45 6 := ⟨by kernel_rfl, by kernel_rfl⟩
def takenP (key : Int) (l : List EJob) : EJob × Int :=
  if (findP zeroJob (fun x : EJob => x.key == key) l).2 = false then ((findP zeroJob (fun x : EJob => x.key == key) l).1, 5)
  else if (findP zeroJob (fun x : EJob => x.key == key) l).1.worker.toList.isEmpty then ((findP zeroJob (fun x : EJob => x.key == key) l).1, 12)
  else ((findP zeroJob (fun x : EJob => x.key == key) l).1, 0)
theorem takenP_of {key : Int} {l : List EJob} {x : EJob} {ok : Bool} (h : findP zeroJob (fun x : EJob => x.key == key) l = (x, ok)) : takenP key l = if ok = false then (x, 5) else if x.worker.toList.isEmpty then (x, 12) else (x, 0) := by
  unfold takenP; rw [h]
def TakenTo (key : Int) (l : List EJob) (w : World) (e : Ending) (w' : World) : Prop :=
  ∃ x en, takenP key l = (x, en) ∧ e = .returned (.tuple #[.agg #[.int .u64 x.key, .int .u64 x.token, .string x.typ, .int .i64 x.retries, .string x.worker, .int .i64 x.till], .int .i64 en]) ∧ Below w.heap.size w w'
set_option maxRecDepth 100000 in
set_option maxHeartbeats 4000000 in
theorem bk_taken {S : Nat → Prop} {b : Nat} {w : World} {v : StV} {g : GSt} {p : WkP} (h : WkB S b w v g p) (hf : g.fits) (hi : ∀ x ∈ g.msgs, x.insts.length * 8 ≤ 140737488355328) (key : Int) :
    Calls Tryz.prog 27 #[.pointer (some ⟨b, 0, none⟩), .int .u64 key] w (TakenTo key g.jobs w) := by
  have HC := Lib.hid (fun (o : Obj) => wk_State (h.below (below_alloc (Below.refl _ _) o)) hf hi)
  clear h hf hi
  go_enter Tryz.func27, Tryz.ntmps27
  go_wp2_with fail
  refine (HC.out _).mono ?_
  rintro e w1 ⟨v1, g1, rfl, hs, hp, hb⟩
  have hj : g1.jobs = g.jobs := by show g1.pure.jobs = g.pure.jobs; rw [hp]
  have HJ := Lib.hid hs.jobs
  have HJJ := Lib.hid hj
  have HR1 := Lib.hid (block_below hb (heap_alloc_new _ _))
  have HB1 := Lib.hid (below2 (below_alloc (Below.refl _ _) _) hb)
  have HZ1 : Hid (w.heap.size < w1.heap.size) := Lib.hid (by have := hb.size; rw [World.size_alloc] at this; omega)
  clear hs hp hb hj HC
  go_wp2_with fail
  refine (ask_JobV v1 key g1.jobs w1 _ HJ.out).mono ?_
  rintro e w2 ⟨x, ok, hfnd, rfl, hb2⟩
  have HT : Hid (takenP key g.jobs = if ok = false then (x, 5) else if x.worker.toList.isEmpty then (x, 12) else (x, 0)) := Lib.hid (takenP_of (by rw [← HJJ.out]; exact hfnd))
  have HR2 := Lib.hid (block_below hb2 HR1.out)
  have HB2 := Lib.hid (below2 HB1.out hb2)
  have HZ2 : Hid (w.heap.size < w2.heap.size) := Lib.hid (by have := hb2.size; have := HZ1.out; omega)
  have HJB : Hid ((w2.alloc (.cells #[.int .u64 x.key, .int .u64 x.token, .string x.typ, .int .i64 x.retries, .string x.worker, .int .i64 x.till] 45)).heap[w2.heap.size]? = some (.cells #[.int .u64 x.key, .int .u64 x.token, .string x.typ, .int .i64 x.retries, .string x.worker, .int .i64 x.till] 45 (0, 0))) := Lib.hid (blk_new _)
  have HRN := Lib.hid (blk_alloc HR2.out (.cells #[.int .u64 x.key, .int .u64 x.token, .string x.typ, .int .i64 x.retries, .string x.worker, .int .i64 x.till] 45))
  have HBN : Hid (Below w.heap.size w (w2.alloc (.cells #[.int .u64 x.key, .int .u64 x.token, .string x.typ, .int .i64 x.retries, .string x.worker, .int .i64 x.till] 45))) := Lib.hid (below_alloc HB2.out _)
  clear hfnd hb2 HJ HR1 HR2 HB1 HB2
  have ww : w.heap.size ≠ w2.heap.size := by have := HZ2.out; omega
  have j4 := cell_of_blk HJB.out 4
  cases ok with
  | false =>
    go_wp2_with (first
      | (refine wpList_load_box _ _ rfl rfl rfl bJob HJB.out rfl ?_)
      | (refine wpList_store_box _ _ _ rfl rfl rfl rfl bJob HRN.out rfl rfl (by simp [Value.oneCell']) ?_; intro V hV hM; have HV := Lib.hid hV; have HM := Lib.hid hM; clear hV hM))
    have s0 := cell_of_blk HV.out 0
    have s1 := cell_of_blk HV.out 1
    have s2 := cell_of_blk HV.out 2
    have s3 := cell_of_blk HV.out 3
    have s4 := cell_of_blk HV.out 4
    have s5 := cell_of_blk HV.out 5
    exact bodyPost_ret (v := .tuple #[.agg #[.int .u64 x.key, .int .u64 x.token, .string x.typ, .int .i64 x.retries, .string x.worker, .int .i64 x.till], .int .i64 5]) (by simp [results, Tryz.results27, go_sem, s0, s1, s2, s3, s4, s5]) rfl ⟨x, 5, HT.out, rfl, below_of_mut HBN.out HBN.out.size HM.out (fun y hy => Nat.le_of_eq hy.symm)⟩
  | true =>
    by_cases h2 : x.worker.toList.isEmpty = true
    · go_wp2_with (first
      | (refine wpList_load_box _ _ rfl rfl rfl bJob HJB.out rfl ?_)
      | (refine wpList_store_box _ _ _ rfl rfl rfl rfl bJob HRN.out rfl rfl (by simp [Value.oneCell']) ?_; intro V hV hM; have HV := Lib.hid hV; have HM := Lib.hid hM; clear hV hM))
      have s0 := cell_of_blk HV.out 0
      have s1 := cell_of_blk HV.out 1
      have s2 := cell_of_blk HV.out 2
      have s3 := cell_of_blk HV.out 3
      have s4 := cell_of_blk HV.out 4
      have s5 := cell_of_blk HV.out 5
      exact bodyPost_ret (v := .tuple #[.agg #[.int .u64 x.key, .int .u64 x.token, .string x.typ, .int .i64 x.retries, .string x.worker, .int .i64 x.till], .int .i64 12]) (by simp [results, Tryz.results27, go_sem, s0, s1, s2, s3, s4, s5]) rfl ⟨x, 12, (by rw [HT.out]; simp [h2]), rfl, below_of_mut HBN.out HBN.out.size HM.out (fun y hy => Nat.le_of_eq hy.symm)⟩
    · have h2 : x.worker.toList.isEmpty = false := by simpa using h2
      go_wp2_with (first
      | (refine wpList_load_box _ _ rfl rfl rfl bJob HJB.out rfl ?_)
      | (refine wpList_store_box _ _ _ rfl rfl rfl rfl bJob HRN.out rfl rfl (by simp [Value.oneCell']) ?_; intro V hV hM; have HV := Lib.hid hV; have HM := Lib.hid hM; clear hV hM))
      have s0 := cell_of_blk HV.out 0
      have s1 := cell_of_blk HV.out 1
      have s2 := cell_of_blk HV.out 2
      have s3 := cell_of_blk HV.out 3
      have s4 := cell_of_blk HV.out 4
      have s5 := cell_of_blk HV.out 5
      exact bodyPost_ret (v := .tuple #[.agg #[.int .u64 x.key, .int .u64 x.token, .string x.typ, .int .i64 x.retries, .string x.worker, .int .i64 x.till], .int .i64 0]) (by simp [results, Tryz.results27, go_sem, s0, s1, s2, s3, s4, s5]) rfl ⟨x, 0, (by rw [HT.out]; simp [h2]), rfl, below_of_mut HBN.out HBN.out.size HM.out (fun y hy => Nat.le_of_eq hy.symm)⟩
def WTo (S : Nat → Prop) (b : Nat) (w : World) (p : WkP) (r : GSt × Int) (k : Nat) (e : Ending) (w' : World) : Prop :=
  ∃ S' v' g' p', e = .returned (.int .i64 r.2) ∧ WkB S' b w' v' g' p' ∧ g'.pure = r.1 ∧ p'.m ≤ p.m + k ∧ p'.part = p.part ∧ p'.pos = p.pos ∧ p'.now = p.now ∧ (∀ x, S' x → S x ∨ w.heap.size ≤ x) ∧ (∀ x, p'.T b x → p.T b x ∨ w.heap.size ≤ x) ∧ Mut (p.T b) w w'
theorem WTo.same {S : Nat → Prop} {b : Nat} {w w' : World} {v : StV} {g : GSt} {p : WkP} {r : GSt × Int} {k : Nat} {en : Int} (h : WkB S b w v g p) (hr : r = (g.pure, en)) (hb : Below w.heap.size w w') : WTo S b w p r k (.returned (.int .i64 en)) w' := by
  subst hr
  exact ⟨S, v, g, p, rfl, h.below hb, rfl, Nat.le_add_right _ _, rfl, rfl, rfl, fun _ h => .inl h, fun _ h => .inl h, Mut.of_below hb _⟩
theorem WTo.emit {S S1 : Nat → Prop} {b : Nat} {w w1 w' : World} {v1 : StV} {g1 : GSt} {p p1 : WkP} {r : GSt × Int} {k : Nat} {rc : GRec} {e0 : Ending}
    (hE : EmitTo S1 b w1 v1 g1 p1 rc e0 w') (hr : r = (stepP p rc g1.pure, 0)) (hm : p1.m + 1 ≤ p.m + k) (ha : p1.part = p.part) (hb : p1.pos = p.pos) (hn : p1.now = p.now) (hS : ∀ x, S1 x → S x ∨ w.heap.size ≤ x) (hT : ∀ x, p1.T b x → p.T b x ∨ w.heap.size ≤ x) (hM : Mut (p.T b) w w1) : WTo S b w p r k (.returned (.int .i64 0)) w' := by
  obtain ⟨-, S2, v2, g2, p2, h1, h2, h3, h4, h5, h6, h7, h8, h9⟩ := hE
  subst hr
  have hz := hM.size
  refine ⟨S2, v2, g2, p2, rfl, h1, ?_, by omega, h4.trans ha, h5.trans hb, h6.trans hn, fun x hx => (h7 x hx).elim (hS x) (fun h => .inr (by omega)), fun x hx => (h8 x hx).elim (hT x) (fun h => .inr (by omega)), Mut.trans hM h9 (fun x hx h => (hT x h).resolve_right (by omega))⟩
  rw [h2, emR_eq hb hn]; rfl
def jobS : ByteArray := ⟨#[106, 111, 98]⟩
def failP (p : WkP) (key n : Int) (g : GSt) : GSt × Int :=
  if n < 0 ∨ 9 < n then (g, 1) else if (takenP key g.jobs).2 ≠ 0 then (g, (takenP key g.jobs).2)
  else if n = 0 then (stepP p (stR (takenP key g.jobs).1.token jobS) (stepP p (bkR key 0) g), 0) else (stepP p (bkR key n) g, 0)
def lateP (p : WkP) (key : Int) (g : GSt) : GSt × Int :=
  if (takenP key g.jobs).2 ≠ 0 then (g, (takenP key g.jobs).2) else if p.now < (takenP key g.jobs).1.till then (g, 12) else (stepP p (bkR key (takenP key g.jobs).1.retries) g, 0)
def jobO (x : EJob) : Obj := .cells #[.int .u64 x.key, .int .u64 x.token, .string x.typ, .int .i64 x.retries, .string x.worker, .int .i64 x.till] 45 (0, 0)
theorem jobF_till {b1 b2 : Nat} {o1 : Obj} {x : EJob} (W : World) (h : blkC b1 o1 b2 (jobO x) false W) : (loadVar 2 ⟨b2, 5, none⟩).run Tryz.prog W = .ok (.int .i64 x.till) W := load_cell_of Tryz.underlying2 rfl h rfl
set_option maxRecDepth 100000 in
set_option maxHeartbeats 4000000 in
theorem bk_Late {S : Nat → Prop} {b : Nat} {w : World} {v : StV} {g : GSt} {p : WkP} (h : WkB S b w v g p) (hf : g.fits) (hi : ∀ x ∈ g.msgs, x.insts.length * 8 ≤ 140737488355328) (hm : (p.m + 1) * 144 ≤ 140737488355328) (key : Int) :
    Calls Tryz.prog 17 #[.pointer (some ⟨b, 0, none⟩), .int .u64 key] w (WTo S b w p (lateP p key g.pure) 1) := by
  have HC := Lib.hid (bk_taken h hf hi key)
  have HW := Lib.hid h
  have HF := Lib.hid hf
  have HM := Lib.hid hm
  clear h hf hi hm
  go_enter Tryz.func17, Tryz.ntmps17
  go_wp2_with fail
  refine HC.out.mono ?_
  rintro e w1 ⟨x, en, htk, rfl, hb⟩
  have HT : Hid (takenP key g.pure.jobs = (x, en)) := Lib.hid htk
  have HB := Lib.hid hb
  have HW1 := Lib.hid (HW.out.below hb)
  obtain ⟨N, hN⟩ : ∃ N, N = w1.alloc (jobO x) := ⟨_, rfl⟩
  have HJB : Hid (N.heap[w1.heap.size]? = some (jobO x)) := Lib.hid (by rw [hN]; exact blk_new _)
  have HWN : Hid (WkB S b N v g p) := Lib.hid (by rw [hN]; exact HW1.out.below (below_alloc (Below.refl _ _) _))
  have HBN : Hid (Below w.heap.size w N) := Lib.hid (by rw [hN]; exact below_alloc HB.out _)
  have HN := Lib.hid hN
  clear htk hb hN HC
  by_cases he : en = 0
  · subst he
    go_wp2_with fail
    rw [show w1.alloc (.cells #[.int .u64 x.key, .int .u64 x.token, .string x.typ, .int .i64 x.retries, .string x.worker, .int .i64 x.till] 45) = N from HN.out.symm]
    have HCL : Hid (∀ t, blkC b (wkO v p) w1.heap.size (jobO x) t (redrawn N (N.drawn + 1))) := Lib.hid (fun t => blkC_below (below_redrawn N _) t (blkC_at HWN.out.box HJB.out t))
    refine wp_region_ordM (ι := Bool) (blkC b (wkO v p) w1.heap.size (jobO x)) (fun t => cond t [] []) (n := 6) (listed := #[false, false, false, false, false, false]) (by kernel_rfl) rfl rfl ?_
    ((refine wpM_pure (fuel := 5) (listed' := #[true, false, false, false, false, false]) 0 rfl (by kernel_rfl) rfl ?_; (first | go_big_quiet_step (fail) | quiet_step (fail)); refine wpQuiet_nil ?_))
    (refine wpM_read false (fuel := 4) (listed' := #[true, true, false, false, false, false]) 1 (HCL.out false) rfl (by kernel_rfl) rfl ?_; refine wpQuiet_load _ _ rfl rfl rfl jobF_till ?_; refine wpQuiet_nil ?_)
    ((refine wpM_pure (fuel := 3) (listed' := #[true, true, true, false, false, false]) 2 rfl (by kernel_rfl) rfl ?_; (first | go_big_quiet_step (fail) | quiet_step (fail)); refine wpQuiet_nil ?_))
    refine wpM_one (fuel := 2) (listed' := #[true, true, true, true, false, false]) 3 rfl (by kernel_rfl) rfl ?_
    go_wp2_with fail
    refine (wk_Now (HWN.out.below (below_redrawn N _))).mono ?_
    rintro e w2 ⟨rfl, rfl⟩
    go_wp2_with fail
    refine ⟨rfl, fun t _ h => h, ?_⟩
    by_cases hl : p.now < x.till
    · have HR : Hid (lateP p key g.pure = (g.pure, 12)) := Lib.hid (by unfold lateP; rw [HT.out]; simp [hl])
      ((refine wpM_pure (fuel := 1) (listed' := #[true, true, true, true, true, false]) 4 rfl (by kernel_rfl) rfl ?_; (first | go_big_quiet_step (fail) | quiet_step (fail)); refine wpQuiet_nil ?_); (refine wpM_pure (fuel := 0) (listed' := #[true, true, true, true, true, true]) 5 rfl (by kernel_rfl) rfl ?_; (first | go_big_quiet_step (fail) | quiet_step (fail)); refine wpQuiet_nil ?_))
      refine wpM_end rfl ?_
      go_wp2
      go_ret
      exact WTo.same HW.out HR.out (below2 HBN.out (below_redrawn N _))
    · have HR : Hid (lateP p key g.pure = (stepP p (bkR key x.retries) g.pure, 0)) := Lib.hid (by unfold lateP; rw [HT.out]; simp [hl])
      ((refine wpM_pure (fuel := 1) (listed' := #[true, true, true, true, true, false]) 4 rfl (by kernel_rfl) rfl ?_; (first | go_big_quiet_step (fail) | quiet_step (fail)); refine wpQuiet_nil ?_); (refine wpM_pure (fuel := 0) (listed' := #[true, true, true, true, true, true]) 5 rfl (by kernel_rfl) rfl ?_; (first | go_big_quiet_step (fail) | quiet_step (fail)); refine wpQuiet_nil ?_))
      refine wpM_end rfl ?_
      have j3 := cell_of_blk (block_below (below_redrawn N (N.drawn + 1)) HJB.out) 3
      go_wp2_with fail
      refine (em8 (HWN.out.below (below_redrawn N (N.drawn + 1))) HM.out HF.out key x.retries).mono ?_
      rintro e w3 hE
      have HR2 := WTo.emit hE HR.out (Nat.le_refl _) rfl rfl rfl (fun _ h => .inl h) (fun _ h => .inl h) (Mut.of_below (below2 HBN.out (below_redrawn N _)) _)
      obtain ⟨⟨ev, rfl⟩, -⟩ := hE
      have HR3 := Lib.hid HR2
      clear HR2 j3
      go_wp2
      go_ret
      exact HR3.out
  · have hb : (en != 0) = true := bne_t he
    have HR : Hid (lateP p key g.pure = (g.pure, en)) := Lib.hid (by unfold lateP; rw [HT.out]; simp [he])
    clear he
    go_wp2
    go_ret
    exact WTo.same HW.out HR.out (below_alloc HB.out _)
set_option maxRecDepth 100000 in
set_option maxHeartbeats 4000000 in
theorem bk_Fail {S : Nat → Prop} {b : Nat} {w : World} {v : StV} {g : GSt} {p : WkP} (h : WkB S b w v g p) (hf : g.fits) (hi : ∀ x ∈ g.msgs, x.insts.length * 8 ≤ 140737488355328) (hm : (p.m + 2) * 144 ≤ 140737488355328) (key n : Int) :
    Calls Tryz.prog 16 #[.pointer (some ⟨b, 0, none⟩), .int .u64 key, .int .i64 n] w (WTo S b w p (failP p key n g.pure) 2) := by
  have HC := Lib.hid (bk_taken h hf hi key)
  have HW := Lib.hid h
  have HF := Lib.hid hf
  have HM := Lib.hid hm
  clear h hf hi hm
  by_cases hn : n < 0
  · have HR : Hid (failP p key n g.pure = (g.pure, 1)) := Lib.hid (by unfold failP; rw [if_pos (.inl hn)])
    go_enter Tryz.func16, Tryz.ntmps16
    go_wp2
    go_ret
    exact WTo.same HW.out HR.out (Below.refl _ _)
  by_cases hn9 : 9 < n
  · have HR : Hid (failP p key n g.pure = (g.pure, 1)) := Lib.hid (by unfold failP; rw [if_pos (.inr hn9)])
    go_enter Tryz.func16, Tryz.ntmps16
    go_wp2
    go_ret
    exact WTo.same HW.out HR.out (Below.refl _ _)
  have HNN : Hid (¬ (n < 0 ∨ 9 < n)) := Lib.hid (by omega)
  go_enter Tryz.func16, Tryz.ntmps16
  go_wp2_with fail
  refine HC.out.mono ?_
  rintro e w1 ⟨x, en, htk, rfl, hb⟩
  have HT : Hid (takenP key g.pure.jobs = (x, en)) := Lib.hid htk
  have HB := Lib.hid hb
  have HW1 := Lib.hid (HW.out.below hb)
  have HJB : Hid ((w1.alloc (jobO x)).heap[w1.heap.size]? = some (jobO x)) := Lib.hid (blk_new _)
  have HWN : Hid (WkB S b (w1.alloc (jobO x)) v g p) := Lib.hid (HW1.out.below (below_alloc (Below.refl _ _) _))
  have HBN : Hid (Below w.heap.size w (w1.alloc (jobO x))) := Lib.hid (below_alloc HB.out _)
  clear htk hb HC
  by_cases he : en = 0
  · subst he
    go_wp2_with fail
    refine (em8 HWN.out (by have := HM.out; omega) HF.out key n).mono ?_
    rintro e w3 hE
    by_cases h0 : n = 0
    · subst h0
      have HR : Hid (failP p key 0 g.pure = (stepP p (stR x.token jobS) (stepP p (bkR key 0) g.pure), 0)) := Lib.hid (by unfold failP; rw [if_neg HNN.out, HT.out]; simp)
      obtain ⟨⟨ev, rfl⟩, S1, v1, g1, p1, k1, k2, k3, k4, k5, k6, k7, k8, k9⟩ := hE
      have j1 : w3.cell? ⟨w1.heap.size, 1, none⟩ = some (.int .u64 x.token) := k9.cell (cell_of_blk HJB.out 1) (fun hx => by have h1 := HW1.out.lt hx; exact Nat.lt_irrefl _ h1)
      have hp1 : g1.pure = stepP p (bkR key 0) g.pure := k2
      have HE1 := Lib.hid k1
      have HE2 := Lib.hid hp1
      have HE3 := Lib.hid (And.intro k3 (And.intro k4 (And.intro k5 k6)))
      have HE7 := Lib.hid k7
      have HE8 := Lib.hid k8
      have HE9 := Lib.hid k9
      have HF1 : Hid (g1.fits) := Lib.hid ((alike_of (by rw [hp1]; exact step_bk _ _ _ _)).fits HF.out)
      clear k1 k2 k3 k4 k5 k6 k7 k8 k9 hp1 HJB
      go_wp2_with fail
      refine (em13 HE1.out (by have h1 := HE3.out.1; have h2 := HM.out; omega) HF1.out x.token jobS).mono ?_
      rintro e w4 hE
      have HR2 := WTo.emit (S := S) (w := w) (p := p) (k := 2) (r := failP p key 0 g.pure) hE (by rw [HR.out, HE2.out]) (by have h1 := HE3.out.1; omega) HE3.out.2.1 HE3.out.2.2.1 HE3.out.2.2.2 (fun y hy => (HE7.out y hy).imp id (fun h => Nat.le_trans HBN.out.size h)) (fun y hy => (HE8.out y hy).imp id (fun h => Nat.le_trans HBN.out.size h)) (Mut.trans (Mut.of_below HBN.out (p.T b)) HE9.out (fun _ _ h => h))
      obtain ⟨⟨ev2, rfl⟩, -⟩ := hE
      have HR3 := Lib.hid HR2
      clear HR2 j1
      go_wp2
      go_ret
      exact HR3.out
    · have HR : Hid (failP p key n g.pure = (stepP p (bkR key n) g.pure, 0)) := Lib.hid (by unfold failP; rw [if_neg HNN.out, HT.out]; simp [h0])
      have HR2 := WTo.emit (k := 2) hE HR.out (by omega) rfl rfl rfl (fun _ h => .inl h) (fun _ h => .inl h) (Mut.of_below HBN.out _)
      obtain ⟨⟨ev, rfl⟩, -⟩ := hE
      have HR3 := Lib.hid HR2
      have hb0 : (n == 0) = false := beq_f h0
      clear HR2 h0
      go_wp2
      go_ret
      exact HR3.out
  · have hb : (en != 0) = true := bne_t he
    have HR : Hid (failP p key n g.pure = (g.pure, en)) := Lib.hid (by unfold failP; rw [if_neg HNN.out, HT.out]; simp [he])
    clear he
    go_wp2
    go_ret
    exact WTo.same HW.out HR.out (below_alloc HB.out _)
end Go.Proofs.YtfjdllpacdobdaaGreat
/-
  States of one token and one job: what the works of chapter 16's examples make of them.
-/
set_option linter.unusedVariables false
set_option linter.unusedSimpArgs false
namespace Go.Proofs.YtfjdllpacdobdaaGreat
open Go Go.RowKit Go.Proofs.Base
def payS : ByteArray := ⟨#[112, 97, 121]⟩
def wS : ByteArray := ⟨#[119]⟩
def nilS : ByteArray := ⟨#[]⟩
def jT (r : Int) (wk : ByteArray) (t : Int) : EJob := ⟨2, 1, payS, r, wk, t⟩
def GT (pos done r : Int) (wk : ByteArray) (t : Int) (st : ByteArray) : GSt := ⟨pos, done, 0, [], [], [⟨1, 0, 0, 0, 0, st⟩], [jT r wk t], [], [], [], [], []⟩
def IsT (r : Int) (wk : ByteArray) (t : Int) (st : ByteArray) (g : GSt) : Prop := ∃ pos done, g = GT pos done r wk t st
theorem IsT.jobs {r : Int} {wk : ByteArray} {t : Int} {st : ByteArray} {g : GSt} (h : IsT r wk t st g.pure) : g.jobs = [jT r wk t] := by
  obtain ⟨p, d, h⟩ := h
  show g.pure.jobs = _
  rw [h]; rfl
theorem IsT.tokens {r : Int} {wk : ByteArray} {t : Int} {st : ByteArray} {g : GSt} (h : IsT r wk t st g.pure) : g.tokens = [⟨1, 0, 0, 0, 0, st⟩] := by
  obtain ⟨p, d, h⟩ := h
  show g.pure.tokens = _
  rw [h]; rfl
theorem IsT.fits {r : Int} {wk : ByteArray} {t : Int} {st : ByteArray} {g : GSt} (h : IsT r wk t st g.pure) : g.fits := by
  obtain ⟨p, d, h⟩ := h
  refine (alike_pure g).symm.fits ?_
  rw [h]
  unfold GSt.fits GT
  simp
theorem IsT.ints {r : Int} {wk : ByteArray} {t : Int} {st : ByteArray} {g : GSt} (h : IsT r wk t st g.pure) : ∀ x ∈ g.msgs, x.insts.length * 8 ≤ 140737488355328 := by
  obtain ⟨p, d, h⟩ := h
  refine (alike_pure g).symm.ints ?_
  rw [h]
  intro x hx
  cases hx
theorem isT_tk (p : WkP) {r : Int} {wk : ByteArray} {t : Int} {st : ByteArray} {g : GSt} (h : IsT r wk t st g) (w2 : ByteArray) (t2 : Int) : IsT r w2 t2 st (stepP p (tkR 2 w2 t2) g) := by
  obtain ⟨a, d, rfl⟩ := h
  exact ⟨_, _, rfl⟩
theorem isT_bk (p : WkP) {r : Int} {wk : ByteArray} {t : Int} {st : ByteArray} {g : GSt} (h : IsT r wk t st g) (n : Int) : IsT n nilS 0 st (stepP p (bkR 2 n) g) := by
  obtain ⟨a, d, rfl⟩ := h
  exact ⟨_, _, rfl⟩
theorem isT_st (p : WkP) {r : Int} {wk : ByteArray} {t : Int} {st : ByteArray} {g : GSt} (h : IsT r wk t st g) (why : ByteArray) : IsT r wk t why (stepP p (stR 1 why) g) := by
  obtain ⟨a, d, rfl⟩ := h
  exact ⟨_, _, rfl⟩
theorem isT_dn (p : WkP) {r : Int} {wk : ByteArray} {t : Int} {st : ByteArray} {g : GSt} (h : IsT r wk t st g) : IsT r wk t st (stepP p dnR g) := by
  obtain ⟨a, d, rfl⟩ := h
  exact ⟨_, _, rfl⟩
theorem ready_jT (r : Int) (t : Int) (h : 0 < r) : readyB payS (jT r nilS t) = true := by
  simp [readyB, jT, nilS, toList_toL, toL, h]
theorem ready_no (r : Int) (t : Int) : readyB payS (jT r wS t) = false := by
  simp [readyB, jT, wS, toList_toL, toL]
theorem ready_0 (t : Int) : readyB payS (jT 0 nilS t) = false := by
  simp [readyB, jT]
theorem rdy_one {r t : Int} (h : 0 < r) {most : Int} (hm : 1 ≤ most) : (rdy payS [jT r nilS t] 0).take most.toNat = [(0, jT r nilS t)] := by
  have e : rdy payS [jT r nilS t] 0 = [(0, jT r nilS t)] := by simp [rdy, ready_jT r t h]
  rw [e, List.take_of_length_le (by simp; omega)]
theorem rdy_no {r t : Int} (n : Nat) : (rdy payS [jT r wS t] 0).take n = [] := by
  simp [rdy, ready_no r t]
theorem rdy_0 {t : Int} (n : Nat) : (rdy payS [jT 0 nilS t] 0).take n = [] := by
  simp [rdy, ready_0 t]
theorem taken_w (r t : Int) : takenP 2 [jT r wS t] = (jT r wS t, 0) := by
  have e : findP zeroJob (fun x : EJob => x.key == 2) [jT r wS t] = (jT r wS t, true) := rfl
  rw [takenP_of e]
  simp [jT, wS, toList_toL, toL]
def WkT (F : Nat → Prop) (N0 N b : Nat) (W : World) (r : Int) (wk : ByteArray) (t : Int) (st : ByteArray) (now : Int) (k : Nat) : Prop :=
  ∃ S v g p, WkB S b W v g p ∧ IsT r wk t st g.pure ∧ p.now = now ∧ p.m ≤ k ∧ (∀ x, p.T b x → N ≤ x) ∧ (∀ x, S x → N0 ≤ x) ∧ (∀ x, F x → ¬ S x ∧ ¬ p.T b x ∧ x < W.heap.size) ∧ N0 ≤ N
section
variable {F : Nat → Prop} {N0 N b : Nat} {w : World} {r : Int} {wk : ByteArray} {t : Int} {st : ByteArray} {now : Int} {k : Nat}
theorem WkT.below {w' : World} (h : WkT F N0 N b w r wk t st now k) (hb : Below w.heap.size w w') : WkT F N0 N b w' r wk t st now k := by
  obtain ⟨S, v, g, p, h1, h2, h3, h4, h5, h6, h7, h8⟩ := h
  exact ⟨S, v, g, p, h1.below hb, h2, h3, h4, h5, h6, fun x hx => ⟨(h7 x hx).1, (h7 x hx).2.1, Nat.lt_of_lt_of_le (h7 x hx).2.2 hb.size⟩, h8⟩
theorem WkT.lt (h : WkT F N0 N b w r wk t st now k) : N ≤ b ∧ b < w.heap.size ∧ N0 ≤ w.heap.size := by
  obtain ⟨S, v, g, p, h1, h2, h3, h4, h5, h6, h7, h8⟩ := h
  have := h5 b (.inl rfl)
  have := lt_of_blk h1.box
  omega
theorem WkT.more {F' : Nat → Prop} (h : WkT F N0 N b w r wk t st now k) (hF : ∀ x, F' x → F x) : WkT F' N0 N b w r wk t st now k := by
  obtain ⟨S, v, g, p, h1, h2, h3, h4, h5, h6, h7, h8⟩ := h
  exact ⟨S, v, g, p, h1, h2, h3, h4, h5, h6, fun x hx => h7 x (hF x hx), h8⟩
theorem tt_BeginF {S F : Nat → Prop} {v : StV} {g : GSt} (hs : StR w S v g) (hg : IsT r wk t st g.pure) (hS : ∀ x, S x → N0 ≤ x) (h0 : N0 ≤ w.heap.size) (hF : ∀ x, F x → ¬ S x ∧ x < w.heap.size) (part pos now : Int) :
    Calls Tryz.prog 10 #[.agg v.vals, .int .i64 part, .int .u64 pos, .int .i64 now] w fun e w' => ∃ b, e = .returned (.pointer (some ⟨b, 0, none⟩)) ∧ WkT F N0 w.heap.size b w' r wk t st now 0 ∧ Below w.heap.size w w' := by
  refine (wk_Begin hs hg.fits hg.ints part pos now).mono ?_
  rintro e w' ⟨b, v', g', rfl, hb, hw, hp, hbl⟩
  have hSb : ∀ x, ((S x ∧ x < w.heap.size) ∨ (w.heap.size ≤ x ∧ x < b)) → N0 ≤ x := fun x hx => hx.elim (fun h => hS x h.1) (fun h => by omega)
  have hTb : ∀ x, (⟨part, pos, now, none, 0, 0, 0⟩ : WkP).T b x → w.heap.size ≤ x := fun x hx => by
    rcases hx with rfl | hx
    · exact hb
    · cases hx
  exact ⟨b, rfl, ⟨_, v', g', _, hw, by rw [hp]; exact hg, rfl, Nat.le_refl _, hTb, hSb, fun x hx => ⟨fun h => h.elim (fun h => (hF x hx).1 h.1) (fun h => by have := (hF x hx).2; omega), fun h => by have := hTb x h; have := (hF x hx).2; omega, Nat.lt_of_lt_of_le (hF x hx).2 hbl.size⟩, h0⟩, hbl⟩
theorem tt_Begin {S : Nat → Prop} {v : StV} {g : GSt} (hs : StR w S v g) (hg : IsT r wk t st g.pure) (hS : ∀ x, S x → N0 ≤ x) (h0 : N0 ≤ w.heap.size) (part pos now : Int) :
    Calls Tryz.prog 10 #[.agg v.vals, .int .i64 part, .int .u64 pos, .int .i64 now] w fun e w' => ∃ b, e = .returned (.pointer (some ⟨b, 0, none⟩)) ∧ WkT (fun x => x < N0) N0 w.heap.size b w' r wk t st now 0 ∧ Below w.heap.size w w' :=
  tt_BeginF hs hg hS h0 (fun x hx => ⟨fun h => by have := hS x h; omega, by omega⟩) part pos now
theorem tt_State (h : WkT F N0 N b w r wk t st now k) :
    Calls Tryz.prog 11 #[.pointer (some ⟨b, 0, none⟩)] w fun e w' => ∃ v' g', e = .returned (.agg v'.vals) ∧ StR w' (fun x => N0 ≤ x ∧ x < w'.heap.size ∧ ¬ F x) v' g' ∧ IsT r wk t st g'.pure ∧ Below w.heap.size w w' := by
  have h0 := h.lt
  obtain ⟨S, v, g, p, h1, h2, h3, h4, h5, h6, h7, h8⟩ := h
  refine (wk_State h1 h2.fits h2.ints).mono ?_
  rintro e w' ⟨v', g', rfl, hs, hp, hb⟩
  refine ⟨v', g', rfl, hs.mut (T := fun _ => False) (Mut.refl _ _) (fun _ _ _ h => h) (fun x hx hS => ?_), by rw [hp]; exact h2, hb⟩
  rcases hS with hS | hS
  · exact ⟨h6 x hS, hx, fun hF => (h7 x hF).1 hS⟩
  · exact ⟨Nat.le_trans h0.2.2 hS, hx, fun hF => by have := (h7 x hF).2.2; omega⟩
theorem WkT.next {w' : World} {S : Nat → Prop} {v v' : StV} {g g' : GSt} {p p' : WkP} {S' : Nat → Prop} {r' : Int} {wk' : ByteArray} {t' : Int} {st' : ByteArray} {k' : Nat} (h1 : WkB S b w v g p) (h3 : p.now = now) (h5 : ∀ x, p.T b x → N ≤ x) (h6 : ∀ x, S x → N0 ≤ x) (h7 : ∀ x, F x → ¬ S x ∧ ¬ p.T b x ∧ x < w.heap.size) (h8 : N0 ≤ N)
    (k1 : WkB S' b w' v' g' p') (k2 : IsT r' wk' t' st' g'.pure) (k3 : p'.now = p.now) (k4 : p'.m ≤ k') (k5 : ∀ x, S' x → S x ∨ w.heap.size ≤ x) (k6 : ∀ x, p'.T b x → p.T b x ∨ w.heap.size ≤ x) (hM : Mut (p.T b) w w') :
    WkT F N0 N b w' r' wk' t' st' now k' ∧ Mut (fun x => N ≤ x ∧ ¬ F x) w w' := by
  have hb := lt_of_blk h1.box
  have hN := h5 b (.inl rfl)
  exact ⟨⟨S', v', g', p', k1, k2, k3.trans h3, k4, fun x hx => (k6 x hx).elim (h5 x) (fun h => by omega), fun x hx => (k5 x hx).elim (h6 x) (fun h => by omega), fun x hx => ⟨fun h => (k5 x h).elim (h7 x hx).1 (fun h => by have := (h7 x hx).2.2; omega), fun h => (k6 x h).elim (h7 x hx).2.1 (fun h => by have := (h7 x hx).2.2; omega), Nat.lt_of_lt_of_le (h7 x hx).2.2 hM.size⟩, h8⟩, hM.mono (fun x _ hx => ⟨h5 x hx, fun hF => (h7 x hF).2.1 hx⟩)⟩
theorem tt_Act1 (h : WkT F N0 N b w r nilS t st now k) (hr : 0 < r) (hk : k ≤ 900) (most wait : Int) (hm : 1 ≤ most ∧ most ≤ 32) (hwt : 1 ≤ wait ∧ wait ≤ 1048576) (till : Int) (ht : wrap64 (now + wait) = till) :
    Calls Tryz.prog 12 #[.pointer (some ⟨b, 0, none⟩), .string payS, .string wS, .int .i64 most, .int .i64 wait] w fun e w' => ∃ A c, e = .returned (.tuple #[.slice A 1 c, .int .i64 0]) ∧ w'.ownsRow w.heap.size 45 6 (.slice A 1 c) 1 (encJob (jT r wS till)) ∧
      WkT (fun x => F x ∨ (Value.slice A 1 c).ownBlock = some x) N0 N b w' r wS till st now (k + 32) ∧ Mut (fun x => N ≤ x ∧ ¬ F x) w w' := by
  obtain ⟨S, v, g, p, h1, h2, h3, h4, h5, h6, h7, h8⟩ := h
  have hok : actOk payS wS most wait = true := by
    have n1 : named payS = true := by decide
    have n2 : named wS = true := by decide
    simp [actOk, n1, n2, hm.1, hm.2, hwt.1, hwt.2]
  refine (act_ok h1 h2.fits h2.ints (by omega) payS wS most wait hok (by decide) (by decide) till (by rw [h3]; exact ht)).mono ?_
  rintro e w' ⟨A, c, rfl, ho, S', v', g', p', k1, k2, k3, k4, k5, k6, k7, k8, k9, hM⟩
  rw [h2.jobs, rdy_one hr hm.1] at ho k2 k9
  have kk : IsT r wS till st g'.pure := by
    rw [k2, if_neg (by simp)]
    exact isT_tk p h2 wS till
  have hnx := WkT.next (F := F) (N0 := N0) (N := N) h1 h3 h5 h6 h7 h8 k1 kk k6 (Nat.le_trans k3 (Nat.add_le_add_right h4 32)) k7 k8 hM
  have e1 : ((rdy payS g.jobs 0).take most.toNat).length = 1 := by rw [h2.jobs, rdy_one hr hm.1]; rfl
  rw [h2.jobs, rdy_one hr hm.1]
  refine ⟨A, c, rfl, ?_, ?_, hnx.2⟩
  · simpa [outJ, jT] using ho
  · obtain ⟨S2, v2, g2, p2, q1, q2, q3, q4, q5, q6, q7, q8⟩ := hnx.1
    exact ⟨S', v', g', p', k1, kk, k6.trans h3, Nat.le_trans k3 (Nat.add_le_add_right h4 32), fun x hx => (k8 x hx).elim (h5 x) (fun h => by have := lt_of_blk h1.box; have := h5 b (.inl rfl); omega), fun x hx => (k7 x hx).elim (h6 x) (fun h => by have := lt_of_blk h1.box; have := h5 b (.inl rfl); omega), fun x hx => by
      rcases hx with hx | hx
      · exact ⟨fun h => (k7 x h).elim (h7 x hx).1 (fun h => by have := (h7 x hx).2.2; omega), fun h => (k8 x h).elim (h7 x hx).2.1 (fun h => by have := (h7 x hx).2.2; omega), Nat.lt_of_lt_of_le (h7 x hx).2.2 hM.size⟩
      · exact ⟨(k9 x hx).1, (k9 x hx).2, (ho.lt x hx).2⟩, h8⟩
theorem tt_Act0 (h : WkT F N0 N b w r wk t st now k) (hr : ∀ n, (rdy payS [jT r wk t] 0).take n = []) (hk : k ≤ 900) (most wait : Int) (hm : 1 ≤ most ∧ most ≤ 32) (hwt : 1 ≤ wait ∧ wait ≤ 1048576) (till : Int) (ht : wrap64 (now + wait) = till) :
    Calls Tryz.prog 12 #[.pointer (some ⟨b, 0, none⟩), .string payS, .string wS, .int .i64 most, .int .i64 wait] w fun e w' => ∃ A c, e = .returned (.tuple #[.slice A 0 c, .int .i64 0]) ∧ WkT F N0 N b w' r wk t st now (k + 32) ∧ Mut (fun x => N ≤ x ∧ ¬ F x) w w' := by
  obtain ⟨S, v, g, p, h1, h2, h3, h4, h5, h6, h7, h8⟩ := h
  have hok : actOk payS wS most wait = true := by
    have n1 : named payS = true := by decide
    have n2 : named wS = true := by decide
    simp [actOk, n1, n2, hm.1, hm.2, hwt.1, hwt.2]
  refine (act_ok h1 h2.fits h2.ints (by omega) payS wS most wait hok (by decide) (by decide) till (by rw [h3]; exact ht)).mono ?_
  rintro e w' ⟨A, c, rfl, ho, S', v', g', p', k1, k2, k3, k4, k5, k6, k7, k8, k9, hM⟩
  rw [h2.jobs, hr] at k2
  have kk : IsT r wk t st g'.pure := by
    rw [k2, if_pos rfl]
    exact isT_dn p h2
  have hnx := WkT.next (F := F) (N0 := N0) (N := N) h1 h3 h5 h6 h7 h8 k1 kk k6 (Nat.le_trans k3 (Nat.add_le_add_right h4 32)) k7 k8 hM
  rw [h2.jobs, hr]
  exact ⟨A, c, rfl, hnx.1, hnx.2⟩
theorem tt_W {e : Ending} {w' : World} {S : Nat → Prop} {v : StV} {g : GSt} {p : WkP} {q : GSt × Int} {kk : Nat} {r' : Int} {wk' : ByteArray} {t' : Int} {st' : ByteArray} (h1 : WkB S b w v g p) (h3 : p.now = now) (h4 : p.m ≤ k) (h5 : ∀ x, p.T b x → N ≤ x) (h6 : ∀ x, S x → N0 ≤ x) (h7 : ∀ x, F x → ¬ S x ∧ ¬ p.T b x ∧ x < w.heap.size) (h8 : N0 ≤ N) (h : WTo S b w p q kk e w') (hq : IsT r' wk' t' st' q.1) :
    e = .returned (.int .i64 q.2) ∧ WkT F N0 N b w' r' wk' t' st' now (k + kk) ∧ Mut (fun x => N ≤ x ∧ ¬ F x) w w' := by
  obtain ⟨S', v', g', p', rfl, k1, k2, k3, k4, k5, k6, k7, k8, hM⟩ := h
  exact ⟨rfl, WkT.next (F := F) (N0 := N0) (N := N) h1 h3 h5 h6 h7 h8 k1 (by rw [k2]; exact hq) k6 (Nat.le_trans k3 (Nat.add_le_add_right h4 kk)) k7 k8 hM⟩
theorem tt_Late0 (h : WkT F N0 N b w r wS t st now k) (hk : k ≤ 900) (ht : now < t) :
    Calls Tryz.prog 17 #[.pointer (some ⟨b, 0, none⟩), .int .u64 2] w fun e w' => e = .returned (.int .i64 12) ∧ WkT F N0 N b w' r wS t st now (k + 1) ∧ Mut (fun x => N ≤ x ∧ ¬ F x) w w' := by
  obtain ⟨S, v, g, p, h1, h2, h3, h4, h5, h6, h7, h8⟩ := h
  have hq : lateP p 2 g.pure = (g.pure, 12) := by
    unfold lateP
    rw [show g.pure.jobs = [jT r wS t] from h2.jobs, taken_w, if_neg (by simp), if_pos (by rw [h3]; exact ht)]
  refine (bk_Late h1 h2.fits h2.ints (by omega) 2).mono ?_
  rintro e w' hw
  have := tt_W (F := F) (N0 := N0) (N := N) (k := k) h1 h3 h4 h5 h6 h7 h8 hw (r' := r) (wk' := wS) (t' := t) (st' := st) (by rw [hq]; exact h2)
  rw [hq] at this
  exact this
theorem tt_Late1 (h : WkT F N0 N b w r wS t st now k) (hk : k ≤ 900) (ht : ¬ now < t) :
    Calls Tryz.prog 17 #[.pointer (some ⟨b, 0, none⟩), .int .u64 2] w fun e w' => e = .returned (.int .i64 0) ∧ WkT F N0 N b w' r nilS 0 st now (k + 1) ∧ Mut (fun x => N ≤ x ∧ ¬ F x) w w' := by
  obtain ⟨S, v, g, p, h1, h2, h3, h4, h5, h6, h7, h8⟩ := h
  have hq : lateP p 2 g.pure = (stepP p (bkR 2 r) g.pure, 0) := by
    unfold lateP
    rw [show g.pure.jobs = [jT r wS t] from h2.jobs, taken_w, if_neg (by simp), if_neg (by rw [h3]; exact ht)]
    rfl
  refine (bk_Late h1 h2.fits h2.ints (by omega) 2).mono ?_
  rintro e w' hw
  have := tt_W (F := F) (N0 := N0) (N := N) (k := k) h1 h3 h4 h5 h6 h7 h8 hw (r' := r) (wk' := nilS) (t' := 0) (st' := st) (by rw [hq]; exact isT_bk p h2 r)
  rw [hq] at this
  exact this
theorem tt_Fail (h : WkT F N0 N b w r wS t st now k) (hk : k ≤ 900) (n : Int) (hn : 0 ≤ n ∧ n ≤ 9) :
    Calls Tryz.prog 16 #[.pointer (some ⟨b, 0, none⟩), .int .u64 2, .int .i64 n] w fun e w' => e = .returned (.int .i64 0) ∧ WkT F N0 N b w' n nilS 0 (if n = 0 then jobS else st) now (k + 2) ∧ Mut (fun x => N ≤ x ∧ ¬ F x) w w' := by
  obtain ⟨S, v, g, p, h1, h2, h3, h4, h5, h6, h7, h8⟩ := h
  refine (bk_Fail h1 h2.fits h2.ints (by omega) 2 n).mono ?_
  rintro e w' hw
  by_cases h0 : n = 0
  · subst h0
    have hq : failP p 2 0 g.pure = (stepP p (stR 1 jobS) (stepP p (bkR 2 0) g.pure), 0) := by
      unfold failP
      rw [if_neg (by omega), show g.pure.jobs = [jT r wS t] from h2.jobs, taken_w, if_neg (by simp), if_pos rfl]
      rfl
    have := tt_W (F := F) (N0 := N0) (N := N) (k := k) h1 h3 h4 h5 h6 h7 h8 hw (r' := 0) (wk' := nilS) (t' := 0) (st' := jobS) (by rw [hq]; exact isT_st p (isT_bk p h2 0) jobS)
    rw [hq] at this
    rw [if_pos rfl]
    exact this
  · have hq : failP p 2 n g.pure = (stepP p (bkR 2 n) g.pure, 0) := by
      unfold failP
      rw [if_neg (by omega), show g.pure.jobs = [jT r wS t] from h2.jobs, taken_w, if_neg (by simp), if_neg h0]
    have := tt_W (F := F) (N0 := N0) (N := N) (k := k) h1 h3 h4 h5 h6 h7 h8 hw (r' := n) (wk' := nilS) (t' := 0) (st' := st) (by rw [hq]; exact isT_bk p h2 n)
    rw [hq] at this
    rw [if_neg h0]
    exact this
end
end Go.Proofs.YtfjdllpacdobdaaGreat
/-
  The document's example of chapter 16: shown returns true.
-/
set_option linter.unusedVariables false
set_option linter.unusedSimpArgs false
namespace Go.Proofs.YtfjdllpacdobdaaGreat
open Go Go.RowKit Go.Proofs.Base
theorem row_of_blk {W : World} {S : Nat → Prop} {b n sz : Nat} {cs : Array Value} {t : TypeId} {f : Nat × Nat} (hb : W.heap[b]? = some (.cells cs t f)) (hn : n ≤ maxLen) (hl : cs.size = n * sz) (hS : S b) : Row W S sz n (.slice (some ⟨b, 0, none⟩) n n) cs.toList :=
  ⟨_, _, rfl, Nat.le_refl _, hn, by simpa using hl, (fun h => by cases h), fun _ => ⟨b, 0, rfl, hS, lt_of_blk hb, fun j u hu => by rw [Nat.zero_add, cell_of_blk hb]; simpa using hu⟩⟩
def vT (b : Nat) : StV := ⟨0, 0, 0, none, 0, 0, none, 0, 0, some ⟨b, 0, none⟩, 1, 1, some ⟨b + 1, 0, none⟩, 1, 1, none, 0, 0, none, 0, 0, none, 0, 0, none, 0, 0, none, 0, 0⟩
def tokO : Obj := .cells #[.int .u64 1, .int .u64 0, .int .u64 0, .int .i64 0, .int .i64 0, .string ⟨#[]⟩] 58 (0, 0)
def jobR (r : Int) : Obj := .cells #[.int .u64 2, .int .u64 1, .string ⟨#[112, 97, 121]⟩, .int .i64 r, .string ⟨#[]⟩, .int .i64 0] 45 (0, 0)
theorem st_lit {W : World} {b : Nat} {r : Int} {S : Nat → Prop} (h1 : W.heap[b]? = some tokO) (h2 : W.heap[b + 1]? = some (jobR r)) (hS : S b ∧ S (b + 1)) : StR W S (vT b) (GT 0 0 r nilS 0 nilS) :=
  ⟨rfl, rfl, rfl, ⟨rfl, Row.nil _ _ _⟩, ⟨rfl, Row.nil _ _ _⟩, ⟨rfl, row_of_blk h1 (show 1 ≤ maxLen by decide) rfl hS.1⟩, ⟨rfl, row_of_blk h2 (show 1 ≤ maxLen by decide) rfl hS.2⟩, ⟨rfl, Row.nil _ _ _⟩, ⟨rfl, Row.nil _ _ _⟩, ⟨rfl, Row.nil _ _ _⟩, ⟨rfl, Row.nil _ _ _⟩, ⟨rfl, Row.nil _ _ _⟩, fun x h => absurd h List.not_mem_nil, fun x h => absurd h List.not_mem_nil, fun x h => absurd h List.not_mem_nil, fun x h => absurd h List.not_mem_nil⟩
theorem isT_lit (r : Int) : IsT r nilS 0 nilS (GT 0 0 r nilS 0 nilS).pure := ⟨0, 0, rfl⟩
theorem own_at {W : World} {base e K L n c : Nat} {xs : List Value} (h : W.ownsRow base e K (.slice (some ⟨L, 0, none⟩) n c) n xs) {j : Nat} {u : Value} (hu : xs[j]? = some u) : W.cell? ⟨L, j, none⟩ = some u := by
  have := h.cells (g := L) rfl j u hu
  rwa [add_plain, Nat.zero_add] at this
set_option maxRecDepth 100000 in
set_option maxHeartbeats 8000000 in
theorem sh16 (w : World) : Calls Tryz.prog 9 #[] w fun e w' => e = .returned (.bool true) ∧ Below w.heap.size w w' := by
  have HB0 : Hid (Below w.heap.size w (((w.alloc tokO).alloc (jobR 3)).alloc (.cells (vT w.heap.size).vals 33 (0, 0)))) := Lib.hid (below_alloc (below_alloc (below_alloc (Below.refl _ _) _) _) _)
  have HS0 : Hid (StR (((w.alloc tokO).alloc (jobR 3)).alloc (.cells (vT w.heap.size).vals 33 (0, 0))) (fun x => w.heap.size ≤ x) (vT w.heap.size) (GT 0 0 3 nilS 0 nilS)) := Lib.hid (st_lit (blk_alloc (blk_alloc (blk_new _) _) _) (blk_alloc (blk_new_of _ (by simp)) _) ⟨Nat.le_refl _, Nat.le_succ _⟩)
  go_enter Tryz.func9, Tryz.ntmps9
  go_wp2_with fail
  refine (tt_Begin HS0.out (isT_lit 3) (fun _ h => h) HB0.out.size 0 1 100).mono ?_
  rintro e w1 ⟨b1, rfl, hw, hb⟩
  have HW := Lib.hid hw
  have HB1 := Lib.hid (below2 HB0.out hb)
  have HLO : Hid (w.heap.size ≤ (((w.alloc tokO).alloc (jobR 3)).alloc (.cells (vT w.heap.size).vals 33 (0, 0))).heap.size) := Lib.hid HB0.out.size
  clear hw hb
  generalize hNb : (((w.alloc tokO).alloc (jobR 3)).alloc (.cells (vT w.heap.size).vals 33 (0, 0))).heap.size = nb at *
  clear hNb
  go_wp2_with fail
  refine (tt_Act1 HW.out (by decide) (by decide) 5 10 (by decide) (by decide) 110 (by decide +kernel)).mono ?_
  rintro e w2 ⟨A, c, rfl, ho, hw, hM⟩
  obtain ⟨L, cap, cur, hv, hLb, -⟩ := own_some ho (by decide)
  injection hv with hv1 _ hv3
  subst hv1 hv3
  have HO := Lib.hid ho
  have HW2 : Hid (WkT (fun x => x = L) w.heap.size nb b1 w2 3 wS 110 nilS 100 32) := Lib.hid (WkT.more hw (fun x hx => .inr (by rw [hx]; rfl)))
  have HB2 := Lib.hid (below_of_mut HB1.out HB1.out.size hM (fun x hx => Nat.le_trans HLO.out hx.1))
  have HLL : Hid (L < w2.heap.size) := Lib.hid (ho.lt L rfl).2
  clear ho hw hM HW HB1
  go_wp2_with fail
  refine (tt_Act0 HW2.out (fun n => rdy_no n) (by decide) 5 10 (by decide) (by decide) 110 (by decide +kernel)).mono ?_
  rintro e w3 ⟨A3, c3, rfl, hw, hM⟩
  have HW3 := Lib.hid hw
  have HO3 := Lib.hid (own_mut HO.out hM (fun x hx h => h.2 (by injection hx with hx; exact hx.symm)))
  have HB3 := Lib.hid (below_of_mut HB2.out HB2.out.size hM (fun x hx => Nat.le_trans HLO.out hx.1))
  have HL3 : Hid (L < w3.heap.size) := Lib.hid (Nat.lt_of_lt_of_le HLL.out hM.size)
  clear hw hM HW2 HB2 HO HLL
  go_wp2_with fail
  refine (tt_State HW3.out).mono ?_
  rintro e w4 ⟨v4, g4, rfl, hs, hg, hb⟩
  have HW4 := Lib.hid (HW3.out.below hb)
  have HO4 := Lib.hid (own_carry HO3.out hb)
  have HB4 := Lib.hid (below2 HB3.out hb)
  have HL4 : Hid (L < w4.heap.size) := Lib.hid (Nat.lt_of_lt_of_le HL3.out hb.size)
  have HS4 := Lib.hid hs
  have HG4 := Lib.hid hg
  clear hs hg hb HW3 HO3 HB3 HL3
  go_wp2_with fail
  refine (tt_Begin HS4.out HG4.out (fun x hx => hx.1) HB4.out.size 0 2 109).mono ?_
  rintro e w5 ⟨b5, rfl, hw, hb⟩
  have HV5 := Lib.hid hw
  have HW5 := Lib.hid (HW4.out.below hb)
  have HO5 := Lib.hid (own_carry HO4.out hb)
  have HB5 := Lib.hid (below2 HB4.out hb)
  have HBB5 := Lib.hid hb
  clear hw hb HS4 HG4
  go_wp2_with fail
  refine (tt_Late0 HV5.out (by decide) (by decide)).mono ?_
  rintro e w6 ⟨rfl, -, hM⟩
  have HBB6 : Hid (Below w4.heap.size w4 w6) := Lib.hid (below_of_mut HBB5.out HBB5.out.size hM (fun x hx => hx.1))
  have HW6 := Lib.hid (HW4.out.below HBB6.out)
  have HO6 := Lib.hid (own_carry HO4.out HBB6.out)
  have HB6 := Lib.hid (below2 HB4.out HBB6.out)
  clear hM HW5 HO5 HB5 HBB5 HV5 HW4 HO4 HB4 HBB6 HL4
  go_wp2_with fail
  refine (tt_State HW6.out).mono ?_
  rintro e w7 ⟨v7, g7, rfl, hs, hg, hb⟩
  have HO7 := Lib.hid (own_carry HO6.out hb)
  have HB7 := Lib.hid (below2 HB6.out hb)
  have HS7 := Lib.hid hs
  have HG7 := Lib.hid hg
  clear hs hg hb HW6 HO6 HB6
  go_wp2_with fail
  refine (tt_Begin HS7.out HG7.out (fun x hx => hx.1) HB7.out.size 0 2 110).mono ?_
  rintro e w8 ⟨b8, rfl, hw, hb⟩
  have HV8 := Lib.hid hw
  have HBB8 := Lib.hid hb
  clear hw hb HS7 HG7
  go_wp2_with fail
  refine (tt_Late1 HV8.out (by decide) (by decide)).mono ?_
  rintro e w9 ⟨rfl, -, hM⟩
  have HBB9 : Hid (Below w7.heap.size w7 w9) := Lib.hid (below_of_mut HBB8.out HBB8.out.size hM (fun x hx => hx.1))
  have HO9 := Lib.hid (own_carry HO7.out HBB9.out)
  have HB9 := Lib.hid (below2 HB7.out HBB9.out)
  have l4 : w9.cell? ⟨L, 4, none⟩ = some (.string wS) := own_at HO9.out rfl
  have l5 : w9.cell? ⟨L, 5, none⟩ = some (.int .i64 110) := own_at HO9.out rfl
  have hws : wS.toList = [119] := by simp [wS, toList_toL, toL]
  clear hM HV8 HBB8 HBB9 HO7 HB7
  go_wp2
  go_ret
  exact ⟨rfl, HB9.out⟩
end Go.Proofs.YtfjdllpacdobdaaGreat
/-
  Words for sorted maps: parts of a slice that reads as cells, appends onto a row of the call's own that has room. Nothing of a program.
-/
set_option linter.unusedVariables false
set_option linter.unusedSimpArgs false
namespace Go.Proofs.Base
open Go Go.RowKit
theorem Row.take {w : World} {S : Nat → Prop} {sz n c : Nat} {A : Option Addr} {cs : List Value} (h : Row w S sz n (.slice A n c) cs) (i : Nat) (hi : i ≤ n) : Row w S sz i (.slice A i c) (cs.take (i * sz)) := by
  obtain ⟨A', c', hv, h1, h2, h3, h4, h5⟩ := h
  injection hv with e1 e2 e3
  subst e1 e3
  have hm : i * sz ≤ n * sz := Nat.mul_le_mul_right _ hi
  refine ⟨A, c, rfl, by omega, h2, by rw [List.length_take, h3]; omega, fun ha => ⟨by have := (h4 ha).1; omega, (h4 ha).2⟩, fun hp => ?_⟩
  obtain ⟨b, o, hA, hS, hlt, hc⟩ := h5 (by omega)
  refine ⟨b, o, hA, hS, hlt, fun j u hu => hc j u ?_⟩
  rw [List.getElem?_take] at hu
  split at hu
  · exact hu
  · cases hu
theorem Row.drop {w : World} {S : Nat → Prop} {sz n c : Nat} {A : Option Addr} {cs : List Value} (h : Row w S sz n (.slice A n c) cs) (i : Nat) (hi : i ≤ n) :
    Row w S sz (n - i) (.slice (if c = i then A else A.map (·.add (i * sz))) (n - i) (c - i)) (cs.drop (i * sz)) := by
  obtain ⟨A', c', hv, h1, h2, h3, h4, h5⟩ := h
  injection hv with e1 e2 e3
  subst e1 e3
  refine ⟨_, _, rfl, by omega, by omega, by rw [List.length_drop, h3, Nat.sub_mul], fun ha => ?_, fun hp => ?_⟩
  · have : A = none := by
      split at ha
      · exact ha
      · simpa using ha
    have := h4 this
    omega
  · obtain ⟨b, o, hA, hS, hlt, hc⟩ := h5 (by omega)
    subst hA
    rw [if_neg (by omega)]
    refine ⟨b, o + i * sz, by rw [Option.map_some, add_plain], hS, hlt, fun j u hu => ?_⟩
    rw [Nat.add_assoc]
    exact hc _ u (by rw [← hu, List.getElem?_drop])
theorem Row.plain {w : World} {S : Nat → Prop} {sz n : Nat} {v : Value} {cs : List Value} (h : Row w S sz n v cs) : ∃ A c, v = .slice A n c ∧ n ≤ c ∧ c ≤ 9223372036854775807 := h.open_
theorem Row.new (w : World) (sz n : Nat) (cs : List Value) (e : TypeId) (hl : cs.length = n * sz) (hn : n ≤ maxLen) : Row (w.alloc (.cells cs.toArray e)) (fun b => b = w.heap.size) sz n (.slice (some ⟨w.heap.size, 0, none⟩) n n) cs :=
  ⟨_, n, rfl, Nat.le_refl _, hn, hl, (fun h => by cases h), fun _ => ⟨_, 0, rfl, rfl, by simp, fun j u hu => by rw [Nat.zero_add, cell_of_blk (heap_alloc_new w _)]; simpa using hu⟩⟩
section
variable {P : Program}
end
end Go.Proofs.Base
namespace Go.Proofs.Base
open Go Go.RowKit
theorem run_from {P : Program} {t e : TypeId} {sz bytes : Nat} (E : ElemT P t e sz bytes) (A A2 : Option Addr) (n c i : Nat) (x : Int) (hx : x = (i : Nat)) (hi : i ≤ n) (h2 : (if c = i then A else A.map (·.add (i * sz))) = A2) (w : World) :
    (Instr.slice t (.slice A n c) (some (.int .i64 x)) none none).run P w = .ok (.slice A2 (n - i) (c - i)) w := by
  subst hx
  obtain ⟨j, z, hj, hz0, hz1, hz2, hzc⟩ := E.hi
  have he : P.underlying t = some (.slice (P.elem t)) := by simp [Program.elem, E.ht]
  have h1 := run_slice_l (P := P) (w := w) t A n c he .i64 (i : Int) (by omega) (by omega)
  rw [h1]
  have e2 : P.elem t = e := by simp [Program.elem, E.ht]
  rw [e2]
  simp [sizeOf, typeInfo, hj, sliced, Result.andThen, hz1, ← h2]
end Go.Proofs.Base
/-
  BookTurns: the law's walk.
-/
set_option linter.unusedVariables false
set_option linter.unusedSimpArgs false
namespace Go.Proofs.YtfjdllpacdobdaaGreat
open Go Go.RowKit Go.Proofs.Base
theorem eBool : ElemT Tryz.prog 56 4 1 1 := ElemT.of (z := .bool false) Tryz.underlying56 (by kernel_rfl) rfl
def BoolsR (w : World) (A : Option Addr) (n c : Nat) (l : List Bool) : Prop := l.length = n ∧ Row w (fun _ => True) 1 n (.slice A n c) (l.map Value.bool)
theorem BoolsR.below {w w' : World} {A : Option Addr} {n c : Nat} {l : List Bool} (h : BoolsR w A n c l) (hb : Below w.heap.size w w') : BoolsR w' A n c l := ⟨h.1, h.2.below hb⟩
theorem BoolsR.tail {w : World} {A : Option Addr} {n c : Nat} {b : Bool} {l : List Bool} (h : BoolsR w A n c (b :: l)) : BoolsR w (if c = 1 then A else A.map (·.add (1 * 1))) (n - 1) (c - 1) l :=
  ⟨by rw [← h.1]; simp, by have := h.2.drop 1 (by rw [← h.1]; simp); simpa using this⟩
theorem BoolsR.head {w : World} {A : Option Addr} {n c : Nat} {b : Bool} {l : List Bool} (h : BoolsR w A n c (b :: l)) : ∃ B O, A = some ⟨B, O, none⟩ ∧ ∀ W, Below w.heap.size w W → W.cell? ⟨B, O, none⟩ = some (.bool b) := by
  have hn : 0 < n := by rw [← h.1]; simp
  obtain ⟨B, O, hA, -, -, hc⟩ := h.2.at_ hn
  exact ⟨B, O, hA, fun W hb => cell_below hb (hc 0 0 _ rfl)⟩
def TurnS (w : World) (bt : Nat) (k : Nat) (W : World) : Prop :=
  ∃ v g st, W.heap[bt]? = some (.cells (StV.vals v) 33 (0, 0)) ∧ StR W (fun x => w.heap.size ≤ x ∧ x < W.heap.size ∧ x ≠ bt) v g ∧ IsT k nilS 0 st g.pure ∧ (k = 0 → st = jobS)
set_option maxRecDepth 100000 in
set_option maxHeartbeats 8000000 in
theorem law_Turns (rt : Int) (A0 : Option Addr) (n0 c0 : Nat) (l0 : List Bool) (wait : Int) (w : World) (hl0 : BoolsR w A0 n0 c0 l0) :
    Calls Tryz.prog 6 #[.int .i64 rt, .slice A0 n0 c0, .int .i64 wait] w fun e w' => e = .returned (.bool true) ∧ Below w.heap.size w w' := by
  have HL0 := Lib.hid hl0
  have hn0 : n0 ≤ 9223372036854775807 := by obtain ⟨A', c', e, h1, h2⟩ := hl0.2.open_; injection e with _ _ e; omega
  clear hl0
  by_cases g1 : rt < 1
  · go_enter Tryz.func6, Tryz.ntmps6
    go_wp2_with fail
    refine (sh16 _).mono ?_
    rintro e w1 ⟨rfl, hb1⟩
    have HB1 := Lib.hid hb1
    clear hb1
    go_wp2
    go_ret
    exact ⟨rfl, HB1.out⟩
  by_cases g2 : 9 < rt
  · go_enter Tryz.func6, Tryz.ntmps6
    go_wp2_with fail
    refine (sh16 _).mono ?_
    rintro e w1 ⟨rfl, hb1⟩
    have HB1 := Lib.hid hb1
    clear hb1
    go_wp2
    go_ret
    exact ⟨rfl, HB1.out⟩
  by_cases g3 : wait < 1
  · go_enter Tryz.func6, Tryz.ntmps6
    go_wp2_with fail
    refine (sh16 _).mono ?_
    rintro e w1 ⟨rfl, hb1⟩
    have HB1 := Lib.hid hb1
    clear hb1
    go_wp2
    go_ret
    exact ⟨rfl, HB1.out⟩
  by_cases g4 : 1000000 < wait
  · go_enter Tryz.func6, Tryz.ntmps6
    go_wp2_with fail
    refine (sh16 _).mono ?_
    rintro e w1 ⟨rfl, hb1⟩
    have HB1 := Lib.hid hb1
    clear hb1
    go_wp2
    go_ret
    exact ⟨rfl, HB1.out⟩
  have k1 : decide (rt < 1) = false := by simp; omega
  have k2 : decide (9 < rt) = false := by simp; omega
  have k3 : decide (wait < 1) = false := by simp; omega
  have k4 : decide (1000000 < wait) = false := by simp; omega
  have HWT : Hid (1 ≤ wait ∧ wait ≤ 1048576) := Lib.hid (by omega)
  obtain ⟨k0, rfl⟩ : ∃ k0 : Nat, rt = (k0 : Int) := ⟨rt.toNat, by omega⟩
  have HK0 : Hid (1 ≤ k0 ∧ k0 ≤ 9) := Lib.hid (by omega)
  clear g1 g2 g3 g4
  go_enter Tryz.func6, Tryz.ntmps6
  go_wp2_with fail
  refine (sh16 _).mono ?_
  rintro e w1 ⟨rfl, hb1⟩
  have HB1 := Lib.hid hb1
  clear hb1
  obtain ⟨N, hN⟩ : ∃ N, N = ((w1.alloc tokO).alloc (jobR k0)).alloc (.cells (vT w1.heap.size).vals 33 (0, 0)) := ⟨_, rfl⟩
  have HBN : Hid (Below w.heap.size w N) := Lib.hid (by rw [hN]; exact below_alloc (below_alloc (below_alloc HB1.out _) _) _)
  have HTS : Hid (TurnS w (w1.heap.size + 1 + 1) k0 N) := Lib.hid (by
    rw [hN]
    refine ⟨vT w1.heap.size, GT 0 0 k0 nilS 0 nilS, nilS, blk_new_of _ (by simp), st_lit (blk_alloc (blk_alloc (blk_new _) _) _) (blk_alloc (blk_new_of _ (by simp)) _) ?_, isT_lit _, fun h => by have := HK0.out; omega⟩
    have := HB1.out.size
    simp
    omega)
  have HBT : Hid (w1.heap.size + 1 + 1 < N.heap.size ∧ w.heap.size ≤ w1.heap.size + 1 + 1) := Lib.hid (by rw [hN]; have := HB1.out.size; simp; omega)
  have HN := Lib.hid hN
  clear hN
  go_wp2_with fail
  rw [show ((w1.alloc (.cells #[.int .u64 1, .int .u64 0, .int .u64 0, .int .i64 0, .int .i64 0, .string ⟨#[]⟩] 58)).alloc (.cells #[.int .u64 2, .int .u64 1, .string ⟨#[112, 97, 121]⟩, .int .i64 (k0 : Int), .string ⟨#[]⟩, .int .i64 0] 45)).alloc (.cells #[.int .u64 0, .int .u64 0, .int .u64 0, .slice none 0 0, .slice none 0 0, .slice (some ⟨w1.heap.size, 0, none⟩) 1 1, .slice (some ⟨w1.heap.size + 1, 0, none⟩) 1 1, .slice none 0 0, .slice none 0 0, .slice none 0 0, .slice none 0 0, .slice none 0 0] 33) = N from HN.out.symm]
  clear HN
  generalize w1.heap.size + 1 + 1 = bt at *
  go_loopw [1, 9, 10] (fun lv nv kv wr => ∃ (A : Option Addr) (n c : Nat) (l : List Bool) (nw : Int) (k : Nat), k ≤ 9 ∧ lv = .slice A n c ∧ nv = .int .i64 nw ∧ kv = .int .i64 (k : Int) ∧ n ≤ 9223372036854775807 ∧ Hid (BoolsR w A n c l) ∧ Hid (TurnS w bt k wr) ∧ Hid (Below w.heap.size w wr ∧ bt < wr.heap.size)) (fun lv _ kv _ => (match lv with | .slice _ n _ => n | _ => 0) + (intOf kv).toNat)
  case atStart => exact ⟨A0, n0, c0, l0, 0, k0, HK0.out.2, rfl, rfl, rfl, hn0, HL0, HTS, Lib.hid ⟨HBN.out, HBT.out.1⟩⟩
  case round =>
    obtain ⟨A, n, c, l, nw, k, hk9, rfl, rfl, rfl, hn, HL, HT, HBW⟩ := hrel
    obtain ⟨v, g, st, hbx, hst, hg, hst0⟩ := HT.out
    have HBX := Lib.hid hbx
    have HST := Lib.hid hst
    have HG := Lib.hid hg
    have HST0 := Lib.hid hst0
    clear hbx hst hg hst0 HT
    by_cases hk : 0 < k
    · obtain ⟨till, htl⟩ : ∃ till, wrap64 (nw + wait) = till := ⟨_, rfl⟩
      clear HST0 k1 k2 k3 k4
      go_wp2_with (refine wpList_load_box _ _ rfl rfl rfl bSt HBX.out rfl ?_)
      refine (tt_BeginF (F := fun x => x = bt) HST.out HG.out (fun x hx => hx.1) HBW.out.1.size (fun x hx => ⟨fun h => h.2.2 hx, by rw [hx]; exact HBW.out.2⟩) 0 1 nw).mono ?_
      rintro e u1 ⟨b1, rfl, hw, hb⟩
      have HW1 := Lib.hid hw
      have HB1 := Lib.hid (below2 HBW.out.1 hb)
      have HX1 := Lib.hid (block_below hb HBX.out)
      have HZ1 := Lib.hid hb.size
      clear hw hb
      go_wp2_with fail
      refine (tt_Act1 HW1.out (by omega) (by decide) 9 wait (by decide) HWT.out till htl).mono ?_
      rintro e u2 ⟨A2, c2, rfl, ho, hw, hM⟩
      obtain ⟨L, cap, cur, hv, hLb, -⟩ := own_some ho (by decide)
      injection hv with hv1 _ hv3
      subst hv1 hv3
      have HW2 : Hid (WkT (fun x => x = bt) w.heap.size wr.heap.size b1 u2 (k : Int) wS till st nw 32) := Lib.hid (WkT.more hw (fun x hx => .inl hx))
      have HB2 := Lib.hid (below_of_mut HB1.out HB1.out.size hM (fun x hx => Nat.le_trans HBW.out.1.size hx.1))
      have HX2 := Lib.hid (hM.blk HX1.out (fun h => h.2 rfl))
      have HZ2 : Hid (wr.heap.size ≤ u2.heap.size) := Lib.hid (Nat.le_trans HZ1.out hM.size)
      have l3 : u2.cell? ⟨L, 3, none⟩ = some (.int .i64 (k : Int)) := own_at ho rfl
      have l5 : u2.cell? ⟨L, 5, none⟩ = some (.int .i64 till) := own_at ho rfl
      clear ho hw hM HW1 HB1 HX1 hLb
      cases l with
      | nil =>
        have hn0' : n = 0 := HL.out.1.symm
        subst hn0'
        have HL2 := HL
        go_wp2_with fail
        clear l3 l5
        refine (tt_Fail HW2.out (by decide) _ (by omega)).mono ?_
        rintro e u3 ⟨rfl, hw, hM⟩
        have HW3 := Lib.hid hw
        have HB3 := Lib.hid (below_of_mut HB2.out HB2.out.size hM (fun x hx => Nat.le_trans HBW.out.1.size hx.1))
        have HX3 := Lib.hid (hM.blk HX2.out (fun h => h.2 rfl))
        clear hw hM HW2 HB2 HX2
        go_wp2_with fail
        refine (tt_State HW3.out).mono ?_
        rintro e u6 ⟨v6, g6, rfl, hs, hg6, hb⟩
        have HS6 := Lib.hid hs
        have HG6 := Lib.hid hg6
        have HB6 := Lib.hid (below2 HB3.out hb)
        have HX6 := Lib.hid (block_below hb HX3.out)
        clear hs hg6 hb HW3 HX3
        go_wp2_with (refine wpList_store_box _ _ _ rfl rfl rfl rfl bSt HX6.out rfl rfl (vals_one _) ?_; intro V hV hM; have HV := Lib.hid hV; have HM := Lib.hid hM; clear hV hM)
        have HRN : Hid (TurnS w bt (k - 1) V) := Lib.hid ⟨v6, g6, _, HV.out, HS6.out.mut HM.out (fun x _ hs e => hs.2.2 e) (fun x _ hs => ⟨hs.1, Nat.lt_of_lt_of_le hs.2.1 HM.out.size, hs.2.2⟩), (by have h := HG6.out; rw [show ((k : Int) - 1) = ((k - 1 : Nat) : Int) by omega] at h; exact h), fun h => by rw [if_pos (by omega)]⟩
        have HBV : Hid (Below w.heap.size w V ∧ bt < V.heap.size) := Lib.hid ⟨below_of_mut HB6.out HB6.out.size HM.out (fun x hx => by rw [show x = bt from hx]; exact HBT.out.2), lt_of_blk HV.out⟩
        go_roundw
        case rel => exact ⟨A, 0, c, [], nw, k - 1, by omega, rfl, rfl, vint (by omega), by omega, HL2, HRN, HBV⟩
        case measure => simp [intOf]; omega
      | cons b0 l =>
        have HL2 := Lib.hid HL.out.tail
        obtain ⟨B, O, hA, hc⟩ := HL.out.head
        subst hA
        have hln : 0 < n := by have h := HL.out.1; simp at h; omega
        have lc := hc u2 HB2.out
        obtain ⟨A3, hA3⟩ : ∃ A3, (if c = 1 then (some ⟨B, O, none⟩ : Option Addr) else Option.map (fun a : Addr => a.add (1 * 1)) (some ⟨B, O, none⟩)) = A3 := ⟨_, rfl⟩
        rw [hA3] at HL2
        have hsl : ∀ w, (Instr.slice 56 (.slice (some ⟨B, O, none⟩) n c) (some (.int .i64 1)) none none).run Tryz.prog w = .ok (.slice A3 (n - 1) (c - 1)) w := run_from eBool _ A3 n c 1 1 rfl hln hA3
        clear hc hA3
        cases b0 with
        | true =>
          go_wp2_with fail
          clear l3 l5
          refine (tt_State HW2.out).mono ?_
          rintro e u3 ⟨v3, g3, rfl, hs, hg3, hb⟩
          have HS3 := Lib.hid hs
          have HG3 := Lib.hid hg3
          have HB3 := Lib.hid (below2 HB2.out hb)
          have HX3 := Lib.hid (block_below hb HX2.out)
          clear hs hg3 hb
          go_wp2_with fail
          refine (tt_BeginF (F := fun x => x = bt) HS3.out HG3.out (fun x hx => hx.1) HB3.out.size (fun x hx => ⟨fun h => h.2.2 hx, by rw [hx]; exact lt_of_blk HX3.out⟩) 0 2 till).mono ?_
          rintro e u4 ⟨b4, rfl, hw, hb⟩
          have HW4 := Lib.hid hw
          have HB4 := Lib.hid (below2 HB3.out hb)
          have HX4 := Lib.hid (block_below hb HX3.out)
          clear hw hb HS3 HG3
          go_wp2_with fail
          refine (tt_Late1 HW4.out (by decide) (by omega)).mono ?_
          rintro e u5 ⟨rfl, hw, hM⟩
          have HW5 := Lib.hid hw
          have HB5 := Lib.hid (below_of_mut HB4.out HB4.out.size hM (fun x hx => Nat.le_trans HB3.out.size hx.1))
          have HX5 := Lib.hid (hM.blk HX4.out (fun h => h.2 rfl))
          clear hw hM HW4 HB3 HB4 HX4 HX3
          go_wp2_with fail
          refine (tt_State HW5.out).mono ?_
          rintro e u6 ⟨v6, g6, rfl, hs, hg6, hb⟩
          have HS6 := Lib.hid hs
          have HG6 := Lib.hid hg6
          have HB6 := Lib.hid (below2 HB5.out hb)
          have HX6 := Lib.hid (block_below hb HX5.out)
          clear hs hg6 hb HW5 HX5
          go_wp2_with (refine wpList_store_box _ _ _ rfl rfl rfl rfl bSt HX6.out rfl rfl (vals_one _) ?_; intro V hV hM; have HV := Lib.hid hV; have HM := Lib.hid hM; clear hV hM)
          have HRN : Hid (TurnS w bt k V) := Lib.hid ⟨v6, g6, st, HV.out, HS6.out.mut HM.out (fun x _ hs e => hs.2.2 e) (fun x _ hs => ⟨hs.1, Nat.lt_of_lt_of_le hs.2.1 HM.out.size, hs.2.2⟩), HG6.out, fun h => absurd h (by omega)⟩
          have HBV : Hid (Below w.heap.size w V ∧ bt < V.heap.size) := Lib.hid ⟨below_of_mut HB6.out HB6.out.size HM.out (fun x hx => by rw [show x = bt from hx]; exact HBT.out.2), lt_of_blk HV.out⟩
          go_roundw
          case rel => exact ⟨_, n - 1, c - 1, l, till, k, hk9, rfl, rfl, rfl, by omega, HL2, HRN, HBV⟩
          case measure => simp [intOf]; omega
        | false =>
          go_wp2_with fail
          clear l3 l5
          refine (tt_Fail HW2.out (by decide) _ (by omega)).mono ?_
          rintro e u3 ⟨rfl, hw, hM⟩
          have HW3 := Lib.hid hw
          have HB3 := Lib.hid (below_of_mut HB2.out HB2.out.size hM (fun x hx => Nat.le_trans HBW.out.1.size hx.1))
          have HX3 := Lib.hid (hM.blk HX2.out (fun h => h.2 rfl))
          clear hw hM HW2 HB2 HX2
          go_wp2_with fail
          refine (tt_State HW3.out).mono ?_
          rintro e u6 ⟨v6, g6, rfl, hs, hg6, hb⟩
          have HS6 := Lib.hid hs
          have HG6 := Lib.hid hg6
          have HB6 := Lib.hid (below2 HB3.out hb)
          have HX6 := Lib.hid (block_below hb HX3.out)
          clear hs hg6 hb HW3 HX3
          go_wp2_with (refine wpList_store_box _ _ _ rfl rfl rfl rfl bSt HX6.out rfl rfl (vals_one _) ?_; intro V hV hM; have HV := Lib.hid hV; have HM := Lib.hid hM; clear hV hM)
          have HRN : Hid (TurnS w bt (k - 1) V) := Lib.hid ⟨v6, g6, _, HV.out, HS6.out.mut HM.out (fun x _ hs e => hs.2.2 e) (fun x _ hs => ⟨hs.1, Nat.lt_of_lt_of_le hs.2.1 HM.out.size, hs.2.2⟩), (by have h := HG6.out; rw [show ((k : Int) - 1) = ((k - 1 : Nat) : Int) by omega] at h; exact h), fun h => by rw [if_pos (by omega)]⟩
          have HBV : Hid (Below w.heap.size w V ∧ bt < V.heap.size) := Lib.hid ⟨below_of_mut HB6.out HB6.out.size HM.out (fun x hx => by rw [show x = bt from hx]; exact HBT.out.2), lt_of_blk HV.out⟩
          go_roundw
          case rel => exact ⟨_, n - 1, c - 1, l, nw, k - 1, by omega, rfl, rfl, vint (by omega), by omega, HL2, HRN, HBV⟩
          case measure => simp [intOf]; omega
    · obtain rfl : k = 0 := by omega
      obtain rfl : st = jobS := HST0.out rfl
      have htk : g.tokens = [⟨1, 0, 0, 0, 0, jobS⟩] := HG.out.tokens
      have hT := HST.out.tokens
      rw [htk] at hT
      have hn5 : v.n5 = 1 := hT.1.symm
      obtain ⟨B, O, hA5, hSB, hc⟩ := hT.elem lenTok (by omega)
      have hc5 := hc 0 (by simp) 5 _ rfl
      have HC5 : Hid (wr.cell? ⟨B, O + 5, none⟩ = some (.string jobS)) := Lib.hid (by simpa using hc5)
      have HX5 : Hid (wr.cell? ⟨bt, 5, none⟩ = some (.slice (some ⟨B, O, none⟩) 1 v.c5)) := Lib.hid (by rw [cell_of_blk HBX.out 5, ← hA5, ← hn5]; rfl)
      have HSB := Lib.hid hSB
      clear htk hT hn5 hA5 hc hc5 hSB HST0 k1 k2 k3 k4
      go_wp2_with (refine wpList_load_box _ _ rfl rfl rfl bSt HBX.out rfl ?_)
      refine (tt_BeginF (F := fun x => x = bt) HST.out HG.out (fun x hx => hx.1) HBW.out.1.size (fun x hx => ⟨fun h => h.2.2 hx, by rw [hx]; exact HBW.out.2⟩) 0 9 nw).mono ?_
      rintro e u1 ⟨b1, rfl, hw, hb⟩
      have HW1 := Lib.hid hw
      have HB1 := Lib.hid (below2 HBW.out.1 hb)
      have HBb := Lib.hid hb
      clear hw hb
      go_wp2_with fail
      refine (tt_Act0 HW1.out (fun n => rdy_0 n) (by decide) 9 wait (by decide) HWT.out _ rfl).mono ?_
      rintro e u2 ⟨A2, c2, rfl, hw, hM⟩
      have HB2 := Lib.hid (below_of_mut HB1.out HB1.out.size hM (fun x hx => Nat.le_trans HBW.out.1.size hx.1))
      have x5 : u2.cell? ⟨bt, 5, none⟩ = some (.slice (some ⟨B, O, none⟩) 1 v.c5) := hM.cell (cell_below HBb.out HX5.out) (fun h => h.2 rfl)
      have y5 : u2.cell? ⟨B, O + 5, none⟩ = some (.string jobS) := hM.cell (cell_below HBb.out HC5.out) (fun h => by have h1 : wr.heap.size ≤ B := h.1; have h2 := HSB.out.2.1; omega)
      have hjs : jobS.toList = [106, 111, 98] := by simp [jobS, toList_toL, toL]
      clear hw hM
      go_wp2
      go_ret
      exact ⟨rfl, HB2.out⟩
end Go.Proofs.YtfjdllpacdobdaaGreat
/-
  The arguments of the laws, opened: values, variables, records as data. Printed by genopen.py.
-/
set_option linter.unusedVariables false
set_option linter.unusedSimpArgs false
namespace Go.Proofs.YtfjdllpacdobdaaGreat
open Go Go.RowKit Go.Proofs.Base Go.WideShapes Go.ChangeShapes
section
variable {H : Type} {enc : TypeId × Value → H} {w : World} {base : Nat} {spare : Nat → Bool} {held : Bool}
def Light (t : TypeId) (d : DataW H) : Prop := ∀ n ∈ d.weights Tryz.prog t, n ≤ 140737488351232
theorem mem_weightsAll {e : TypeId} : ∀ {l : List (DataW H)} {d : DataW H}, d ∈ l → ∀ n ∈ d.weights Tryz.prog e, n ∈ DataW.weightsAll Tryz.prog e l
  | x :: r, d, h, n, hn => by
    simp only [DataW.weightsAll, List.mem_append]
    rcases List.mem_cons.1 h with rfl | h
    · exact .inl hn
    · exact .inr (mem_weightsAll h n hn)
theorem light_elem {t e : TypeId} {es sp : List (DataW H)} (hu : Tryz.prog.underlying t = some (.slice e)) (h : Light t (.slice es sp)) {d : DataW H} (hd : d ∈ es) : Light e d := by
  intro n hn
  refine h n ?_
  simp only [DataW.weights, hu, List.mem_cons, List.mem_append]
  exact .inr (.inl (mem_weightsAll hd n hn))
end
end Go.Proofs.YtfjdllpacdobdaaGreat
/-
  Lists among a law's arguments, opened, whatever their elements: variables, records. By hand.
-/
set_option linter.unusedVariables false
set_option linter.unusedSimpArgs false
namespace Go.Proofs.YtfjdllpacdobdaaGreat
open Go Go.RowKit Go.Proofs.Base Go.WideShapes Go.ChangeShapes
section
variable {H : Type} {enc : TypeId × Value → H} {w : World} {base : Nat} {spare : Nat → Bool} {held : Bool}
theorem read_rows {α : Type} {t e : TypeId} {K B : Nat} {ec : α → List Value} (Good : α → Prop) (hne : Nonempty α) (hu : Tryz.prog.underlying t = some (.slice e)) (hK : Tryz.prog.cellsOf e = K) (hB : Tryz.prog.bytesOf e = B) (hlen : ∀ x, (ec x).length = K) (hK0 : 0 < K)
    (rd : ∀ {n : Nat} {cs : List Value} {x : DataW H × List MemPlace}, DataW.trod enc Tryz.prog w base spare held n e cs = some x → Light e x.1 → ∃ v : α, cs = ec v ∧ Good v)
    {n : Nat} {c : Value} {x : DataW H × List MemPlace} (h : DataW.trod enc Tryz.prog w base spare held n t [c] = some x) (hl : Light t x.1) :
    ∃ l : List α, Row w (fun _ => True) K l.length c (l.flatMap ec) ∧ (∀ y ∈ l, Good y) ∧ l.length * B ≤ 140737488351232 := by
  rcases Go.Deep.open_slice hu h with ⟨hcs, _⟩ | ⟨a, len, cap, m, n', D, Pl, hcs, _, hlc, hcm, hm, rfl, hi⟩
  · obtain rfl : c = .slice none 0 0 := by simpa using hcs
    exact ⟨[], Row.nil _ _ _, (fun y hy => by cases hy), by simp⟩
  · obtain rfl : c = .slice (some a) len cap := by simpa using hcs
    have hlm : len ≤ m := by rw [hm]; split <;> omega
    have hsz : len * B ≤ 140737488351232 := by
      have := hl ((((List.range len).map D).length + ((List.range (m - len)).map fun j => D (len + j)).length) * Tryz.prog.bytesOf e) (by
        simp only [DataW.weights, hu]
        exact List.mem_cons_self)
      rw [hB] at this
      simp only [List.length_map, List.length_range] at this
      exact Nat.le_trans (Nat.mul_le_mul_right _ (Nat.le_add_right _ _)) this
    have hex : ∀ i, ∃ v : α, i < len → Good v ∧ ∀ j u, (ec v)[j]? = some u → w.cell? (a.add (i * K + j)) = some u := by
      intro i
      by_cases hil : i < len
      · obtain ⟨cs', hc, ht⟩ := hi i (by omega)
        rw [hK] at hc
        obtain ⟨v, rfl, wv⟩ := rd ht (light_elem hu hl (List.mem_map.2 ⟨i, List.mem_range.2 hil, rfl⟩))
        obtain ⟨_, hcl, hat⟩ := World.cells?_some hc
        refine ⟨v, fun _ => ⟨wv, fun j u hj => ?_⟩⟩
        have hjK : j < K := by have := (List.getElem?_eq_some_iff.1 hj).1; rwa [hlen] at this
        have := hat j hjK
        rw [← Go.Deep.add_add, this, hj]
      · exact ⟨Classical.choice hne, fun h => absurd h hil⟩
    obtain ⟨f, hf⟩ := Classical.axiomOfChoice hex
    refine ⟨(List.range len).map f, ⟨some a, cap, by simp, by simpa using hlc, hcm, ?_, fun h => (nomatch h), fun hn => ?_⟩, fun y hy => ?_, by simpa using hsz⟩
    · rw [flat_len hlen]
    · have hn' : 0 < len := by simpa using hn
      have h0 := (hf 0 hn').2 0 ((ec (f 0))[0]'(by rw [hlen]; exact hK0)) (List.getElem?_eq_getElem _)
      obtain ⟨b, o, s⟩ := a
      have hs : s = none := by simpa [Addr.add] using World.cell?_spot h0
      subst hs
      refine ⟨b, o, rfl, trivial, World.block_lt_of_cell? w _ (by simpa [Base.add_plain] using h0), fun j u hu => ?_⟩
      have hj : j < ((List.range len).map f).length * K := by rw [← flat_len hlen]; exact (List.getElem?_eq_some_iff.1 hu).1
      have hj2 : j < len * K := by simpa using hj
      have hi3 : j / K < len := Nat.div_lt_of_lt_mul (by rw [Nat.mul_comm]; exact hj2)
      have hidx : j / K < ((List.range len).map f).length := by simpa using hi3
      have hmod : j % K < K := Nat.mod_lt _ hK0
      have hjj : j = j / K * K + j % K := by rw [Nat.mul_comm]; exact (Nat.div_add_mod j K).symm
      have hfe : ((List.range len).map f)[j / K] = f (j / K) := by simp
      have hv : (ec (f (j / K)))[j % K]? = some u := by
        rw [← hfe, ← flat_at (enc := ec) hlen hidx (j % K) hmod, ← hjj]
        exact hu
      have h3 := (hf (j / K) hi3).2 (j % K) u hv
      rw [Base.add_plain, ← hjj] at h3
      exact h3
    · obtain ⟨i, hi', rfl⟩ := List.mem_map.1 hy
      exact (hf i (List.mem_range.1 hi')).1
structure ERec where
  r : GRec
  vA : Option Addr
  vN : Nat
  vC : Nat
def encRec (x : ERec) : List Value := [.int .i64 x.r.cls, .int .i64 x.r.kind, .int .u64 x.r.frm, .int .i64 x.r.time, .int .u64 x.r.key, .int .u64 x.r.key2, .int .u64 x.r.key3, .int .i64 x.r.n, .int .i64 x.r.m, .string x.r.a, .string x.r.b, .string x.r.c, .slice x.vA x.vN x.vC]
def GoodRec (w : World) (x : ERec) : Prop := x.r.wf ∧ VarsR w (fun _ => True) x.vA x.vN x.vC x.r.vars
def Recs (w : World) (v : Value) (l : List ERec) : Prop := Row w (fun _ => True) 13 l.length v (l.flatMap encRec) ∧ (∀ x ∈ l, GoodRec w x) ∧ l.length * 144 ≤ 140737488351232
theorem Recs.below {w w' : World} {v : Value} {l : List ERec} (h : Recs w v l) (hb : Below w.heap.size w w') : Recs w' v l :=
  ⟨h.1.below hb, fun x hx => ⟨(h.2.1 x hx).1, (h.2.1 x hx).2.1, (h.2.1 x hx).2.2.1, (h.2.1 x hx).2.2.2.below hb⟩, h.2.2⟩
theorem Recs.open_ {w : World} {v : Value} {l : List ERec} (h : Recs w v l) : ∃ A c, v = .slice A l.length c ∧ l.length ≤ c ∧ c ≤ 9223372036854775807 := h.1.open_
section
variable {H : Type} {enc : TypeId × Value → H} {w : World} {base : Nat} {spare : Nat → Bool} {held : Bool}
end
end
end Go.Proofs.YtfjdllpacdobdaaGreat
/-
  A State among a law's arguments, opened. Printed by gfold22.py.
-/
set_option linter.unusedVariables false
set_option linter.unusedSimpArgs false
namespace Go.Proofs.YtfjdllpacdobdaaGreat
open Go Go.RowKit Go.Proofs.Base Go.WideShapes Go.ChangeShapes
theorem cellsO_bool : Tryz.prog.cellsOf 4 = 1 := by kernel_rfl
section
variable {H : Type} {enc : TypeId × Value → H} {w : World} {base : Nat} {spare : Nat → Bool} {held : Bool}
def GoodProc (w : World) (x : EProc) : Prop := (okS x.id) ∧ (okS x.bts)
def GoodInst (w : World) (x : EInst) : Prop := (u64 x.key) ∧ (okS x.id) ∧ (VarsR w (fun _ => True) x.vA x.vN x.vC x.vars ∧ (∀ y ∈ x.vars, y.wf))
def GoodTok (w : World) (x : ETok) : Prop := (u64 x.key) ∧ (u64 x.inst) ∧ (u64 x.scope) ∧ (i64 x.node) ∧ (i64 x.flow) ∧ (okS x.stuck)
def GoodJob (w : World) (x : EJob) : Prop := (u64 x.key) ∧ (u64 x.token) ∧ (okS x.typ) ∧ (i64 x.retries) ∧ (okS x.worker) ∧ (i64 x.till)
def GoodTim (w : World) (x : ETim) : Prop := (u64 x.token) ∧ (i64 x.node) ∧ (i64 x.due)
def GoodSub (w : World) (x : ESub) : Prop := (u64 x.token) ∧ (u64 x.inst) ∧ (i64 x.node) ∧ (okS x.name) ∧ (okS x.key)
def GoodKept (w : World) (x : EKept) : Prop := (u64 x.token) ∧ (u64 x.message) ∧ (i64 x.node)
def GoodLst (w : World) (x : ELst) : Prop := (u64 x.token) ∧ (u64 x.inst) ∧ (i64 x.node) ∧ (okS x.name) ∧ (okS x.key) ∧ (u64 x.message) ∧ (VarsR w (fun _ => True) x.vA x.vN x.vC x.vars ∧ (∀ y ∈ x.vars, y.wf))
def GoodMsg (w : World) (x : EMsg) : Prop := (u64 x.key) ∧ (okS x.name) ∧ (okS x.dest) ∧ (okS x.id) ∧ (i64 x.till) ∧ (VarsR w (fun _ => True) x.vA x.vN x.vC x.vars ∧ (∀ y ∈ x.vars, y.wf)) ∧ (IntsR w (fun _ => True) x.iA x.iN x.iC x.insts ∧ x.iN * 8 ≤ 140737488351232)
structure GoodSt (w : World) (v : StV) (g : GSt) : Prop where
  st : StR w (fun _ => True) v g
  nums : u64 g.pos ∧ u64 g.done ∧ u64 g.made
  procs : (∀ x ∈ g.procs, GoodProc w x) ∧ g.procs.length * 32 ≤ 140737488351232
  insts : (∀ x ∈ g.insts, GoodInst w x) ∧ g.insts.length * 48 ≤ 140737488351232
  tokens : (∀ x ∈ g.tokens, GoodTok w x) ∧ g.tokens.length * 56 ≤ 140737488351232
  jobs : (∀ x ∈ g.jobs, GoodJob w x) ∧ g.jobs.length * 64 ≤ 140737488351232
  timers : (∀ x ∈ g.timers, GoodTim w x) ∧ g.timers.length * 24 ≤ 140737488351232
  subs : (∀ x ∈ g.subs, GoodSub w x) ∧ g.subs.length * 64 ≤ 140737488351232
  kept : (∀ x ∈ g.kept, GoodKept w x) ∧ g.kept.length * 24 ≤ 140737488351232
  listed : (∀ x ∈ g.listed, GoodLst w x) ∧ g.listed.length * 88 ≤ 140737488351232
  msgs : (∀ x ∈ g.msgs, GoodMsg w x) ∧ g.msgs.length * 112 ≤ 140737488351232
theorem GoodSt.fits {w : World} {v : StV} {g : GSt} (h : GoodSt w v g) : g.fits := by
  have h1 := h.procs.2; have h2 := h.insts.2; have h3 := h.tokens.2; have h4 := h.jobs.2; have h5 := h.timers.2; have h6 := h.subs.2; have h7 := h.kept.2; have h8 := h.listed.2; have h9 := h.msgs.2
  unfold GSt.fits; omega
theorem GoodSt.wf {w : World} {v : StV} {g : GSt} (h : GoodSt w v g) : g.wf :=
  ⟨fun x hx => (h.tokens.1 x hx).1, fun x hx => (h.jobs.1 x hx).2.1, fun x hx => (h.timers.1 x hx).1, fun x hx => (h.subs.1 x hx).1⟩
theorem GoodSt.ints {w : World} {v : StV} {g : GSt} (h : GoodSt w v g) : ∀ x ∈ g.msgs, x.insts.length * 8 ≤ 140737488351232 := fun x hx => by
  have h1 := (h.msgs.1 x hx).2.2.2.2.2.2
  rw [h1.1.1]; exact h1.2
end
end Go.Proofs.YtfjdllpacdobdaaGreat
/-
  A list of truths that comes in, read.
-/
set_option linter.unusedVariables false
set_option linter.unusedSimpArgs false
namespace Go.Proofs.YtfjdllpacdobdaaGreat
open Go Go.RowKit Go.Proofs.Base
def encBool (b : Bool) : List Value := [.bool b]
theorem flat_bool (l : List Bool) : l.flatMap encBool = l.map Value.bool := by
  induction l with
  | nil => rfl
  | cons x l ih => simp [List.flatMap_cons, ih, encBool]
section
variable {H : Type} {enc : TypeId × Value → H} {w : World} {base : Nat} {spare : Nat → Bool} {held : Bool}
theorem read_bools {n : Nat} {A : Option Addr} {m c : Nat} {x : DataW H × List MemPlace} (h : DataW.trod enc Tryz.prog w base spare held n 56 [.slice A m c] = some x) (hl : Light 56 x.1) : ∃ l : List Bool, BoolsR w A m c l := by
  obtain ⟨l, hr, -, -⟩ := read_rows (ec := encBool) (B := 1) (fun _ => True) ⟨false⟩ Tryz.underlying56 cellsO_bool (by kernel_rfl) (fun _ => rfl) (by decide) (fun {n cs x} h hl => by
    obtain ⟨b, e, _⟩ := DataW.trod_bool Tryz.underlying4 h
    exact ⟨b, by simpa [encBool] using e, trivial⟩) h hl
  obtain ⟨A', c', hv, -, -⟩ := hr.open_
  injection hv with e1 e2 e3
  subst e1 e2 e3
  exact ⟨l, rfl, by rw [← flat_bool]; exact hr⟩
end
end Go.Proofs.YtfjdllpacdobdaaGreat
