/-
  The walks of sorted.Map[int]: Get, Put.
-/
import Derived.Test.YtncgcjfpoableaaSrtMI
import Derived.Outline
set_option linter.unusedVariables false
set_option linter.unusedSimpArgs false
namespace Go.Proofs.Ytncgcjfpoableaa.srtI
open Go Go.RowKit Go.Proofs.Base

/-- block b is a map that has l; B: the blocks that are maps -/
def MapP (w : World) (B : Nat → Prop) (b : Nat) (l : List (KV Int)) : Prop :=
  B b ∧ (∀ x, B x → x < w.heap.size) ∧ ∃ A c, w.heap[b]? = some (.cells #[.slice A l.length c] 70 (0, 0)) ∧ PRow w (fun g => ¬ B g) A l.length c l ∧ Rises l
theorem PRow.mut {T S : Nat → Prop} {w w' : World} {A : Option Addr} {n c : Nat} {l : List (KV Int)} (h : PRow w S A n c l) (hm : Mut T w w') (hd : ∀ g, S g → ¬ T g) : PRow w' S A n c l := ⟨h.1, h.2.mut hm (fun g _ hS => hd g hS)⟩
theorem MapP.mut {T B : Nat → Prop} {w w' : World} {b : Nat} {l : List (KV Int)} (h : MapP w B b l) (hm : Mut T w w') (hT : ∀ g, T g → B g ∧ g ≠ b) : MapP w' B b l := by
  obtain ⟨hB, hlt, A, c, hb, hr, hs⟩ := h
  exact ⟨hB, fun x hx => Nat.lt_of_lt_of_le (hlt x hx) hm.size, A, c, hm.blk hb (fun ht => (hT b ht).2 rfl), hr.mut hm (fun g hg ht => hg (hT g ht).1), hs⟩
theorem MapP.below {B : Nat → Prop} {w w' : World} {b : Nat} {l : List (KV Int)} (h : MapP w B b l) (hb : Below w.heap.size w w') : MapP w' B b l :=
  h.mut (Mut.of_below hb (fun _ => False)) (fun _ h => h.elim)

theorem MapP.more {w w' : World} {B B' : Nat → Prop} {b : Nat} {l : List (KV Int)} (h : MapP w B b l) (hb : Below w.heap.size w w') (hB : B' b) (hlt : ∀ x, B' x → x < w'.heap.size) (hm : ∀ x, B' x → B x ∨ w.heap.size ≤ x) : MapP w' B' b l := by
  obtain ⟨_, _, A, c, h1, h2, h3⟩ := h
  refine ⟨hB, hlt, A, c, block_below hb h1, ⟨h2.1, (h2.2.weaken (S' := fun g => ¬ B g ∧ g < w.heap.size) (fun b hb h => ⟨h, hb⟩)).below hb |>.weaken (fun b _ h hx => ?_)⟩, h3⟩
  rcases hm b hx with h4 | h4
  · exact h.1 h4
  · have := h.2; omega

set_option maxHeartbeats 1000000 in
theorem get_any (S : Nat → Prop) (p : Option Addr) (A : Option Addr) (n c : Nat) (k : ByteArray) (l : List (KV Int)) (w : World) (h : Holds w p (.slice A n c)) (hn : n < 4611686018427387904) (hr : PRow w S A n c l) (hs : Rises l) :
    Calls Try.prog 26 #[.pointer p, .string k] w fun e w' => e = .returned (.tuple #[(Value.int .i64) (getK (0 : Int) k l), .bool (hasK k l)]) ∧ Below w.heap.size w w' := by
  have h2 := find_any S p A n c k l w h hn hr hs
  cases hh : hasK k l with
  | false =>
    rw [hh] at h2
    have HG : Hid (getK (0 : Int) k l = (0 : Int)) := Lib.hid (getK_no hh)
    clear hh h hr hs
    go_enter Try.func26, Try.ntmps26
    go_wp2_with (go_at_call 40; refine h2.mono ?_; rintro e w1 ⟨rfl, hb1⟩; have HB := Lib.hid hb1; clear hb1)
    go_ret2
    exact ⟨by rw [HG.out]; exact ret2 rfl rfl, HB.out⟩
  | true =>
    rw [hh] at h2
    obtain ⟨hi, hx⟩ := getK_of (d := (0 : Int)) hh
    obtain ⟨b, rfl, hb⟩ : ∃ b, p = some ⟨b, 0, none⟩ ∧ w.cell? ⟨b, 0, none⟩ = some (.slice A n c) := by
      rcases h with ⟨_, e⟩ | h
      · injection e with _ e _
        have := hr.1
        omega
      · exact h
    obtain ⟨g, o, rfl, _, _, c0, c1⟩ := hr.at_ hi
    rw [hx] at c0 c1
    have hin : idxK k l < n := by have := hr.1; omega
    have hcn := hr.le
    generalize idxK k l = i at h2 hin c0 c1
    generalize getK (0 : Int) k l = v at c1
    have HB := Lib.hid hb
    have HC1 := Lib.hid c1
    clear hh hx hr hs c0 hb c1 h
    go_enter Try.func26, Try.ntmps26
    go_wp2_with (go_at_call 40; refine h2.mono ?_; rintro e w1 ⟨rfl, hb1⟩; have d0 := cell_below hb1 HB.out; have d1 := cell_below hb1 HC1.out; have HB1 := Lib.hid hb1; clear hb1)
    go_ret2
    exact ⟨rfl, HB1.out⟩
/-- what Put leaves -/
def PutTo (B : Nat → Prop) (b : Nat) (k : ByteArray) (v : Int) (l : List (KV Int)) (w : World) (e : Ending) (w' : World) : Prop :=
  e = .returned (.tuple #[(Value.int .i64) (getK (0 : Int) k l), .bool (hasK k l)]) ∧ MapP w' B b (putK k v l) ∧ Mut (fun x => x = b) w w'
theorem put_nil (k : ByteArray) (v : Int) (w : World) :
    Calls Try.prog 24 #[.pointer none, .string k, (Value.int .i64) v] w fun e w' => e = .returned (.tuple #[.int .i64 0, .bool false]) ∧ w = w' := by
  go_enter Try.func24, Try.ntmps24
  go_wp2
  go_ret2
  exact ⟨rfl, rfl⟩

theorem put_end {B : Nat → Prop} {w wE : World} {b g n cap : Nat} {k : ByteArray} {v : Int} {l : List (KV Int)} {A : Option Addr} {c : Nat} (hb : w.heap[b]? = some (.cells #[.slice A l.length c] 70 (0, 0))) (hBb : B b) (hBl : ∀ x, B x → x < w.heap.size) (hB : Below w.heap.size w wE) (hs : Rises (putK k v l)) (hn : n = (putK k v l).length)
    (hown : wE.ownsRow w.heap.size 74 2 (.slice (some ⟨g, 0, none⟩) n cap) n (pcells (Value.int .i64) (putK k v l))) :
    MapP (wE.setCell ⟨b, 0, none⟩ (.slice (some ⟨g, 0, none⟩) n cap)) B b (putK k v l) ∧ Mut (fun x => x = b) w (wE.setCell ⟨b, 0, none⟩ (.slice (some ⟨g, 0, none⟩) n cap)) := by
  have hM : Mut (fun x => x = b) w (wE.setCell ⟨b, 0, none⟩ (.slice (some ⟨g, 0, none⟩) n cap)) := (Mut.of_below hB (fun x => x = b)).setCell (p := ⟨b, 0, none⟩) (fun _ => rfl) _
  subst hn
  refine ⟨⟨hBb, fun x hx => Nat.lt_of_lt_of_le (hBl x hx) hM.size, some ⟨g, 0, none⟩, cap, set_blk (block_below hB hb) _, ⟨rfl, ?_⟩, hs⟩, hM⟩
  have hr := Row.of_own hown
  have hlt : b < w.heap.size := lt_of_blk hb
  refine hr.keep (fun x hx hS => Below.heap_setCell wE ⟨b, 0, none⟩ _ x (fun e => ?_)) (fun x hx hS => ?_) (by simp [World.setCell])
  · have h1 : w.heap.size ≤ x := hS.1
    have h2 : x = b := e
    omega
  · have h1 : w.heap.size ≤ x := hS.1
    intro h2
    have := hBl x h2
    omega

set_option maxRecDepth 100000 in
set_option maxHeartbeats 4000000 in
theorem put_no (b : Nat) (A : Option Addr) (n c : Nat) (k : ByteArray) (v : Int) (l : List (KV Int)) (w : World) (hb : w.heap[b]? = some (.cells #[.slice A n c] 70 (0, 0))) (hn : 24 * (n + 1) ≤ 281474976710656) (B : Nat → Prop) (hBb : B b) (hBl : ∀ x, B x → x < w.heap.size) (hr : PRow w (fun g => ¬ B g) A n c l) (hs : Rises l) (hh : hasK k l = false) :
    Calls Try.prog 24 #[.pointer (some ⟨b, 0, none⟩), .string k, (Value.int .i64) v] w (PutTo B b k v l w) := by
  have h2 := find_any _ (some ⟨b, 0, none⟩) A n c k l w (.inr ⟨b, rfl, cell_of_blk hb 0⟩) (by omega) hr hs
  rw [hh] at h2
  have HG : Hid (getK (0 : Int) k l = (0 : Int)) := Lib.hid (getK_no hh)
  have HH := Lib.hid hh
  have hin : idxK k l ≤ n := by have := hr.1; have := idxK_le k l; omega
  have hcn := hr.le
  have HP : Hid (putK k v l = l.take (idxK k l) ++ [(k, v)] ++ l.drop (idxK k l)) := Lib.hid (putK_no v hh)
  have HS : Hid (Rises (putK k v l)) := Lib.hid (putK_rises v hs)
  have HR := Lib.hid hr
  have HRT := Lib.hid (hr.2.take _ hin)
  obtain ⟨A2, hA2, hrd⟩ := hr.2.drop' _ hin
  have HRD := Lib.hid hrd
  generalize idxK k l = i at *
  have HBK := Lib.hid hb
  have HBb := Lib.hid hBb
  have HBl := Lib.hid hBl
  have hq1 : ∀ w, (Instr.slice 68 (.slice A n c) none (some (.int .i64 (i : Int))) none).run Try.prog w = .ok (.slice A i c) w := run_upto eP A n c i (by omega)
  have hq2 : ∀ w, (Instr.slice 68 (.slice A n c) (some (.int .i64 (i : Int))) none none).run Try.prog w = .ok (.slice A2 (n - i) (c - i)) w := run_from eP A A2 n c i _ rfl hin hA2
  have H1 : Hid (∀ m : List (KV Int), ∀ u ∈ pcells (Value.int .i64) m, u.oneCell' = true) := Lib.hid (pcells_one oneE)
  have HL := Lib.hid hr.1
  clear hb hr hs hh hrd hA2 hBb hBl
  go_enter Try.func24, Try.ntmps24
  go_wp2_with (first
    | (go_at_call 40; refine h2.mono ?_; rintro e w1 ⟨rfl, hb1⟩; have d0 := cell_of_blk (block_below hb1 HBK.out) 0; have HB1 := Lib.hid hb1; clear hb1)
    | (at_make; refine wp_make_spare eP rfl _ _ rfl w.heap.size .i64 .i64 _ (n + 1) rfl rfl (by push_cast; rfl) (by omega) (by simp only [maxLen]; omega) HB1.out.size ?_; intro w2 hown2 hg2; have hbb2 : Below w.heap.size w w2 := HB1.out.grown hg2 HB1.out.size (fun k h => by cases h); have d2 := cell_of_blk (block_below hbb2 HBK.out) 0; have HBB2 := Lib.hid hbb2; have HO2 := Lib.hid hown2; have HGT : Hid (w.heap.size ≤ w1.heap.size) := Lib.hid HB1.out.size; clear hbb2 hg2 hown2 d0)
    | (at_builtin; refine wp_app_spare eP rfl (.tmp 28) (.tmp 34) rfl w.heap.size w1.heap.size 0 (n + 1) [] rfl HO2.out (fun g => ¬ B g) A i c _ rfl (HRT.out.below HBB2.out) (by rw [pcells_take]; exact H1.out _) (by omega) ?_; intro w3 hown3 hg3; rw [Nat.zero_add, List.nil_append] at hown3; have hbb3 : Below w.heap.size w w3 := HBB2.out.grown hg3 HBB2.out.size (fun k h => by injection h with h; rw [← h]; exact HGT.out); have HBB3 := Lib.hid hbb3; have HO3 := Lib.hid hown3; clear hbb3 hg3 hown3 d2)
    | (at_builtin; refine wp_app_spare eP rfl (.tmp 35) (.tmp 39) rfl w.heap.size w1.heap.size i (n + 1) _ rfl (HO3.out.alloc _) (fun g => g = w3.heap.size) _ 1 1 _ rfl (Row.new w3 2 1 (pcells (Value.int .i64) [(k, v)]) _ rfl (by simp [maxLen])) (H1.out _) (by omega) ?_; intro w4 hown4 hg4; have hbb4 : Below w.heap.size w w4 := (below_alloc HBB3.out _).grown hg4 (below_alloc HBB3.out _).size (fun k h => by injection h with h; rw [← h]; exact HGT.out); have d4 := cell_of_blk (block_below hbb4 HBK.out) 0; have f4 := frozen_of_blk (block_below hbb4 HBK.out) 0; have HBB4 := Lib.hid hbb4; have HO4 := Lib.hid hown4; clear hbb4 hg4 hown4)
    | (at_builtin; refine wp_app_spare eP rfl (.tmp 53) (.tmp 59) rfl w.heap.size w1.heap.size (i + 1) (n + 1) _ rfl HO4.out (fun g => ¬ B g) A2 (n - i) (c - i) _ rfl (HRD.out.below HBB4.out) (by rw [pcells_drop]; exact H1.out _) (by omega) ?_; intro w5 hown5 hg5; have hbb5 : Below w.heap.size w w5 := HBB4.out.grown hg5 HBB4.out.size (fun k h => by injection h with h; rw [← h]; exact HGT.out); have d5 := cell_of_blk (block_below hbb5 HBK.out) 0; have f5 := frozen_of_blk (block_below hbb5 HBK.out) 0; have HBB5 := Lib.hid hbb5; have HO5 := Lib.hid hown5; clear hbb5 hg5 hown5 d4 f4))
  go_ret2
  have hP := HP.out
  have hlen : (putK k v l).length = i + 1 + (n - i) := by have := HL.out; rw [hP, List.length_append, List.length_append, List.length_take, List.length_drop]; simp; omega
  have hown : w5.ownsRow w.heap.size 74 2 (.slice (some ⟨w1.heap.size, 0, none⟩) (i + 1 + (n - i)) (n + 1)) (i + 1 + (n - i)) (pcells (Value.int .i64) (putK k v l)) := by
    have := HO5.out
    rwa [pcells_take, pcells_drop, ← pcells_append, ← pcells_append, ← hP] at this
  exact ⟨by rw [HG.out, HH.out]; exact ret2 rfl rfl, put_end (by rw [HL.out]; exact HBK.out) HBb.out HBl.out HBB5.out HS.out hlen.symm hown⟩
set_option maxRecDepth 100000 in
set_option maxHeartbeats 4000000 in
theorem put_yes (b : Nat) (A : Option Addr) (n c : Nat) (k : ByteArray) (v : Int) (l : List (KV Int)) (w : World) (hb : w.heap[b]? = some (.cells #[.slice A n c] 70 (0, 0))) (hn : 24 * (n + 1) ≤ 281474976710656) (B : Nat → Prop) (hBb : B b) (hBl : ∀ x, B x → x < w.heap.size) (hr : PRow w (fun g => ¬ B g) A n c l) (hs : Rises l) (hh : hasK k l = true) :
    Calls Try.prog 24 #[.pointer (some ⟨b, 0, none⟩), .string k, (Value.int .i64) v] w (PutTo B b k v l w) := by
  have h2 := find_any _ (some ⟨b, 0, none⟩) A n c k l w (.inr ⟨b, rfl, cell_of_blk hb 0⟩) (by omega) hr hs
  rw [hh] at h2
  obtain ⟨hi, hx⟩ := getK_of (d := (0 : Int)) hh
  obtain ⟨g0, o0, rfl, _, hg0, _, c1⟩ := hr.at_ hi
  rw [hx] at c1
  have HH := Lib.hid hh
  have hin : idxK k l < n := by have := hr.1; omega
  have hcn := hr.le
  have HP : Hid (putK k v l = l.take (idxK k l) ++ [(k, v)] ++ l.drop (idxK k l + 1)) := Lib.hid (putK_yes v hh)
  have HS : Hid (Rises (putK k v l)) := Lib.hid (putK_rises v hs)
  have HR := Lib.hid hr
  have HRT := Lib.hid (hr.2.take _ (Nat.le_of_lt hin))
  obtain ⟨A2, hA2, hrd⟩ := hr.2.drop' (idxK k l + 1) hin
  have HRD := Lib.hid hrd
  generalize idxK k l = i at *
  generalize hv0 : getK (0 : Int) k l = v0 at *
  have HV := Lib.hid hv0
  have HC1 := Lib.hid c1
  have HBK := Lib.hid hb
  have HBb := Lib.hid hBb
  have HBl := Lib.hid hBl
  have hq1 : ∀ w, (Instr.slice 68 (.slice (some ⟨g0, o0, none⟩) n c) none (some (.int .i64 (i : Int))) none).run Try.prog w = .ok (.slice (some ⟨g0, o0, none⟩) i c) w := run_upto eP _ n c i (by omega)
  have hq2 : ∀ w, (Instr.slice 68 (.slice (some ⟨g0, o0, none⟩) n c) (some (.int .i64 ((i : Int) + 1))) none none).run Try.prog w = .ok (.slice A2 (n - (i + 1)) (c - (i + 1))) w := run_from eP _ A2 n c (i + 1) _ (by push_cast; rfl) hin hA2
  have H1 : Hid (∀ m : List (KV Int), ∀ u ∈ pcells (Value.int .i64) m, u.oneCell' = true) := Lib.hid (pcells_one oneE)
  have HL := Lib.hid hr.1
  clear hb hr hs hh hrd hA2 hx c1 hv0 hBb hBl
  go_enter Try.func24, Try.ntmps24
  go_wp2_with (first
    | (go_at_call 40; refine h2.mono ?_; rintro e w1 ⟨rfl, hb1⟩; have d0 := cell_of_blk (block_below hb1 HBK.out) 0; have HB1 := Lib.hid hb1; clear hb1)
    | (at_make; refine wp_make_spare eP rfl _ _ rfl w.heap.size .i64 .i64 _ (n + 1) rfl rfl (by push_cast; rfl) (by omega) (by simp only [maxLen]; omega) HB1.out.size ?_; intro w2 hown2 hg2; have hbb2 : Below w.heap.size w w2 := HB1.out.grown hg2 HB1.out.size (fun k h => by cases h); have d2 := cell_of_blk (block_below hbb2 HBK.out) 0; have HBB2 := Lib.hid hbb2; have HO2 := Lib.hid hown2; have HGT : Hid (w.heap.size ≤ w1.heap.size) := Lib.hid HB1.out.size; clear hbb2 hg2 hown2 d0)
    | (at_builtin; refine wp_app_spare eP rfl (.tmp 28) (.tmp 34) rfl w.heap.size w1.heap.size 0 (n + 1) [] rfl HO2.out (fun g => ¬ B g) (some ⟨g0, o0, none⟩) i c _ rfl (HRT.out.below HBB2.out) (by rw [pcells_take]; exact H1.out _) (by omega) ?_; intro w3 hown3 hg3; rw [Nat.zero_add, List.nil_append] at hown3; have hbb3 : Below w.heap.size w w3 := HBB2.out.grown hg3 HBB2.out.size (fun k h => by injection h with h; rw [← h]; exact HGT.out); have HBB3 := Lib.hid hbb3; have HO3 := Lib.hid hown3; clear hbb3 hg3 hown3 d2)
    | (at_builtin; refine wp_app_spare eP rfl (.tmp 35) (.tmp 39) rfl w.heap.size w1.heap.size i (n + 1) _ rfl (HO3.out.alloc _) (fun g => g = w3.heap.size) _ 1 1 _ rfl (Row.new w3 2 1 (pcells (Value.int .i64) [(k, v)]) _ rfl (by simp [maxLen])) (H1.out _) (by omega) ?_; intro w4 hown4 hg4; have hbb4 : Below w.heap.size w w4 := (below_alloc HBB3.out _).grown hg4 (below_alloc HBB3.out _).size (fun k h => by injection h with h; rw [← h]; exact HGT.out); have d4 := cell_of_blk (block_below hbb4 HBK.out) 0; have f4 := frozen_of_blk (block_below hbb4 HBK.out) 0; have e4 := cell_below hbb4 HC1.out; have HBB4 := Lib.hid hbb4; have HO4 := Lib.hid hown4; clear hbb4 hg4 hown4)
    | (at_builtin; refine wp_app_spare eP rfl (.tmp 53) (.tmp 59) rfl w.heap.size w1.heap.size (i + 1) (n + 1) _ rfl HO4.out (fun g => ¬ B g) A2 (n - (i + 1)) (c - (i + 1)) _ rfl (HRD.out.below HBB4.out) (by rw [pcells_drop]; exact H1.out _) (by omega) ?_; intro w5 hown5 hg5; have hbb5 : Below w.heap.size w w5 := HBB4.out.grown hg5 HBB4.out.size (fun k h => by injection h with h; rw [← h]; exact HGT.out); have d5 := cell_of_blk (block_below hbb5 HBK.out) 0; have f5 := frozen_of_blk (block_below hbb5 HBK.out) 0; have HBB5 := Lib.hid hbb5; have HO5 := Lib.hid hown5; clear hbb5 hg5 hown5 d4 f4 e4))
  go_ret2
  have hP := HP.out
  have hlen : (putK k v l).length = i + 1 + (n - (i + 1)) := by have := HL.out; rw [hP, List.length_append, List.length_append, List.length_take, List.length_drop]; simp; omega
  have hown : w5.ownsRow w.heap.size 74 2 (.slice (some ⟨w1.heap.size, 0, none⟩) (i + 1 + (n - (i + 1))) (n + 1)) (i + 1 + (n - (i + 1))) (pcells (Value.int .i64) (putK k v l)) := by
    have := HO5.out
    rwa [pcells_take, pcells_drop, ← pcells_append, ← pcells_append, ← hP] at this
  exact ⟨by rw [HV.out, HH.out]; exact ret2 rfl rfl, put_end (by rw [HL.out]; exact HBK.out) HBb.out HBl.out HBB5.out HS.out hlen.symm hown⟩
theorem put_any (B : Nat → Prop) (b : Nat) (k : ByteArray) (v : Int) (l : List (KV Int)) (w : World) (h : MapP w B b l) (hn : 24 * (l.length + 1) ≤ 281474976710656) :
    Calls Try.prog 24 #[.pointer (some ⟨b, 0, none⟩), .string k, (Value.int .i64) v] w (PutTo B b k v l w) := by
  obtain ⟨hBb, hBl, A, c, hb, hr, hs⟩ := h
  cases hh : hasK k l with
  | false => exact put_no b A _ c k v l w hb hn B hBb hBl hr hs hh
  | true => exact put_yes b A _ c k v l w hb hn B hBb hBl hr hs hh
end Go.Proofs.Ytncgcjfpoableaa.srtI
