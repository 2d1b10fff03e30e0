/-
  The walks of sorted.Map[int]: Del, Clone.
-/
import Derived.Test.YtncgcjfpoableaaSrtNI
import Derived.Deep.RegionLaw
import Derived.IntWalk
import Derived.Outline
set_option linter.unusedVariables false
set_option linter.unusedSimpArgs false
namespace Go.Proofs.Ytncgcjfpoableaa.srtI
open Go Go.RowKit Go.Proofs.Base

theorem del_no (S : Nat → Prop) (p : Option Addr) (A : Option Addr) (n c : Nat) (k : ByteArray) (l : List (KV Int)) (w : World) (h : Holds w p (.slice A n c)) (hn : n < 4611686018427387904) (hr : PRow w S A n c l) (hs : Rises l) (hh : hasK k l = false) :
    Calls Try.prog 25 #[.pointer p, .string k] w fun e w' => e = .returned (.tuple #[(Value.int .i64) (getK (0 : Int) k l), .bool (hasK k l)]) ∧ Below w.heap.size w w' := by
  have h2 := get_any S p A n c k l w h hn hr hs
  rw [hh] at h2 ⊢
  generalize getK (0 : Int) k l = v0 at *
  clear hh h hr hs
  go_enter Try.func25, Try.ntmps25
  go_wp2_with (go_at_call 26; refine h2.mono ?_; rintro e w1 ⟨rfl, hb1⟩; have HB := Lib.hid hb1; clear hb1)
  go_ret2
  exact ⟨ret2 rfl rfl, HB.out⟩

/-- what Del leaves -/
def DelTo (B : Nat → Prop) (b : Nat) (k : ByteArray) (l : List (KV Int)) (w : World) (e : Ending) (w' : World) : Prop :=
  e = .returned (.tuple #[(Value.int .i64) (getK (0 : Int) k l), .bool (hasK k l)]) ∧ MapP w' B b (delK k l) ∧ Mut (fun x => x = b) w w'

theorem put_end' {B : Nat → Prop} {w wE : World} {b g n cap : Nat} {l m : List (KV Int)} {A : Option Addr} {c : Nat} (hb : w.heap[b]? = some (.cells #[.slice A l.length c] 70 (0, 0))) (hBb : B b) (hBl : ∀ x, B x → x < w.heap.size) (hB : Below w.heap.size w wE) (hs : Rises m) (hn : n = m.length)
    (hown : wE.ownsRow w.heap.size 74 2 (.slice (some ⟨g, 0, none⟩) n cap) n (pcells (Value.int .i64) m)) :
    MapP (wE.setCell ⟨b, 0, none⟩ (.slice (some ⟨g, 0, none⟩) n cap)) B b m ∧ Mut (fun x => x = b) w (wE.setCell ⟨b, 0, none⟩ (.slice (some ⟨g, 0, none⟩) n cap)) := by
  have hM : Mut (fun x => x = b) w (wE.setCell ⟨b, 0, none⟩ (.slice (some ⟨g, 0, none⟩) n cap)) := (Mut.of_below hB (fun x => x = b)).setCell (p := ⟨b, 0, none⟩) (fun _ => rfl) _
  subst hn
  refine ⟨⟨hBb, fun x hx => Nat.lt_of_lt_of_le (hBl x hx) hM.size, some ⟨g, 0, none⟩, cap, set_blk (block_below hB hb) _, ⟨rfl, ?_⟩, hs⟩, hM⟩
  have hr := Row.of_own hown
  have hlt : b < w.heap.size := lt_of_blk hb
  refine hr.keep (fun x hx hS => Below.heap_setCell wE ⟨b, 0, none⟩ _ x (fun e => ?_)) (fun x hx hS => ?_) (by simp [World.setCell])
  · have h1 : w.heap.size ≤ x := hS.1
    have h2 : x = b := e
    omega
  · have h1 : w.heap.size ≤ x := hS.1
    intro h2
    have := hBl x h2
    omega

set_option maxRecDepth 100000 in
set_option maxHeartbeats 4000000 in
theorem del_yes (b : Nat) (A : Option Addr) (n c : Nat) (k : ByteArray) (l : List (KV Int)) (w : World) (hb : w.heap[b]? = some (.cells #[.slice A n c] 70 (0, 0))) (hn : 24 * n ≤ 281474976710656) (B : Nat → Prop) (hBb : B b) (hBl : ∀ x, B x → x < w.heap.size) (hr : PRow w (fun g => ¬ B g) A n c l) (hs : Rises l) (hh : hasK k l = true) :
    Calls Try.prog 25 #[.pointer (some ⟨b, 0, none⟩), .string k] w (DelTo B b k l w) := by
  have hHol : ∀ W, Below w.heap.size w W → Holds W (some ⟨b, 0, none⟩) (.slice A n c) := fun W hW => .inr ⟨b, rfl, cell_of_blk (block_below hW hb) 0⟩
  have h2 := get_any _ (some ⟨b, 0, none⟩) A n c k l w (hHol w (Below.refl _ _)) (by omega) hr hs
  have h3 := fun W (hW : Below w.heap.size w W) => find_any _ (some ⟨b, 0, none⟩) A n c k l W (hHol W hW) (by omega) (hr.below hW) hs
  rw [hh] at h2 h3
  have HH := Lib.hid hh
  obtain ⟨hi, -⟩ := getK_of (d := (0 : Int)) hh
  have hin : idxK k l < n := by have := hr.1; omega
  have hcn := hr.le
  have HP : Hid (delK k l = l.take (idxK k l) ++ l.drop (idxK k l + 1)) := Lib.hid (delK_yes hh)
  have HS : Hid (Rises (delK k l)) := Lib.hid (delK_rises hs)
  have HRT := Lib.hid (hr.2.take _ (Nat.le_of_lt hin))
  obtain ⟨A2, hA2, hrd⟩ := hr.2.drop' (idxK k l + 1) hin
  have HRD := Lib.hid hrd
  generalize idxK k l = i at *
  generalize hv0 : getK (0 : Int) k l = v0 at *
  have HV := Lib.hid hv0
  have HBK := Lib.hid hb
  have HBb := Lib.hid hBb
  have HBl := Lib.hid hBl
  have hq1 : ∀ w, (Instr.slice 68 (.slice A n c) none (some (.int .i64 (i : Int))) none).run Try.prog w = .ok (.slice A i c) w := run_upto eP A n c i (by omega)
  have hq2 : ∀ w, (Instr.slice 68 (.slice A n c) (some (.int .i64 ((i : Int) + 1))) none none).run Try.prog w = .ok (.slice A2 (n - (i + 1)) (c - (i + 1))) w := run_from eP A A2 n c (i + 1) _ (by push_cast; rfl) hin hA2
  have H1 : Hid (∀ m : List (KV Int), ∀ u ∈ pcells (Value.int .i64) m, u.oneCell' = true) := Lib.hid (pcells_one oneE)
  have HL := Lib.hid hr.1
  have H3 := Lib.hid h3
  clear hb hr hs hh hrd hA2 hv0 h3 hHol hBb hBl
  go_enter Try.func25, Try.ntmps25
  go_wp2_with (first
    | (go_at_call 26; refine h2.mono ?_; rintro e w1 ⟨rfl, hb1⟩; have HB1 := Lib.hid hb1; clear hb1)
    | (go_at_call 40; refine (H3.out _ HB1.out).mono ?_; rintro e w2 ⟨rfl, hb2⟩; have hbb2 := below2 HB1.out hb2; have d2 := cell_of_blk (block_below hbb2 HBK.out) 0; have HB2 := Lib.hid hbb2; clear hb2 hbb2)
    | (at_make; refine wp_make_spare eP rfl _ _ rfl w.heap.size .i64 .i64 _ (n - 1) rfl rfl (by omega) (by omega) (by simp only [maxLen]; omega) HB2.out.size ?_; intro w3 hown3 hg3; have hbb3 : Below w.heap.size w w3 := HB2.out.grown hg3 HB2.out.size (fun k h => by cases h); have d3 := cell_of_blk (block_below hbb3 HBK.out) 0; have f3 := frozen_of_blk (block_below hbb3 HBK.out) 0; have HB3 := Lib.hid hbb3; have HO3 := Lib.hid hown3; have HGT : Hid (w.heap.size ≤ w2.heap.size) := Lib.hid HB2.out.size; clear hbb3 hg3 hown3 d2))
  have hwr : IntKind.i64.wrap ((i : Int) + 1) = (i : Int) + 1 := IntWalk.i64_in _ (by omega)
  have hbd : Below w.heap.size w w3.drew := ⟨HB3.out.os, HB3.out.tape, HB3.out.output, HB3.out.size, HB3.out.block⟩
  have HBD := Lib.hid hbd
  have HOD : Hid (w3.drew.ownsRow w.heap.size 74 2 (.slice (some ⟨w2.heap.size, 0, none⟩) 0 (n - 1)) 0 []) := Lib.hid HO3.out
  clear hbd
  go_region_law (first
    | (refine step_app_spare eP rfl (.tmp 32) (.tmp 38) rfl w.heap.size w2.heap.size 0 (n - 1) [] rfl HOD.out (fun g => ¬ B g) A i c _ rfl (HRT.out.below HBD.out) (by rw [pcells_take]; exact H1.out _) (by omega) ?_; intro w4 hown4 hg4; rw [Nat.zero_add, List.nil_append] at hown4; have hbb4 : Below w.heap.size w w4 := HBD.out.grown hg4 HBD.out.size (fun k h => by injection h with h; rw [← h]; exact HGT.out); have d4 := cell_of_blk (block_below hbb4 HBK.out) 0; have f4 := frozen_of_blk (block_below hbb4 HBK.out) 0; have HB4 := Lib.hid hbb4; have HO4 := Lib.hid hown4; clear hbb4 hg4 hown4)
    | (refine step_app_spare eP rfl (.tmp 39) (.tmp 46) rfl w.heap.size w2.heap.size i (n - 1) _ rfl HO4.out (fun g => ¬ B g) A2 (n - (i + 1)) (c - (i + 1)) _ rfl (HRD.out.below HB4.out) (by rw [pcells_drop]; exact H1.out _) (by omega) ?_; intro w5 hown5 hg5; have hbb5 : Below w.heap.size w w5 := HB4.out.grown hg5 HB4.out.size (fun k h => by injection h with h; rw [← h]; exact HGT.out); have d5 := cell_of_blk (block_below hbb5 HBK.out) 0; have f5 := frozen_of_blk (block_below hbb5 HBK.out) 0; have HB5 := Lib.hid hbb5; have HO5 := Lib.hid hown5; clear hbb5 hg5 hown5))
  all_goals
    go_wp2_with fail
    go_ret2
    have hP := HP.out
    have hlen : (delK k l).length = i + (n - (i + 1)) := by have := HL.out; rw [hP, List.length_append, List.length_take, List.length_drop]; omega
    have hown : w5.ownsRow w.heap.size 74 2 (.slice (some ⟨w2.heap.size, 0, none⟩) (i + (n - (i + 1))) (n - 1)) (i + (n - (i + 1))) (pcells (Value.int .i64) (delK k l)) := by
      have := HO5.out
      rwa [pcells_take, pcells_drop, ← pcells_append, ← hP] at this
    obtain ⟨q1, q2⟩ := put_end' (by rw [HL.out]; exact HBK.out) HBb.out HBl.out HB5.out HS.out hlen.symm hown
    exact ⟨by rw [HV.out, HH.out]; exact ret2 rfl rfl, q1, q2⟩
theorem del_any (B : Nat → Prop) (b : Nat) (k : ByteArray) (l : List (KV Int)) (w : World) (h : MapP w B b l) (hn : 24 * (l.length + 1) ≤ 281474976710656) :
    Calls Try.prog 25 #[.pointer (some ⟨b, 0, none⟩), .string k] w (DelTo B b k l w) := by
  have h0 := h
  obtain ⟨hBb, hBl, A, c, hb, hr, hs⟩ := h
  cases hh : hasK k l with
  | false =>
    refine (del_no _ (some ⟨b, 0, none⟩) A _ c k l w (.inr ⟨b, rfl, cell_of_blk hb 0⟩) (by omega) hr hs hh).mono ?_
    rintro e w' ⟨he, hB⟩
    exact ⟨he, by rw [delK_no hh]; exact h0.below hB, Mut.of_below hB _⟩
  | true => exact del_yes b A _ c k l w hb (by omega) B hBb hBl hr hs hh

/-- Clone: a block of its own, with the same pairs. -/
theorem clone_any (p : Option Addr) (A : Option Addr) (n c : Nat) (w : World) (h : Holds w p (.slice A n c)) :
    Calls Try.prog 27 #[.pointer p] w fun e w' => e = .returned (.pointer (some ⟨w.heap.size, 0, none⟩)) ∧ w' = w.alloc (.cells #[.slice A n c] 70) := by
  have h1 := pairs_any p A n c w h
  go_enter Try.func27, Try.ntmps27
  go_wp2_with (go_at_call 37; refine h1.mono ?_; rintro e w' ⟨rfl, rfl⟩)
  go_ret
  exact ⟨rfl, rfl⟩
end Go.Proofs.Ytncgcjfpoableaa.srtI
