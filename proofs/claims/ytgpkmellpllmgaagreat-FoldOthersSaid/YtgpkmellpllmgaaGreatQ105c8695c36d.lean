/-
  Merged from Fe_stuck, Fe_more, FdTim, FoG, Fgp, Fe_gone, Fe_left.
-/
import Derived.Test.YtgpkmellpllmgaaGreatQ0f593912aaae
import Derived.Test.YtgpkmellpllmgaaGreatQb62ecbabc510
import Derived.Test.YtgpkmellpllmgaaGreatQ98b0788c8bfe
import Derived.Maps.OwnOps
import Derived.Maps.OwnSet
import Derived.Maps.Views
import Derived.Laws.EntriesVeiled
/-
  The events that make a token stuck, or not. Printed by gfold2.py.
-/
set_option linter.unusedVariables false
set_option linter.unusedSimpArgs false
namespace Go.Proofs.YtgpkmellpllmgaaGreat
open Go Go.RowKit Go.Proofs.Base
open Go.Sort (grow)
end Go.Proofs.YtgpkmellpllmgaaGreat
/-
  fold.opened, varsOf, expired, matched. Printed by gfold2.py.
-/
set_option linter.unusedVariables false
set_option linter.unusedSimpArgs false
namespace Go.Proofs.YtgpkmellpllmgaaGreat
open Go Go.RowKit Go.Proofs.Base
open Go.Sort (grow)
end Go.Proofs.YtgpkmellpllmgaaGreat
/-
  slices.DeleteFunc, fold.without of Timer. Printed by gfold.py.
-/
set_option linter.unusedVariables false
set_option linter.unusedSimpArgs false
namespace Go.Proofs.YtgpkmellpllmgaaGreat
open Go Go.RowKit Go.Proofs.Base
open Go.Sort (grow)
theorem vbox_Tim (w : World) (x : ETim) : Below w.heap.size w (w.alloc (.cells #[.int .u64 x.token, .int .i64 x.node, .int .i64 x.due] 66)) ∧ (w.alloc (.cells #[.int .u64 x.token, .int .i64 x.node, .int .i64 x.due] 66)).heap[w.heap.size]? = some (.cells #[.int .u64 x.token, .int .i64 x.node, .int .i64 x.due] 66 (0, 0)) :=
  ⟨below_alloc (Below.refl _ _) _, blk_new _⟩
theorem rowb_Tim {g cap i : Nat} {cur : Array Value} {w : World} {base : Nat} {l : List ETim} (hbg : base ≤ g) (hh : w.heap[g]? = some (.cells cur 66 (0, 0))) (hnc : i ≤ cap) (hcm : cap ≤ maxLen) (hcs : cap * 3 = cur.size) (hl : l.length = i) (ht : cur.toList.take (i * 3) = l.flatMap encTim) :
    w.ownsRow base 66 3 (.slice (some ⟨g, 0, none⟩) i cap) i (l.flatMap encTim) :=
  ⟨by rw [flat_len (enc := encTim) lenTim, hl], .inr ⟨g, cap, cur, rfl, hbg, hh, hnc, hcm, by omega, ht⟩⟩
theorem zs_Tim : ∀ w, (zeroValue 66).run Tryz.prog w = .ok (.agg #[.int .u64 0, .int .i64 0, .int .i64 0]) w := Tryz.zeroValue66
set_option maxRecDepth 100000 in
set_option maxHeartbeats 4000000 in
theorem del_Tim (base : Nat) (v : Value) (n g : Nat) (lb : Array Value) (l : List ETim) (p : ETim → Bool) (w0 w : World) (eg : ∀ args w, (callFunc g args).run Tryz.prog w = .ok (.enter g args) w) (hl : l.length = n) (hown : w.ownsRow base 66 3 v n (l.flatMap encTim)) (hbase : w0.heap.size ≤ base) (h0 : Below w0.heap.size w0 w)
    (hp : ∀ W, Below w0.heap.size w0 W → ∀ x ∈ l, Calls Tryz.prog g (#[.agg #[.int .u64 x.token, .int .i64 x.node, .int .i64 x.due]] ++ lb) W fun e w' => e = .returned (.bool (p x)) ∧ Below W.heap.size W w') :
    Calls Tryz.prog 194 #[v, .func (.func g) #[] lb] w fun e w' => ∃ A' c', e = .returned (.slice A' (l.filter fun x => !p x).length c') ∧ w'.ownsRow base 66 3 (.slice A' (l.filter fun x => !p x).length c') (l.filter fun x => !p x).length ((l.filter fun x => !p x).flatMap encTim) ∧ Below w0.heap.size w0 w' := by
  obtain ⟨A, c, rfl, hnc, hcc⟩ := (Row.of_own hown).open_
  have HO := Lib.hid hown
  have HL := Lib.hid hl
  have H0 := Lib.hid h0
  have HP := Lib.hid hp
  have HIX : Hid (Calls Tryz.prog 156 #[.slice A n c, .func (.func g) #[] lb] w fun e w' => e = .returned (.int .i64 (idxP p l)) ∧ Below w.heap.size w w') := Lib.hid (idx_Tim A n c g lb l p w0 w _ eg hl (Row.of_own hown) h0 hp)
  rcases idxP_spec p l with ⟨h1, hall⟩ | ⟨k0, hk0, h1, hpt, hbef⟩
  · have hf : l.filter (fun x => !p x) = l := List.filter_eq_self.2 (fun x hx => by rw [hall x hx]; rfl)
    rw [hf, hl]
    clear hown hl h0 hp hall hf
    go_enter Tryz.func194, Tryz.ntmps194
    go_wp2_with (go_at_call 156; refine HIX.out.mono ?_; rintro e w1 ⟨rfl, hb⟩; rw [h1]; have HB1 := Lib.hid hb; clear hb)
    go_ret
    exact ⟨A, c, rfl, own_mut HO.out (Mut.of_below HB1.out (fun _ => False)) (fun _ _ h => h), below2 H0.out HB1.out⟩
  · have hn0 : 0 < n := by omega
    obtain ⟨gb, cap, cur0, hv, hbg, hh0, hnc5, hcm5, hcs5, htk5⟩ := own_some hown (by omega)
    injection hv with hv1 hv2 hv3
    subst hv1 hv3
    have hkn : k0 < n := by omega
    have hne1 : ((k0 : Int) == -1) = false := beq_eq_false_iff_ne.2 (by omega)
    have HS0 : Hid (cur0.size = c * 3 ∧ cur0.toList.take (k0 * 3) = ((l.take (k0 + 1)).filter fun x => !p x).flatMap encTim ∧ (cur0.toList.take (n * 3)).drop ((k0 + 1) * 3) = (l.drop (k0 + 1)).flatMap encTim ∧ k0 = ((l.take (k0 + 1)).filter fun x => !p x).length) := Lib.hid (by
      have e1 : (l.take (k0 + 1)).filter (fun x => !p x) = l.take k0 := by
        rw [List.take_succ_eq_append_getElem hk0, List.filter_append]
        have e2 : (l.take k0).filter (fun x => !p x) = l.take k0 := List.filter_eq_self.2 (fun x hx => by
          obtain ⟨j, hj, rfl⟩ := List.getElem_of_mem hx
          rw [List.length_take] at hj
          rw [List.getElem_take, hbef j (by omega)]; rfl)
        rw [e2]
        simp [hpt]
      refine ⟨by omega, ?_, ?_, ?_⟩
      · rw [e1, ← flat_take (enc := encTim) lenTim, ← htk5, List.take_take]
        congr 1
        exact (Nat.min_eq_left (Nat.mul_le_mul_right _ (Nat.le_of_lt hkn))).symm
      · rw [htk5, flat_drop (enc := encTim) lenTim]
      · rw [e1, List.length_take]; omega)
    have HG0 := Lib.hid hh0
    have HCM := Lib.hid hcm5
    have HBS := Lib.hid hbase
    have HBG := Lib.hid hbg
    have HFL : Hid (l.filter (fun x => !p x) = (l.take n).filter fun x => !p x) := Lib.hid (by rw [← hl, List.take_length])
    have hmx : ∀ k, k < n → ∃ x, l[k]? = some x ∧ x ∈ l := fun k hk => ⟨l[k]'(by omega), List.getElem?_eq_getElem (by omega), List.getElem_mem _⟩
    have HMX := Lib.hid hmx
    clear hown hl h0 hp htk5 hcs5 hh0 hcm5 hbase hbg hk0 hpt hbef hmx HO
    go_enter Tryz.func194, Tryz.ntmps194
    go_wp2_with (go_at_call 156; refine HIX.out.mono ?_; rintro e w1 ⟨rfl, hb⟩; rw [h1]; have HB1 := Lib.hid (below2 H0.out hb); have HG1 := Lib.hid (block_below hb HG0.out); clear hb)
    go_loopw [5, 6, 7] (fun s5 s6 _ wr => ∃ (i j : Nat) (cur : Array Value), s5 = .int .i64 i ∧ s6 = .int .i64 j ∧ j ≤ n ∧ i < j ∧ Hid (Below w0.heap.size w0 wr) ∧ Hid (wr.heap[gb]? = some (.cells cur 66 (0, 0))) ∧ Hid (cur.size = c * 3 ∧ cur.toList.take (i * 3) = ((l.take j).filter fun x => !p x).flatMap encTim ∧ (cur.toList.take (n * 3)).drop (j * 3) = (l.drop j).flatMap encTim ∧ i = ((l.take j).filter fun x => !p x).length)) (fun _ s6 _ _ => n - (intOf s6).toNat)
    case atStart => exact ⟨k0, k0 + 1, cur0, rfl, by go_num, by omega, by omega, HB1, HG1, HS0⟩
    case round =>
      obtain ⟨i, j, cur, rfl, rfl, hjn, hij, HB, HG, HI⟩ := hrel
      have hgs := lt_of_blk HG.out
      by_cases hlt : j < n
      · obtain ⟨x, hx, hxm⟩ := HMX.out j hlt
        have hszc : cur.size = c * 3 := HI.out.1
        have hdr : (cur.toList.take (n * 3)).drop (j * 3) = encTim x ++ (l.drop (j + 1)).flatMap encTim := by
          have hjl : j < l.length := by rw [HL.out]; exact hlt
          have he : l[j] = x := by rw [List.getElem?_eq_getElem hjl] at hx; exact Option.some.inj hx
          rw [HI.out.2.2.1, List.drop_eq_getElem_cons hjl, List.flatMap_cons, he]
        have hcj : ∀ t u, (encTim x)[t]? = some u → t < 3 → cur[j * 3 + t]? = some u := fun t u hu ht => by
          have e := congrArg (fun L => L[t]?) hdr
          simp only [List.getElem?_drop] at e
          rw [List.getElem?_take, if_pos (by omega), List.getElem?_append_left (by rw [lenTim]; exact ht), hu] at e
          rw [← Array.getElem?_toList]; exact e
        have c0 : wr.cell? ⟨gb, j * 3, none⟩ = some (.int .u64 x.token) := (cell_of_blk HG.out _).trans (hcj 0 _ rfl (by decide))
        have c1 : wr.cell? ⟨gb, j * 3 + 1, none⟩ = some (.int .i64 x.node) := (cell_of_blk HG.out _).trans (hcj 1 _ rfl (by decide))
        have c2 : wr.cell? ⟨gb, j * 3 + 2, none⟩ = some (.int .i64 x.due) := (cell_of_blk HG.out _).trans (hcj 2 _ rfl (by decide))
        have hcall := fun W hW => HP.out W hW x hxm
        have HX := Lib.hid hx
        have HDR := Lib.hid hdr
        clear hcj hdr hx hxm
        cases hq : p x with
        | false =>
          rw [hq] at hcall
          have HQ := Lib.hid hq
          have HCALL := Lib.hid hcall
          clear hq hcall
          go_wp2_with fail
          refine (HCALL.out _ (below2 HB.out (vbox_Tim wr x).1)).mono ?_
          rintro e w1 ⟨rfl, hb1⟩
          have hv1 := block_below hb1 (vbox_Tim wr x).2
          have HBW := Lib.hid (below2 HB.out (below2 (vbox_Tim wr x).1 hb1))
          have hgw := block_below hb1 (block_below (vbox_Tim wr x).1 HG.out)
          have k0 := cell_of_blk hv1 0
          have k1 := cell_of_blk hv1 1
          have k2 := cell_of_blk hv1 2
          clear hv1
          obtain ⟨u0, hu0⟩ : ∃ u, cur[i * 3]? = some u := ⟨_, Array.getElem?_eq_getElem (by rw [hszc]; have : i * 3 + 3 ≤ c * 3 := (by have := Nat.mul_le_mul_right 3 (show i + 1 ≤ c by omega); omega); omega)⟩
          have j0 := (cell_of_blk hgw (i * 3)).trans hu0
          have f0 := frozen_of_blk hgw (i * 3)
          clear hu0
          obtain ⟨u1, hu1⟩ : ∃ u, cur[i * 3 + 1]? = some u := ⟨_, Array.getElem?_eq_getElem (by rw [hszc]; have : i * 3 + 3 ≤ c * 3 := (by have := Nat.mul_le_mul_right 3 (show i + 1 ≤ c by omega); omega); omega)⟩
          have j1 := (cell_of_blk hgw (i * 3 + 1)).trans hu1
          have f1 := frozen_of_blk hgw (i * 3 + 1)
          clear hu1
          obtain ⟨u2, hu2⟩ : ∃ u, cur[i * 3 + 2]? = some u := ⟨_, Array.getElem?_eq_getElem (by rw [hszc]; have : i * 3 + 3 ≤ c * 3 := (by have := Nat.mul_le_mul_right 3 (show i + 1 ≤ c by omega); omega); omega)⟩
          have j2 := (cell_of_blk hgw (i * 3 + 2)).trans hu2
          have f2 := frozen_of_blk hgw (i * 3 + 2)
          clear hu2
          have HGW := Lib.hid hgw
          clear hgw hb1
          go_wp2_with fail
          go_roundw
          case rel =>
            refine ⟨i + 1, j + 1, _, by go_num, by go_num, by omega, by omega, Lib.hid ((((HBW.out).setCell (p := ⟨gb, i * 3, none⟩) (by show _ ≤ gb; have := HBS.out; have := HBG.out; omega) _).setCell (p := ⟨gb, i * 3 + 1, none⟩) (by show _ ≤ gb; have := HBS.out; have := HBG.out; omega) _).setCell (p := ⟨gb, i * 3 + 2, none⟩) (by show _ ≤ gb; have := HBS.out; have := HBG.out; omega) _), Lib.hid (set_blk (o := i * 3 + 2) (set_blk (o := i * 3 + 1) (set_blk (o := i * 3) (HGW.out) (.int .u64 x.token)) (.int .i64 x.node)) (.int .i64 x.due)), Lib.hid ?_⟩
            have e1 : (l.take (j + 1)).filter (fun x => !p x) = (l.take j).filter (fun x => !p x) ++ [x] := by
              rw [List.take_add_one, HX.out, List.filter_append]
              congr 1
              simp [HQ.out]
            have hil : (i + 1) * 3 ≤ cur.size := by rw [hszc]; exact Nat.mul_le_mul_right _ (by omega)
            have e2 : (((cur.setIfInBounds (i * 3) (.int .u64 x.token)).setIfInBounds (i * 3 + 1) (.int .i64 x.node)).setIfInBounds (i * 3 + 2) (.int .i64 x.due)).toList = splice cur.toList (i * 3) (encTim x) := by
              rw [← setAll_splice _ _ _ (by rw [lenTim, Array.length_toList]; omega)]
              simp only [Array.toList_setIfInBounds]
              first | rfl | (simp only [Nat.mul_one]; rfl)
            refine ⟨by simp only [Array.size_setIfInBounds]; exact hszc, ?_, ?_, ?_⟩
            · rw [e2, e1, List.flatMap_append, ← HI.out.2.1, splice_take (by rw [lenTim, Nat.succ_mul]) (by rw [lenTim, Array.length_toList]; omega), List.flatMap_singleton]
            · have e3 := congrArg (fun L => L.drop 3) HI.out.2.2.1
              simp only [List.drop_drop] at e3
              rw [show j * 3 + 3 = (j + 1) * 3 by omega, flat_drop1 (enc := encTim) lenTim] at e3
              have hle : (i + 1) * 3 ≤ (j + 1) * 3 := Nat.mul_le_mul_right _ (by omega)
              rw [e2, ← e3, List.drop_take, List.drop_take, splice_drop (by rw [lenTim]; omega) (by rw [lenTim, Array.length_toList]; omega)]
            · rw [e1, List.length_append, ← HI.out.2.2.2]; rfl
          case measure => simp [intOf]; omega
        | true =>
          rw [hq] at hcall
          have HQ := Lib.hid hq
          have HCALL := Lib.hid hcall
          clear hq hcall
          go_wp2_with fail
          refine (HCALL.out _ (below2 HB.out (vbox_Tim wr x).1)).mono ?_
          rintro e w1 ⟨rfl, hb1⟩
          have hv1 := block_below hb1 (vbox_Tim wr x).2
          have HBW := Lib.hid (below2 HB.out (below2 (vbox_Tim wr x).1 hb1))
          have hgw := block_below hb1 (block_below (vbox_Tim wr x).1 HG.out)
          clear hv1
          have HGW := Lib.hid hgw
          clear hgw hb1
          go_wp2_with fail
          go_roundw
          case rel =>
            refine ⟨i, j + 1, cur, rfl, by go_num, by omega, by omega, HBW, HGW, Lib.hid ?_⟩
            have e1 : (l.take (j + 1)).filter (fun x => !p x) = (l.take j).filter (fun x => !p x) := by
              rw [List.take_add_one, HX.out, List.filter_append]
              simp [HQ.out]
            rw [e1]
            refine ⟨hszc, HI.out.2.1, ?_, HI.out.2.2.2⟩
            have e3 := congrArg (fun L => L.drop 3) HDR.out
            simp only [List.drop_drop] at e3
            rw [show j * 3 + 3 = (j + 1) * 3 by omega] at e3
            rw [e3, List.drop_append, List.drop_of_length_le (by rw [lenTim]; exact Nat.le_refl _), lenTim]
            simp
          case measure => simp [intOf]; omega
      · obtain rfl : j = n := by omega
        have hszc : cur.size = c * 3 := HI.out.1
        have hfit : i * 3 + (j - i) * 3 ≤ cur.size := by
          rw [hszc, ← Nat.add_mul]; exact Nat.mul_le_mul_right _ (by omega)
        have hcl : ∀ ty, (Builtin.clear_ #[29] ty #[.slice (some ⟨gb, i * 3, none⟩) (j - i) (c - i)]).run Tryz.prog wr = .ok (.tuple #[]) (wr.setRow gb (splice cur.toList (i * 3) (Builtin.zeroCells (.agg #[.int .u64 0, .int .i64 0, .int .i64 0] : Value).cells (j - i)).toList).toArray) := fun ty =>
          run_clear_wide wr 29 66 ty _ 3 Tryz.underlying29 zs_Tim rfl (by intro u hu; simp [Value.cells] at hu; rcases hu with rfl | rfl | rfl <;> rfl) gb (i * 3) (j - i) (c - i) cur 66 (by omega) HG.out hfit
        have hci : ¬ (c = i) := by omega
        have hcl2 : i ≤ c := by omega
        have hin : i ≤ j := by omega
        have HCL := Lib.hid hcl
        clear hcl
        have HHQ := Lib.hid (setRow_heap wr gb cur (splice cur.toList (i * 3) (Builtin.zeroCells (.agg #[.int .u64 0, .int .i64 0, .int .i64 0] : Value).cells (j - i)).toList).toArray 66 (0, 0) HG.out)
        have HHB : Hid (Below w0.heap.size w0 (wr.setRow gb (splice cur.toList (i * 3) (Builtin.zeroCells (.agg #[.int .u64 0, .int .i64 0, .int .i64 0] : Value).cells (j - i)).toList).toArray)) := Lib.hid (below_setRow HB.out (by have := HBS.out; have := HBG.out; omega) _)
        have hsp : (splice cur.toList (i * 3) (Builtin.zeroCells (.agg #[.int .u64 0, .int .i64 0, .int .i64 0] : Value).cells (j - i)).toList).toArray.size = cur.size ∧ (splice cur.toList (i * 3) (Builtin.zeroCells (.agg #[.int .u64 0, .int .i64 0, .int .i64 0] : Value).cells (j - i)).toList).toArray.toList.take (i * 3) = cur.toList.take (i * 3) := by
          have hzl : (Builtin.zeroCells (.agg #[.int .u64 0, .int .i64 0, .int .i64 0] : Value).cells (j - i)).toList.length = (j - i) * 3 := by rw [Array.length_toList, size_zeroCells]; rfl
          have hle : i * 3 + (j - i) * 3 ≤ cur.size := by
            exact hfit
          refine ⟨by rw [List.size_toArray, length_splice _ _ _ (by rw [hzl, Array.length_toList]; exact hle), Array.length_toList], ?_⟩
          rw [List.toList_toArray]
          unfold splice
          have hll : (cur.toList.take (i * 3)).length = i * 3 := by rw [List.length_take, Array.length_toList]; omega
          rw [List.take_append_of_le_length (by rw [hll]; exact Nat.le_refl _), List.take_of_length_le (by rw [hll]; exact Nat.le_refl _)]
        have HSP := Lib.hid hsp
        clear hsp
        generalize (splice cur.toList (i * 3) (Builtin.zeroCells (.agg #[.int .u64 0, .int .i64 0, .int .i64 0] : Value).cells (j - i)).toList).toArray = CR at *
        have hcl' := HCL.out
        have hji : ((j : Int) - (i : Int)).toNat = j - i := by omega
        go_wp2
        go_ret
        have hfl : (l.filter fun x => !p x).length = i := by rw [HFL.out]; exact HI.out.2.2.2.symm
        rw [hfl]
        refine ⟨_, _, rfl, rowb_Tim HBG.out HHQ.out (by omega) HCM.out (by rw [HSP.out.1]; exact hszc.symm) hfl ?_, HHB.out⟩
        rw [HFL.out, ← HI.out.2.1]
        first | exact HSP.out.2 | (rw [Nat.mul_one]; exact HSP.out.2)
set_option maxRecDepth 100000 in
theorem without_Tim (A : Option Addr) (n c g : Nat) (lb : Array Value) (l : List ETim) (p : ETim → Bool) (w : World) (S : Nat → Prop) (eg : ∀ args w, (callFunc g args).run Tryz.prog w = .ok (.enter g args) w) (hl : l.length = n) (hby : n * 24 ≤ 140737488355328) (hr : Row w S 3 n (.slice A n c) (l.flatMap encTim))
    (hp : ∀ W, Below w.heap.size w W → ∀ x ∈ l, Calls Tryz.prog g (#[.agg #[.int .u64 x.token, .int .i64 x.node, .int .i64 x.due]] ++ lb) W fun e w' => e = .returned (.bool (p x)) ∧ Below W.heap.size W w') :
    Calls Tryz.prog 148 #[.slice A n c, .func (.func g) #[] lb] w fun e w' => ∃ A' c', e = .returned (.slice A' (l.filter fun x => !p x).length c') ∧ w'.ownsRow w.heap.size 66 3 (.slice A' (l.filter fun x => !p x).length c') (l.filter fun x => !p x).length ((l.filter fun x => !p x).flatMap encTim) ∧ Below w.heap.size w w' := by
  have HC := Lib.hid (clone_Tim A n c l w S hl hby hr)
  have HP := Lib.hid hp
  have HL := Lib.hid hl
  have EG := Lib.hid eg
  clear hp hr hl eg
  go_enter Tryz.func148, Tryz.ntmps148
  go_wp2_with (go_at_call 26; refine HC.out.mono ?_; rintro e w1 ⟨A1, c1, rfl, hown, hb⟩; have HO1 := Lib.hid hown; have HB1 := Lib.hid hb; clear hown hb)
  refine (del_Tim w.heap.size _ n g lb l p w w1 EG.out HL.out HO1.out (Nat.le_refl _) HB1.out HP.out).mono ?_
  rintro e w2 ⟨A2, c2, rfl, hown, hb⟩
  have HO2 := Lib.hid hown
  have HB2 := Lib.hid hb
  clear hown hb
  go_wp2_with fail
  go_ret
  exact ⟨A2, c2, rfl, HO2.out, HB2.out⟩
end Go.Proofs.YtgpkmellpllmgaaGreat
/-
  The map of keys that are taken away.
-/
set_option linter.unusedVariables false
set_option linter.unusedSimpArgs false
namespace Go.Proofs.Base
open Go Go.RowKit Go.Maps
def deadStep (p : ETok → Bool) (D : DataW Unit) (x : ETok) : DataW Unit := if p x then D.put (.int .u64 x.key) (.lit (.bool true)) else D
def deadD (p : ETok → Bool) (l : List ETok) : DataW Unit := l.foldl (deadStep p) (.map [])
theorem deadD_snoc (p : ETok → Bool) (l : List ETok) (x : ETok) : deadD p (l ++ [x]) = deadStep p (deadD p l) x := by simp [deadD, List.foldl_append]
theorem deadFold_at (p : ETok → Bool) (q : Int) : ∀ (l : List ETok) (D : DataW Unit), IsMap D → (l.foldl (deadStep p) D).atKey (.int .u64 q) (.lit (.bool false)) = if deadB p l q = true then .lit (.bool true) else D.atKey (.int .u64 q) (.lit (.bool false))
  | [], _, _ => rfl
  | x :: r, D, h => by
    have hm : IsMap (deadStep p D x) := by unfold deadStep; split; exact h.put _ _; exact h
    rw [List.foldl_cons, deadFold_at p q r _ hm]
    unfold deadB
    rw [List.any_cons]
    by_cases hr : (r.any fun x => p x && x.key == q) = true
    · rw [if_pos hr, hr, Bool.or_true, if_pos rfl]
    · have hrf : (r.any fun x => p x && x.key == q) = false := by simpa using hr
      rw [if_neg hr, hrf, Bool.or_false]
      unfold deadStep
      by_cases hp : p x = true
      · rw [if_pos hp, hp, Bool.true_and]
        by_cases hq : x.key = q
        · rw [if_pos (by simpa using hq), hq]
          exact atKey_put_same h (show WideAt.IsKeyLit (.int .u64 q) from trivial) _ _
        · rw [if_neg (by simpa using hq)]
          exact atKey_put_other (fun e => hq (by injection e with _ e; exact e.symm)) _ _
      · rw [if_neg hp, if_neg (by simp [hp])]
theorem deadD_at (p : ETok → Bool) (l : List ETok) (q : Int) : (deadD p l).atKey (.int .u64 q) (.lit (.bool false)) = .lit (.bool (deadB p l q)) := by
  unfold deadD
  rw [deadFold_at p q l _ isMap_empty]
  by_cases h : deadB p l q = true
  · rw [if_pos h, h]
  · rw [if_neg h, show deadB p l q = false by simpa using h]; rfl
theorem plainElem_bool_inv {P : Program} {e : TypeId} (he : P.underlying e = some .bool) {v : Value} {z : DataW Unit × List MemPlace} (h : plainElem P e v = some z) : ∃ b, v = .bool b ∧ z = (.lit (.bool b), []) := by
  unfold plainElem at h
  rw [he] at h
  cases v <;> simp at h
  subst h
  exact ⟨_, rfl, rfl⟩
end Go.Proofs.Base
namespace Go.Proofs.YtgpkmellpllmgaaGreat
open Go Go.RowKit Go.Proofs.Base
abbrev Dead (w : World) (b n : Nat) (D : DataW Unit) : Prop := w.ownsMap Tryz.prog 24 (plainElem Tryz.prog 4) b n D
theorem law_u64 : Go.Maps.Keyed Tryz.prog 24 := Go.Maps.int_keyed Tryz.underlying24
theorem dead_look {w : World} {b n : Nat} {p : ETok → Bool} {l : List ETok} (h : Dead w b n (deadD p l)) {q : Int} (hq : u64 q) :
    (Instr.lookup 171 (.map (some b)) (.int .u64 q) false).run Tryz.prog w = .ok (.bool (deadB p l q)) w := by
  have hz : ∀ w, (zeroValue 4).run Tryz.prog w = .ok (.bool false) w := Tryz.zeroValue4
  obtain ⟨v, ps, hrun, hv⟩ := h.lookup law_u64 Tryz.underlying171 (hz w) (zd := .lit (.bool false)) (zp := []) (plainElem_bool Tryz.underlying4 false) (Go.Maps.keyOf_int_mk Tryz.underlying24 (WalkArith.wf_u64 hq))
  obtain ⟨c, rfl, hc⟩ := plainElem_bool_inv Tryz.underlying4 hv
  rw [hrun]
  rw [deadD_at] at hc
  simp only [Prod.mk.injEq, DataW.lit.injEq, Lit.bool.injEq] at hc
  rw [hc.1]
theorem dead_below {w w' : World} {b n : Nat} {D : DataW Unit} (h : Dead w b n D) (hb : Below w.heap.size w w') : Dead w' b n D := h.kept (row := none) (grown_of_below hb none) (by simp)
end Go.Proofs.YtgpkmellpllmgaaGreat
/-
  What goes with tokens. Printed by gfold2.py.
-/
set_option linter.unusedVariables false
set_option linter.unusedSimpArgs false
namespace Go.Proofs.YtgpkmellpllmgaaGreat
open Go Go.RowKit Go.Proofs.Base
open Go.Sort (grow)
set_option maxRecDepth 100000 in
theorem p_gone_1 (Bm Ba mb n g : Nat) (lb : Array Value) (p : ETok → Bool) (al : Int → Bool) (l : List ETok) (k : Int) (w : World) (hk : u64 k) (hm : w.cell? ⟨Bm, 0, none⟩ = some (.map (some mb))) (ha : w.cell? ⟨Ba, 0, none⟩ = some (.func (.func g) #[] lb)) (hd : Dead w mb n (deadD p l)) (eg : ∀ args w, (callFunc g args).run Tryz.prog w = .ok (.enter g args) w)
    (hal : Calls Tryz.prog g (#[.int .u64 k] ++ lb) w fun e w' => e = .returned (.bool (al k)) ∧ Below w.heap.size w w') :
    Calls Tryz.prog 144 (#[.int .u64 k] ++ #[.pointer (some ⟨Bm, 0, none⟩), .pointer (some ⟨Ba, 0, none⟩)]) w fun e w' => e = .returned (.bool (deadB p l k || al k)) ∧ Below w.heap.size w w' := by
  have hlook := dead_look hd hk
  have HD := Lib.hid hd
  have HAL := Lib.hid hal
  clear hd hal
  cases hb : deadB p l k with
  | true =>
    rw [hb] at hlook
    clear hb
    go_enter Tryz.func144, Tryz.ntmps144
    go_wp2
    go_ret
    exact ⟨rfl, Below.refl _ _⟩
  | false =>
    rw [hb] at hlook
    clear hb
    go_enter Tryz.func144, Tryz.ntmps144
    go_wp2_with (go_at_fn g; refine HAL.out.mono ?_; rintro e w' ⟨rfl, hb⟩)
    go_ret
    exact ⟨rfl, hb⟩
set_option maxRecDepth 100000 in
theorem p_gone_2 (B g : Nat) (lb : Array Value) (x : EJob) (th : Int → Bool) (w : World) (hc : w.cell? ⟨B, 0, none⟩ = some (.func (.func g) #[] lb)) (eg : ∀ args w, (callFunc g args).run Tryz.prog w = .ok (.enter g args) w)
    (hth : ∀ W, Below w.heap.size w W → Calls Tryz.prog g (#[.int .u64 x.token] ++ lb) W fun e w' => e = .returned (.bool (th x.token)) ∧ Below W.heap.size W w') :
    Calls Tryz.prog 147 (#[.agg #[.int .u64 x.key, .int .u64 x.token, .string x.typ, .int .i64 x.retries, .string x.worker, .int .i64 x.till]] ++ #[.pointer (some ⟨B, 0, none⟩)]) w fun e w' => e = .returned (.bool (th x.token)) ∧ Below w.heap.size w w' := by
  have hB : Below w.heap.size w (w.alloc (.cells #[.int .u64 x.key, .int .u64 x.token, .string x.typ, .int .i64 x.retries, .string x.worker, .int .i64 x.till] 52)) := below_alloc (Below.refl _ _) _
  have hc' := cell_below hB hc
  have HT := Lib.hid (hth _ hB)
  have HB := Lib.hid hB
  clear hB hc hth
  go_enter Tryz.func147, Tryz.ntmps147
  go_wp2_with (go_at_fn g; refine HT.out.mono ?_; rintro e w' ⟨rfl, hb⟩)
  go_ret
  exact ⟨rfl, below2 HB.out hb⟩
set_option maxRecDepth 100000 in
theorem p_gone_3 (B g : Nat) (lb : Array Value) (x : ETim) (th : Int → Bool) (w : World) (hc : w.cell? ⟨B, 0, none⟩ = some (.func (.func g) #[] lb)) (eg : ∀ args w, (callFunc g args).run Tryz.prog w = .ok (.enter g args) w)
    (hth : ∀ W, Below w.heap.size w W → Calls Tryz.prog g (#[.int .u64 x.token] ++ lb) W fun e w' => e = .returned (.bool (th x.token)) ∧ Below W.heap.size W w') :
    Calls Tryz.prog 149 (#[.agg #[.int .u64 x.token, .int .i64 x.node, .int .i64 x.due]] ++ #[.pointer (some ⟨B, 0, none⟩)]) w fun e w' => e = .returned (.bool (th x.token)) ∧ Below w.heap.size w w' := by
  have hB : Below w.heap.size w (w.alloc (.cells #[.int .u64 x.token, .int .i64 x.node, .int .i64 x.due] 66)) := below_alloc (Below.refl _ _) _
  have hc' := cell_below hB hc
  have HT := Lib.hid (hth _ hB)
  have HB := Lib.hid hB
  clear hB hc hth
  go_enter Tryz.func149, Tryz.ntmps149
  go_wp2_with (go_at_fn g; refine HT.out.mono ?_; rintro e w' ⟨rfl, hb⟩)
  go_ret
  exact ⟨rfl, below2 HB.out hb⟩
set_option maxRecDepth 100000 in
theorem p_gone_4 (B g : Nat) (lb : Array Value) (x : ESub) (th : Int → Bool) (w : World) (hc : w.cell? ⟨B, 0, none⟩ = some (.func (.func g) #[] lb)) (eg : ∀ args w, (callFunc g args).run Tryz.prog w = .ok (.enter g args) w)
    (hth : ∀ W, Below w.heap.size w W → Calls Tryz.prog g (#[.int .u64 x.token] ++ lb) W fun e w' => e = .returned (.bool (th x.token)) ∧ Below W.heap.size W w') :
    Calls Tryz.prog 151 (#[.agg #[.int .u64 x.token, .int .u64 x.inst, .int .i64 x.node, .string x.name, .string x.key, .bool x.opn]] ++ #[.pointer (some ⟨B, 0, none⟩)]) w fun e w' => e = .returned (.bool (th x.token)) ∧ Below w.heap.size w w' := by
  have hB : Below w.heap.size w (w.alloc (.cells #[.int .u64 x.token, .int .u64 x.inst, .int .i64 x.node, .string x.name, .string x.key, .bool x.opn] 73)) := below_alloc (Below.refl _ _) _
  have hc' := cell_below hB hc
  have HT := Lib.hid (hth _ hB)
  have HB := Lib.hid hB
  clear hB hc hth
  go_enter Tryz.func151, Tryz.ntmps151
  go_wp2_with (go_at_fn g; refine HT.out.mono ?_; rintro e w' ⟨rfl, hb⟩)
  go_ret
  exact ⟨rfl, below2 HB.out hb⟩
end Go.Proofs.YtgpkmellpllmgaaGreat
/-
  fold.gone. Printed by gfold2.py.
-/
set_option linter.unusedVariables false
set_option linter.unusedSimpArgs false
namespace Go.Proofs.YtgpkmellpllmgaaGreat
open Go Go.RowKit Go.Proofs.Base
open Go.Sort (grow)
structure GStage (w : World) (ga : Nat) (lba : Array Value) (p : ETok → Bool) (l : List ETok) (B n : Nat) (W : World) : Prop where
  below : Below w.heap.size w W
  also : W.heap[w.heap.size + 1]? = some (.cells #[.func (.func ga) #[] lba] 120 (0, 0))
  mbox : W.heap[w.heap.size + 1 + 1 + 1 + 1]? = some (.cells #[.map (some (w.heap.size + 1 + 1 + 1))] 171 (0, 0))
  dead : Dead W (w.heap.size + 1 + 1 + 1) n (deadD p l)
  res : W.heap[w.heap.size + 1 + 1]? = some (.cells #[.int .u64 0, .int .u64 0, .int .u64 0, .slice none 0 0, .slice none 0 0, .slice none 0 0, .slice none 0 0, .slice none 0 0, .slice none 0 0, .slice none 0 0, .slice none 0 0, .slice none 0 0] 35 (0, 0))
  tbox : W.heap[B]? = some (.cells #[.func (.func 144) #[] #[.pointer (some ⟨w.heap.size + 1 + 1 + 1 + 1, 0, none⟩), .pointer (some ⟨w.heap.size + 1, 0, none⟩)]] 120 (0, 0))
  far : w.heap.size + 4 < B
theorem GStage.next {w : World} {ga : Nat} {lba : Array Value} {p : ETok → Bool} {l : List ETok} {B n : Nat} {W W' : World} (h : GStage w ga lba p l B n W) (hb : Below W.heap.size W W') : GStage w ga lba p l B n W' :=
  ⟨below2 h.below hb, block_below hb h.also, block_below hb h.mbox, dead_below h.dead hb, block_below hb h.res, block_below hb h.tbox, h.far⟩
theorem GStage.set {w : World} {ga : Nat} {lba : Array Value} {p : ETok → Bool} {l : List ETok} {B n : Nat} {W : World} (h : GStage w ga lba p l B n W) (o : Nat) (u : Value) : GStage w ga lba p l B n (W.setCell ⟨w.heap.size, o, none⟩ u) :=
  ⟨h.below.setCell (p := ⟨w.heap.size, o, none⟩) (Nat.le_refl _) u, blk_set_other h.also (by omega), blk_set_other h.mbox (by omega),
    h.dead.kept (row := some w.heap.size) (⟨rfl, rfl, rfl, by simp [World.setCell], fun b hb hn => Below.heap_setCell W ⟨w.heap.size, o, none⟩ u b (fun e => hn (by show some b = some w.heap.size; rw [show b = w.heap.size from e]))⟩) (by simp; omega), blk_set_other h.res (by omega), blk_set_other h.tbox (by have := h.far; omega), h.far⟩
theorem GStage.theirs {w : World} {ga : Nat} {lba : Array Value} {p : ETok → Bool} {l : List ETok} {B n : Nat} {W : World} {al : Int → Bool} (h : GStage w ga lba p l B n W) (eg : ∀ args w, (callFunc ga args).run Tryz.prog w = .ok (.enter ga args) w)
    (hal : ∀ W, Below w.heap.size w W → ∀ k, u64 k → Calls Tryz.prog ga (#[.int .u64 k] ++ lba) W fun e w' => e = .returned (.bool (al k)) ∧ Below W.heap.size W w') {k : Int} (hk : u64 k) :
    Calls Tryz.prog 144 (#[.int .u64 k] ++ #[.pointer (some ⟨w.heap.size + 1 + 1 + 1 + 1, 0, none⟩), .pointer (some ⟨w.heap.size + 1, 0, none⟩)]) W fun e w' => e = .returned (.bool (deadB p l k || al k)) ∧ Below W.heap.size W w' :=
  p_gone_1 _ _ _ n ga lba p al l k W hk (cell_of_blk h.mbox 0) (cell_of_blk h.also 0) h.dead eg (hal W h.below k hk)
set_option maxRecDepth 100000 in
set_option maxHeartbeats 4000000 in
theorem ev_gone (Pp Dd Mm : Int) (A3 : Option Addr) (n3 c3 : Nat) (A4 : Option Addr) (n4 c4 : Nat) (A5 : Option Addr) (n5 c5 : Nat) (A6 : Option Addr) (n6 c6 : Nat) (A7 : Option Addr) (n7 c7 : Nat) (A8 : Option Addr) (n8 c8 : Nat) (A9 : Option Addr) (n9 c9 : Nat) (A10 : Option Addr) (n10 c10 : Nat) (A11 : Option Addr) (n11 c11 : Nat) (gi ga : Nat) (lbi lba : Array Value) (p : ETok → Bool) (al : Int → Bool) (lt : List ETok) (lj : List EJob) (lm : List ETim) (ls : List ESub) (w : World) (S : Nat → Prop) (egi : ∀ args w, (callFunc gi args).run Tryz.prog w = .ok (.enter gi args) w) (ega : ∀ args w, (callFunc ga args).run Tryz.prog w = .ok (.enter ga args) w)
    (hl5 : lt.length = n5) (hby5 : n5 * 56 ≤ 140737488355328) (hr5 : Row w S 6 n5 (.slice A5 n5 c5) (lt.flatMap encTok))
    (hl6 : lj.length = n6) (hby6 : n6 * 64 ≤ 140737488355328) (hr6 : Row w S 6 n6 (.slice A6 n6 c6) (lj.flatMap encJob))
    (hl7 : lm.length = n7) (hby7 : n7 * 24 ≤ 140737488355328) (hr7 : Row w S 3 n7 (.slice A7 n7 c7) (lm.flatMap encTim))
    (hl8 : ls.length = n8) (hby8 : n8 * 64 ≤ 140737488355328) (hr8 : Row w S 6 n8 (.slice A8 n8 c8) (ls.flatMap encSub))
    (hwt : ∀ x ∈ lt, u64 x.key) (hwj : ∀ x ∈ lj, u64 x.token) (hwm : ∀ x ∈ lm, u64 x.token) (hws : ∀ x ∈ ls, u64 x.token)
    (hp : ∀ W, Below w.heap.size w W → ∀ x ∈ lt, Calls Tryz.prog gi (#[.agg #[.int .u64 x.key, .int .u64 x.inst, .int .u64 x.scope, .int .i64 x.node, .int .i64 x.flow, .string x.stuck]] ++ lbi) W fun e w' => e = .returned (.bool (p x)) ∧ Below W.heap.size W w')
    (hal : ∀ W, Below w.heap.size w W → ∀ k, u64 k → Calls Tryz.prog ga (#[.int .u64 k] ++ lba) W fun e w' => e = .returned (.bool (al k)) ∧ Below W.heap.size W w') :
    Calls Tryz.prog 86 #[.agg #[.int .u64 Pp, .int .u64 Dd, .int .u64 Mm, .slice A3 n3 c3, .slice A4 n4 c4, .slice A5 n5 c5, .slice A6 n6 c6, .slice A7 n7 c7, .slice A8 n8 c8, .slice A9 n9 c9, .slice A10 n10 c10, .slice A11 n11 c11], .func (.func gi) #[] lbi, .func (.func ga) #[] lba] w fun e w' => ∃ B5 m5 d5 B6 m6 d6 B7 m7 d7 B8 m8 d8, e = .returned (.agg #[.int .u64 Pp, .int .u64 Dd, .int .u64 Mm, .slice A3 n3 c3, .slice A4 n4 c4, .slice B5 m5 d5, .slice B6 m6 d6, .slice B7 m7 d7, .slice B8 m8 d8, .slice A9 n9 c9, .slice A10 n10 c10, .slice A11 n11 c11]) ∧ m5 = (lt.filter fun x => !p x).length ∧ w'.ownsRow w.heap.size 42 6 (.slice B5 m5 d5) m5 ((lt.filter fun x => !p x).flatMap encTok) ∧ m6 = (lj.filter fun x => !(deadB p lt x.token || al x.token)).length ∧ w'.ownsRow w.heap.size 52 6 (.slice B6 m6 d6) m6 ((lj.filter fun x => !(deadB p lt x.token || al x.token)).flatMap encJob) ∧ m7 = (lm.filter fun x => !(deadB p lt x.token || al x.token)).length ∧ w'.ownsRow w.heap.size 66 3 (.slice B7 m7 d7) m7 ((lm.filter fun x => !(deadB p lt x.token || al x.token)).flatMap encTim) ∧ m8 = (ls.filter fun x => !(deadB p lt x.token || al x.token)).length ∧ w'.ownsRow w.heap.size 73 6 (.slice B8 m8 d8) m8 ((ls.filter fun x => !(deadB p lt x.token || al x.token)).flatMap encSub) ∧ Below w.heap.size w w' := by
  obtain ⟨N, hN⟩ : ∃ N, N = ((((w.alloc (.cells #[.int .u64 Pp, .int .u64 Dd, .int .u64 Mm, .slice A3 n3 c3, .slice A4 n4 c4, .slice A5 n5 c5, .slice A6 n6 c6, .slice A7 n7 c7, .slice A8 n8 c8, .slice A9 n9 c9, .slice A10 n10 c10, .slice A11 n11 c11] 35)).alloc (.cells #[.func (.func ga) #[] lba] 120)).alloc (.cells #[.int .u64 0, .int .u64 0, .int .u64 0, .slice none 0 0, .slice none 0 0, .slice none 0 0, .slice none 0 0, .slice none 0 0, .slice none 0 0, .slice none 0 0, .slice none 0 0, .slice none 0 0] 35)).alloc (.map #[] 0)).alloc (.cells #[.map (some (w.heap.size + 1 + 1 + 1))] 171) := ⟨_, rfl⟩
  have b0 : N.heap[w.heap.size]? = some (.cells #[.int .u64 Pp, .int .u64 Dd, .int .u64 Mm, .slice A3 n3 c3, .slice A4 n4 c4, .slice A5 n5 c5, .slice A6 n6 c6, .slice A7 n7 c7, .slice A8 n8 c8, .slice A9 n9 c9, .slice A10 n10 c10, .slice A11 n11 c11] 35 (0, 0)) := by rw [hN]; exact blk_alloc (blk_alloc (blk_alloc (blk_alloc (blk_new _) _) _) _) _
  have b1 : N.heap[w.heap.size + 1]? = some (.cells #[.func (.func ga) #[] lba] 120 (0, 0)) := by rw [hN]; exact blk_alloc (blk_alloc (blk_alloc (blk_new_of _ (by simp)) _) _) _
  have b2 : N.heap[w.heap.size + 1 + 1]? = some (.cells #[.int .u64 0, .int .u64 0, .int .u64 0, .slice none 0 0, .slice none 0 0, .slice none 0 0, .slice none 0 0, .slice none 0 0, .slice none 0 0, .slice none 0 0, .slice none 0 0, .slice none 0 0] 35 (0, 0)) := by rw [hN]; exact blk_alloc (blk_alloc (blk_new_of _ (by simp)) _) _
  have b4 : N.heap[w.heap.size + 1 + 1 + 1 + 1]? = some (.cells #[.map (some (w.heap.size + 1 + 1 + 1))] 171 (0, 0)) := by rw [hN]; exact blk_new_of _ (by simp)
  have hd : Dead N (w.heap.size + 1 + 1 + 1) 0 (deadD p (lt.take 0)) := by
    rw [hN]
    have h := World.ownsMap_made (H := Unit) (((w.alloc (.cells #[.int .u64 Pp, .int .u64 Dd, .int .u64 Mm, .slice A3 n3 c3, .slice A4 n4 c4, .slice A5 n5 c5, .slice A6 n6 c6, .slice A7 n7 c7, .slice A8 n8 c8, .slice A9 n9 c9, .slice A10 n10 c10, .slice A11 n11 c11] 35)).alloc (.cells #[.func (.func ga) #[] lba] 120)).alloc (.cells #[.int .u64 0, .int .u64 0, .int .u64 0, .slice none 0 0, .slice none 0 0, .slice none 0 0, .slice none 0 0, .slice none 0 0, .slice none 0 0, .slice none 0 0, .slice none 0 0, .slice none 0 0] 35)) Tryz.prog 24 (plainElem Tryz.prog 4)
    rw [show (((w.alloc (.cells #[.int .u64 Pp, .int .u64 Dd, .int .u64 Mm, .slice A3 n3 c3, .slice A4 n4 c4, .slice A5 n5 c5, .slice A6 n6 c6, .slice A7 n7 c7, .slice A8 n8 c8, .slice A9 n9 c9, .slice A10 n10 c10, .slice A11 n11 c11] 35)).alloc (.cells #[.func (.func ga) #[] lba] 120)).alloc (.cells #[.int .u64 0, .int .u64 0, .int .u64 0, .slice none 0 0, .slice none 0 0, .slice none 0 0, .slice none 0 0, .slice none 0 0, .slice none 0 0, .slice none 0 0, .slice none 0 0, .slice none 0 0] 35)).heap.size = w.heap.size + 1 + 1 + 1 by simp] at h
    exact h.alloc _
  have hB : Below w.heap.size w N := by rw [hN]; exact below_alloc (below_alloc (below_alloc (below_alloc (below_alloc (Below.refl _ _) _) _) _) _) _
  have hsz : N.heap.size = w.heap.size + 5 := by rw [hN]; simp
  have HN := Lib.hid hN
  have HB := Lib.hid hB
  have HSZ := Lib.hid hsz
  have K0 := Lib.hid b0
  have K1 := Lib.hid b1
  have K2 := Lib.hid b2
  have K4 := Lib.hid b4
  have HD := Lib.hid hd
  have HP := Lib.hid hp
  have HAL := Lib.hid hal
  have HWT := Lib.hid hwt
  have HR5 := Lib.hid hr5
  have HR6 := Lib.hid hr6
  have HR7 := Lib.hid hr7
  have HR8 := Lib.hid hr8
  have HL5 := Lib.hid hl5
  have HL6 := Lib.hid hl6
  have HL7 := Lib.hid hl7
  have HL8 := Lib.hid hl8
  have HY5 := Lib.hid hby5
  have HY6 := Lib.hid hby6
  have HY7 := Lib.hid hby7
  have HY8 := Lib.hid hby8
  have HWJ := Lib.hid hwj
  have HWM := Lib.hid hwm
  have HWS := Lib.hid hws
  obtain ⟨X5, y5, hx5, hnc5, hcm5⟩ := hr5.open_
  injection hx5 with hxa _ hxb
  subst hxa hxb
  obtain ⟨X6, y6, hx6, hnc6, hcm6⟩ := hr6.open_
  injection hx6 with hxa _ hxb
  subst hxa hxb
  obtain ⟨X7, y7, hx7, hnc7, hcm7⟩ := hr7.open_
  injection hx7 with hxa _ hxb
  subst hxa hxb
  obtain ⟨X8, y8, hx8, hnc8, hcm8⟩ := hr8.open_
  injection hx8 with hxa _ hxb
  subst hxa hxb
  have e1 : ∀ args w, (callFunc 144 args).run Tryz.prog w = .ok (.enter 144 args) w := enters_of Tryz.func144 (by kernel_rfl) rfl
  have e2 : ∀ args w, (callFunc 147 args).run Tryz.prog w = .ok (.enter 147 args) w := enters_of Tryz.func147 (by kernel_rfl) rfl
  have e3 : ∀ args w, (callFunc 149 args).run Tryz.prog w = .ok (.enter 149 args) w := enters_of Tryz.func149 (by kernel_rfl) rfl
  have e4 : ∀ args w, (callFunc 151 args).run Tryz.prog w = .ok (.enter 151 args) w := enters_of Tryz.func151 (by kernel_rfl) rfl
  have E1 := Lib.hid e1
  have E2 := Lib.hid e2
  have E3 := Lib.hid e3
  have E4 := Lib.hid e4
  have EA := Lib.hid ega
  have EI := Lib.hid egi
  clear hN hB hsz b0 b1 b2 b4 hd hp hal hwt hwj hwm hws e1 e2 e3 e4 ega hr5 hl5 hby5 hr6 hl6 hby6 hr7 hl7 hby7 hr8 hl8 hby8
  have hmm := @run_makeMap Tryz.prog
  go_enter Tryz.func86, Tryz.ntmps86
  go_wp2_with fail
  rw [show ((((w.alloc (.cells #[.int .u64 Pp, .int .u64 Dd, .int .u64 Mm, .slice A3 n3 c3, .slice A4 n4 c4, .slice A5 n5 c5, .slice A6 n6 c6, .slice A7 n7 c7, .slice A8 n8 c8, .slice A9 n9 c9, .slice A10 n10 c10, .slice A11 n11 c11] 35)).alloc (.cells #[.func (.func ga) #[] lba] 120)).alloc (.cells #[.int .u64 0, .int .u64 0, .int .u64 0, .slice none 0 0, .slice none 0 0, .slice none 0 0, .slice none 0 0, .slice none 0 0, .slice none 0 0, .slice none 0 0, .slice none 0 0, .slice none 0 0] 35)).alloc (.map #[] 0)).alloc (.cells #[.map (some (w.heap.size + 1 + 1 + 1))] 171) = N from HN.out.symm]
  go_loopw [9, 15] (fun _ i wr => ∃ k : Nat, k ≤ n5 ∧ i = .int .i64 k ∧ Hid (Dead wr (w.heap.size + 1 + 1 + 1) k (deadD p (lt.take k))) ∧ Hid (Mut (fun b => b = w.heap.size + 1 + 1 + 1) N wr)) (fun _ i _ => n5 - (intOf i).toNat)
  case atStart => exact ⟨0, Nat.zero_le _, rfl, HD, Lib.hid (Mut.refl _ _)⟩
  case round =>
    obtain ⟨k, hk, rfl, HDk, HM⟩ := hrel
    have HBW : Hid (Below w.heap.size w wr) := Lib.hid (below_mut HB.out HM.out (fun b hb => by omega))
    by_cases hkn : k < n5
    · have hk1 : k < lt.length := by rw [HL5.out]; exact hkn
      obtain ⟨b, o, rfl, _, hlt, hc⟩ := HR5.out.at_ (by omega)
      have hbl := HBW.out
      have c0 : wr.cell? ⟨b, o + k * 6, none⟩ = some (.int .u64 lt[k].key) := (hbl.cell (p := ⟨b, o + k * 6, none⟩) hlt).trans (by simpa using hc k 0 _ ((flat_at (enc := encTok) lenTok hk1 0 (by decide)).trans rfl))
      have c1 : wr.cell? ⟨b, o + k * 6 + 1, none⟩ = some (.int .u64 lt[k].inst) := (hbl.cell (p := ⟨b, o + k * 6 + 1, none⟩) hlt).trans (by simpa using hc k 1 _ ((flat_at (enc := encTok) lenTok hk1 1 (by decide)).trans rfl))
      have c2 : wr.cell? ⟨b, o + k * 6 + 2, none⟩ = some (.int .u64 lt[k].scope) := (hbl.cell (p := ⟨b, o + k * 6 + 2, none⟩) hlt).trans (by simpa using hc k 2 _ ((flat_at (enc := encTok) lenTok hk1 2 (by decide)).trans rfl))
      have c3 : wr.cell? ⟨b, o + k * 6 + 3, none⟩ = some (.int .i64 lt[k].node) := (hbl.cell (p := ⟨b, o + k * 6 + 3, none⟩) hlt).trans (by simpa using hc k 3 _ ((flat_at (enc := encTok) lenTok hk1 3 (by decide)).trans rfl))
      have c4 : wr.cell? ⟨b, o + k * 6 + 4, none⟩ = some (.int .i64 lt[k].flow) := (hbl.cell (p := ⟨b, o + k * 6 + 4, none⟩) hlt).trans (by simpa using hc k 4 _ ((flat_at (enc := encTok) lenTok hk1 4 (by decide)).trans rfl))
      have c5 : wr.cell? ⟨b, o + k * 6 + 5, none⟩ = some (.string lt[k].stuck) := (hbl.cell (p := ⟨b, o + k * 6 + 5, none⟩) hlt).trans (by simpa using hc k 5 _ ((flat_at (enc := encTok) lenTok hk1 5 (by decide)).trans rfl))
      have hmem : lt[k] ∈ lt := List.getElem_mem hk1
      have htk : lt.take (k + 1) = lt.take k ++ [lt[k]] := by rw [List.take_add_one, List.getElem?_eq_getElem hk1]; rfl
      have hky : n5 * 56 ≤ 140737488355328 := HY5.out
      clear hc
      generalize lt[k] = x at *
      have HTK := Lib.hid htk
      have HMEM := Lib.hid hmem
      have hkey : keyOf Tryz.prog 24 (.int .u64 x.key) = some (.int .u64 x.key) := Go.Maps.keyOf_int_mk Tryz.underlying24 (WalkArith.wf_u64 (HWT.out x hmem))
      have HKEY := Lib.hid hkey
      clear htk hmem hkey hbl
      cases hq : p x with
      | true =>
        have HQ := Lib.hid hq
        go_wp2_with fail
        refine (HP.out _ (below2 HBW.out (vbox_Tok wr x).1) x HMEM.out).mono ?_
        rintro e w1 ⟨rfl, hb1⟩
        rw [hq]
        have hv1 := block_below hb1 (vbox_Tok wr x).2
        have hb2 := below2 (vbox_Tok wr x).1 hb1
        have hm1 := block_below hb2 (HM.out.blk K4.out (by omega))
        have HD1 := Lib.hid (dead_below HDk.out hb2)
        have HM1 : Hid (Mut (fun b => b = w.heap.size + 1 + 1 + 1) N w1) := Lib.hid (HM.out.trans (Mut.of_below hb2 (fun _ => False)) (fun _ _ h => h.elim))
        have m0 := cell_of_blk hm1 0
        have v0 := cell_of_blk hv1 0
        have v1 := cell_of_blk hv1 1
        have v2 := cell_of_blk hv1 2
        have v3 := cell_of_blk hv1 3
        have v4 := cell_of_blk hv1 4
        have v5 := cell_of_blk hv1 5
        clear hv1 hb2 hm1 hb1 hq
        go_wp2_with (at_mapUpdate; refine wpList_mapUpdate_own _ rfl _ _ _ 171 rfl 24 4 law_u64 Tryz.underlying171 _ (w.heap.size + 1 + 1 + 1) k _ rfl HD1.out (by unfold maxLen; omega) _ _ _ rfl rfl HKEY.out _ [] (plainElem_bool Tryz.underlying4 true) ?_; intro w2 hown2 hgrow2; have HD2 := Lib.hid hown2; have HM2 : Hid (Mut (fun b => b = w.heap.size + 1 + 1 + 1) N w2) := Lib.hid (HM1.out.trans (Mut.grown (T := fun b => b = w.heap.size + 1 + 1 + 1) hgrow2 (fun b hb => (Option.some.inj hb).symm)) (fun _ _ h => h)); clear hown2 hgrow2)
        go_roundw
        case rel => exact ⟨k + 1, by omega, by go_num, Lib.hid (by rw [HTK.out, deadD_snoc]; unfold deadStep; rw [if_pos HQ.out]; exact HD2.out), HM2⟩
        case measure => simp [intOf]; omega
      | false =>
        have HQ := Lib.hid hq
        go_wp2_with fail
        refine (HP.out _ (below2 HBW.out (vbox_Tok wr x).1) x HMEM.out).mono ?_
        rintro e w1 ⟨rfl, hb1⟩
        rw [hq]
        have hb2 := below2 (vbox_Tok wr x).1 hb1
        have HD1 := Lib.hid (dead_below HDk.out hb2)
        have HM1 : Hid (Mut (fun b => b = w.heap.size + 1 + 1 + 1) N w1) := Lib.hid (HM.out.trans (Mut.of_below hb2 (fun _ => False)) (fun _ _ h => h.elim))
        clear hb2 hb1 hq
        go_wp2_with fail
        go_roundw
        case rel => exact ⟨k + 1, by omega, by go_num, Lib.hid (by rw [HTK.out, deadD_snoc]; unfold deadStep; rw [if_neg (by rw [HQ.out]; decide)]; exact HD1.out.mono (Nat.le_succ _)), HM1⟩
        case measure => simp [intOf]; omega
    · obtain rfl : k = n5 := by omega
      have hta : lt.take k = lt := by rw [← HL5.out, List.take_length]
      have hws := HM.out.size
      have HST : Hid (GStage w ga lba p lt wr.heap.size k (wr.alloc (.cells #[.func (.func 144) #[] #[.pointer (some ⟨w.heap.size + 1 + 1 + 1 + 1, 0, none⟩), .pointer (some ⟨w.heap.size + 1, 0, none⟩)]] 120))) := Lib.hid ⟨below_alloc HBW.out _, blk_alloc (HM.out.blk K1.out (by omega)) _, blk_alloc (HM.out.blk K4.out (by omega)) _, by have h := HDk.out; rw [hta] at h; exact h.alloc _, blk_alloc (HM.out.blk K2.out (by omega)) _, blk_new _, by have := HSZ.out; omega⟩
      have k0 := blk_alloc (HM.out.blk K0.out (by omega)) (.cells #[.func (.func 144) #[] #[.pointer (some ⟨w.heap.size + 1 + 1 + 1 + 1, 0, none⟩), .pointer (some ⟨w.heap.size + 1, 0, none⟩)]] 120)
      have s0 := cell_of_blk k0 0
      have f0 := frozen_of_blk k0 0
      have s1 := cell_of_blk k0 1
      have f1 := frozen_of_blk k0 1
      have s2 := cell_of_blk k0 2
      have f2 := frozen_of_blk k0 2
      have s3 := cell_of_blk k0 3
      have f3 := frozen_of_blk k0 3
      have s4 := cell_of_blk k0 4
      have f4 := frozen_of_blk k0 4
      have s5 := cell_of_blk k0 5
      have f5 := frozen_of_blk k0 5
      have s6 := cell_of_blk k0 6
      have f6 := frozen_of_blk k0 6
      have s7 := cell_of_blk k0 7
      have f7 := frozen_of_blk k0 7
      have s8 := cell_of_blk k0 8
      have f8 := frozen_of_blk k0 8
      have s9 := cell_of_blk k0 9
      have f9 := frozen_of_blk k0 9
      have s10 := cell_of_blk k0 10
      have f10 := frozen_of_blk k0 10
      have s11 := cell_of_blk k0 11
      have f11 := frozen_of_blk k0 11
      have HK0 := Lib.hid k0
      clear k0 hta hws
      go_wp2_with fail
      generalize wr.alloc (.cells #[.func (.func 144) #[] #[.pointer (some ⟨w.heap.size + 1 + 1 + 1 + 1, 0, none⟩), .pointer (some ⟨w.heap.size + 1, 0, none⟩)]] 120) = V at *
      generalize wr.heap.size = tb at *
      have hsb := HST.out.below.size
      have hfar := HST.out.far
      have HFAR : Hid (w.heap.size + 5 ≤ V.heap.size) := Lib.hid (by have := lt_of_blk HST.out.tbox; omega)
      clear hsb hfar
      refine (without_Tok A5 k c5 gi lbi lt p V S EI.out HL5.out HY5.out (HR5.out.below HST.out.below) (fun W hW x hx => HP.out W (below2 HST.out.below hW) x hx)).mono ?_
      rintro e w5 ⟨B5, d5, rfl, hown, hb⟩
      generalize hm : (lt.filter fun x => !p x).length = m5 at *
      have HM5 := Lib.hid hm
      have HO5 : Hid (w5.ownsRow (w.heap.size + 5) 42 6 (.slice B5 m5 d5) m5 ((lt.filter fun x => !p x).flatMap encTok)) := Lib.hid (own_base hown (by exact HFAR.out))
      have HSW5 := Lib.hid (HST.out.next hb)
      have k0 := block_below hb HK0.out
      have HKW5 := Lib.hid k0
      obtain ⟨_, _, _, hnw5, hcw5⟩ := (Row.of_own hown).open_
      have hsw := hb.size
      have HSZW5 : Hid (V.heap.size ≤ w5.heap.size) := Lib.hid (by omega)
      clear hm hown hb hsw s0 s1 s2 s3 s4 s5 s6 s7 s8 s9 s10 s11 f0 f1 f2 f3 f4 f5 f6 f7 f8 f9 f10 f11
      have s0 := cell_of_blk k0 0
      have f0 := frozen_of_blk k0 0
      have s1 := cell_of_blk k0 1
      have f1 := frozen_of_blk k0 1
      have s2 := cell_of_blk k0 2
      have f2 := frozen_of_blk k0 2
      have s3 := cell_of_blk k0 3
      have f3 := frozen_of_blk k0 3
      have s4 := cell_of_blk k0 4
      have f4 := frozen_of_blk k0 4
      have s5 := cell_of_blk k0 5
      have f5 := frozen_of_blk k0 5
      have s6 := cell_of_blk k0 6
      have f6 := frozen_of_blk k0 6
      have s7 := cell_of_blk k0 7
      have f7 := frozen_of_blk k0 7
      have s8 := cell_of_blk k0 8
      have f8 := frozen_of_blk k0 8
      have s9 := cell_of_blk k0 9
      have f9 := frozen_of_blk k0 9
      have s10 := cell_of_blk k0 10
      have f10 := frozen_of_blk k0 10
      have s11 := cell_of_blk k0 11
      have f11 := frozen_of_blk k0 11
      clear k0
      go_wp2_with fail
      have HSV6 := Lib.hid (HSW5.out.set 5 (.slice B5 m5 d5))
      have HKV6 : Hid ((w5.setCell ⟨w.heap.size, 5, none⟩ (.slice B5 m5 d5)).heap[w.heap.size]? = some (.cells #[.int .u64 Pp, .int .u64 Dd, .int .u64 Mm, .slice A3 n3 c3, .slice A4 n4 c4, .slice B5 m5 d5, .slice A6 n6 c6, .slice A7 n7 c7, .slice A8 n8 c8, .slice A9 n9 c9, .slice A10 n10 c10, .slice A11 n11 c11] 35 (0, 0))) := Lib.hid (set_blk (o := 5) HKW5.out _)
      have HO5 := Lib.hid (own_mut HO5.out (Mut.setCell (T := fun b => b = w.heap.size) (Mut.refl _ _) (p := ⟨w.heap.size, 5, none⟩) (fun _ => rfl) (.slice B5 m5 d5)) (fun b hb h => by have := (HO5.out.lt b hb).1; omega))
      have HSZV6 : Hid (V.heap.size ≤ (w5.setCell ⟨w.heap.size, 5, none⟩ (.slice B5 m5 d5)).heap.size) := Lib.hid (by have := HSZW5.out; simpa [World.setCell] using this)
      generalize w5.setCell ⟨w.heap.size, 5, none⟩ (.slice B5 m5 d5) = V6 at *
      clear s0 s1 s2 s3 s4 s5 s6 s7 s8 s9 s10 s11 f0 f1 f2 f3 f4 f5 f6 f7 f8 f9 f10 f11
      have k0 := HKV6.out
      have s0 := cell_of_blk k0 0
      have f0 := frozen_of_blk k0 0
      have s1 := cell_of_blk k0 1
      have f1 := frozen_of_blk k0 1
      have s2 := cell_of_blk k0 2
      have f2 := frozen_of_blk k0 2
      have s3 := cell_of_blk k0 3
      have f3 := frozen_of_blk k0 3
      have s4 := cell_of_blk k0 4
      have f4 := frozen_of_blk k0 4
      have s5 := cell_of_blk k0 5
      have f5 := frozen_of_blk k0 5
      have s6 := cell_of_blk k0 6
      have f6 := frozen_of_blk k0 6
      have s7 := cell_of_blk k0 7
      have f7 := frozen_of_blk k0 7
      have s8 := cell_of_blk k0 8
      have f8 := frozen_of_blk k0 8
      have s9 := cell_of_blk k0 9
      have f9 := frozen_of_blk k0 9
      have s10 := cell_of_blk k0 10
      have f10 := frozen_of_blk k0 10
      have s11 := cell_of_blk k0 11
      have f11 := frozen_of_blk k0 11
      clear k0
      refine (without_Job A6 n6 c6 147 #[.pointer (some ⟨tb, 0, none⟩)] lj (fun x => deadB p lt x.token || al x.token) V6 S E2.out HL6.out HY6.out (HR6.out.below HSV6.out.below) (fun W hW x hx => p_gone_2 tb 144 #[.pointer (some ⟨w.heap.size + 1 + 1 + 1 + 1, 0, none⟩), .pointer (some ⟨w.heap.size + 1, 0, none⟩)] x (fun k => deadB p lt k || al k) W (cell_of_blk (HSV6.out.next hW).tbox 0) E1.out (fun W' hW' => ((HSV6.out.next hW).next hW').theirs EA.out HAL.out (HWJ.out x hx)))).mono ?_
      rintro e w6 ⟨B6, d6, rfl, hown, hb⟩
      generalize hm : (lj.filter fun x => !(deadB p lt x.token || al x.token)).length = m6 at *
      have HM6 := Lib.hid hm
      have HO6 : Hid (w6.ownsRow (w.heap.size + 5) 52 6 (.slice B6 m6 d6) m6 ((lj.filter fun x => !(deadB p lt x.token || al x.token)).flatMap encJob)) := Lib.hid (own_base hown (by have := HFAR.out; have := HSZV6.out; omega))
      have HSW6 := Lib.hid (HSV6.out.next hb)
      have k0 := block_below hb HKV6.out
      have HKW6 := Lib.hid k0
      obtain ⟨_, _, _, hnw6, hcw6⟩ := (Row.of_own hown).open_
      have HO5 := Lib.hid (own_mut HO5.out (Mut.of_below hb (fun _ => False)) (fun _ _ h => h))
      have hsw := hb.size
      have HSZW6 : Hid (V.heap.size ≤ w6.heap.size) := Lib.hid (by have := HSZV6.out; omega)
      clear hm hown hb hsw s0 s1 s2 s3 s4 s5 s6 s7 s8 s9 s10 s11 f0 f1 f2 f3 f4 f5 f6 f7 f8 f9 f10 f11
      have s0 := cell_of_blk k0 0
      have f0 := frozen_of_blk k0 0
      have s1 := cell_of_blk k0 1
      have f1 := frozen_of_blk k0 1
      have s2 := cell_of_blk k0 2
      have f2 := frozen_of_blk k0 2
      have s3 := cell_of_blk k0 3
      have f3 := frozen_of_blk k0 3
      have s4 := cell_of_blk k0 4
      have f4 := frozen_of_blk k0 4
      have s5 := cell_of_blk k0 5
      have f5 := frozen_of_blk k0 5
      have s6 := cell_of_blk k0 6
      have f6 := frozen_of_blk k0 6
      have s7 := cell_of_blk k0 7
      have f7 := frozen_of_blk k0 7
      have s8 := cell_of_blk k0 8
      have f8 := frozen_of_blk k0 8
      have s9 := cell_of_blk k0 9
      have f9 := frozen_of_blk k0 9
      have s10 := cell_of_blk k0 10
      have f10 := frozen_of_blk k0 10
      have s11 := cell_of_blk k0 11
      have f11 := frozen_of_blk k0 11
      clear k0
      go_wp2_with fail
      have HSV7 := Lib.hid (HSW6.out.set 6 (.slice B6 m6 d6))
      have HKV7 : Hid ((w6.setCell ⟨w.heap.size, 6, none⟩ (.slice B6 m6 d6)).heap[w.heap.size]? = some (.cells #[.int .u64 Pp, .int .u64 Dd, .int .u64 Mm, .slice A3 n3 c3, .slice A4 n4 c4, .slice B5 m5 d5, .slice B6 m6 d6, .slice A7 n7 c7, .slice A8 n8 c8, .slice A9 n9 c9, .slice A10 n10 c10, .slice A11 n11 c11] 35 (0, 0))) := Lib.hid (set_blk (o := 6) HKW6.out _)
      have HO5 := Lib.hid (own_mut HO5.out (Mut.setCell (T := fun b => b = w.heap.size) (Mut.refl _ _) (p := ⟨w.heap.size, 6, none⟩) (fun _ => rfl) (.slice B6 m6 d6)) (fun b hb h => by have := (HO5.out.lt b hb).1; omega))
      have HO6 := Lib.hid (own_mut HO6.out (Mut.setCell (T := fun b => b = w.heap.size) (Mut.refl _ _) (p := ⟨w.heap.size, 6, none⟩) (fun _ => rfl) (.slice B6 m6 d6)) (fun b hb h => by have := (HO6.out.lt b hb).1; omega))
      have HSZV7 : Hid (V.heap.size ≤ (w6.setCell ⟨w.heap.size, 6, none⟩ (.slice B6 m6 d6)).heap.size) := Lib.hid (by have := HSZW6.out; simpa [World.setCell] using this)
      generalize w6.setCell ⟨w.heap.size, 6, none⟩ (.slice B6 m6 d6) = V7 at *
      clear s0 s1 s2 s3 s4 s5 s6 s7 s8 s9 s10 s11 f0 f1 f2 f3 f4 f5 f6 f7 f8 f9 f10 f11
      have k0 := HKV7.out
      have s0 := cell_of_blk k0 0
      have f0 := frozen_of_blk k0 0
      have s1 := cell_of_blk k0 1
      have f1 := frozen_of_blk k0 1
      have s2 := cell_of_blk k0 2
      have f2 := frozen_of_blk k0 2
      have s3 := cell_of_blk k0 3
      have f3 := frozen_of_blk k0 3
      have s4 := cell_of_blk k0 4
      have f4 := frozen_of_blk k0 4
      have s5 := cell_of_blk k0 5
      have f5 := frozen_of_blk k0 5
      have s6 := cell_of_blk k0 6
      have f6 := frozen_of_blk k0 6
      have s7 := cell_of_blk k0 7
      have f7 := frozen_of_blk k0 7
      have s8 := cell_of_blk k0 8
      have f8 := frozen_of_blk k0 8
      have s9 := cell_of_blk k0 9
      have f9 := frozen_of_blk k0 9
      have s10 := cell_of_blk k0 10
      have f10 := frozen_of_blk k0 10
      have s11 := cell_of_blk k0 11
      have f11 := frozen_of_blk k0 11
      clear k0
      refine (without_Tim A7 n7 c7 149 #[.pointer (some ⟨tb, 0, none⟩)] lm (fun x => deadB p lt x.token || al x.token) V7 S E3.out HL7.out HY7.out (HR7.out.below HSV7.out.below) (fun W hW x hx => p_gone_3 tb 144 #[.pointer (some ⟨w.heap.size + 1 + 1 + 1 + 1, 0, none⟩), .pointer (some ⟨w.heap.size + 1, 0, none⟩)] x (fun k => deadB p lt k || al k) W (cell_of_blk (HSV7.out.next hW).tbox 0) E1.out (fun W' hW' => ((HSV7.out.next hW).next hW').theirs EA.out HAL.out (HWM.out x hx)))).mono ?_
      rintro e w7 ⟨B7, d7, rfl, hown, hb⟩
      generalize hm : (lm.filter fun x => !(deadB p lt x.token || al x.token)).length = m7 at *
      have HM7 := Lib.hid hm
      have HO7 : Hid (w7.ownsRow (w.heap.size + 5) 66 3 (.slice B7 m7 d7) m7 ((lm.filter fun x => !(deadB p lt x.token || al x.token)).flatMap encTim)) := Lib.hid (own_base hown (by have := HFAR.out; have := HSZV7.out; omega))
      have HSW7 := Lib.hid (HSV7.out.next hb)
      have k0 := block_below hb HKV7.out
      have HKW7 := Lib.hid k0
      obtain ⟨_, _, _, hnw7, hcw7⟩ := (Row.of_own hown).open_
      have HO5 := Lib.hid (own_mut HO5.out (Mut.of_below hb (fun _ => False)) (fun _ _ h => h))
      have HO6 := Lib.hid (own_mut HO6.out (Mut.of_below hb (fun _ => False)) (fun _ _ h => h))
      have hsw := hb.size
      have HSZW7 : Hid (V.heap.size ≤ w7.heap.size) := Lib.hid (by have := HSZV7.out; omega)
      clear hm hown hb hsw s0 s1 s2 s3 s4 s5 s6 s7 s8 s9 s10 s11 f0 f1 f2 f3 f4 f5 f6 f7 f8 f9 f10 f11
      have s0 := cell_of_blk k0 0
      have f0 := frozen_of_blk k0 0
      have s1 := cell_of_blk k0 1
      have f1 := frozen_of_blk k0 1
      have s2 := cell_of_blk k0 2
      have f2 := frozen_of_blk k0 2
      have s3 := cell_of_blk k0 3
      have f3 := frozen_of_blk k0 3
      have s4 := cell_of_blk k0 4
      have f4 := frozen_of_blk k0 4
      have s5 := cell_of_blk k0 5
      have f5 := frozen_of_blk k0 5
      have s6 := cell_of_blk k0 6
      have f6 := frozen_of_blk k0 6
      have s7 := cell_of_blk k0 7
      have f7 := frozen_of_blk k0 7
      have s8 := cell_of_blk k0 8
      have f8 := frozen_of_blk k0 8
      have s9 := cell_of_blk k0 9
      have f9 := frozen_of_blk k0 9
      have s10 := cell_of_blk k0 10
      have f10 := frozen_of_blk k0 10
      have s11 := cell_of_blk k0 11
      have f11 := frozen_of_blk k0 11
      clear k0
      go_wp2_with fail
      have HSV8 := Lib.hid (HSW7.out.set 7 (.slice B7 m7 d7))
      have HKV8 : Hid ((w7.setCell ⟨w.heap.size, 7, none⟩ (.slice B7 m7 d7)).heap[w.heap.size]? = some (.cells #[.int .u64 Pp, .int .u64 Dd, .int .u64 Mm, .slice A3 n3 c3, .slice A4 n4 c4, .slice B5 m5 d5, .slice B6 m6 d6, .slice B7 m7 d7, .slice A8 n8 c8, .slice A9 n9 c9, .slice A10 n10 c10, .slice A11 n11 c11] 35 (0, 0))) := Lib.hid (set_blk (o := 7) HKW7.out _)
      have HO5 := Lib.hid (own_mut HO5.out (Mut.setCell (T := fun b => b = w.heap.size) (Mut.refl _ _) (p := ⟨w.heap.size, 7, none⟩) (fun _ => rfl) (.slice B7 m7 d7)) (fun b hb h => by have := (HO5.out.lt b hb).1; omega))
      have HO6 := Lib.hid (own_mut HO6.out (Mut.setCell (T := fun b => b = w.heap.size) (Mut.refl _ _) (p := ⟨w.heap.size, 7, none⟩) (fun _ => rfl) (.slice B7 m7 d7)) (fun b hb h => by have := (HO6.out.lt b hb).1; omega))
      have HO7 := Lib.hid (own_mut HO7.out (Mut.setCell (T := fun b => b = w.heap.size) (Mut.refl _ _) (p := ⟨w.heap.size, 7, none⟩) (fun _ => rfl) (.slice B7 m7 d7)) (fun b hb h => by have := (HO7.out.lt b hb).1; omega))
      have HSZV8 : Hid (V.heap.size ≤ (w7.setCell ⟨w.heap.size, 7, none⟩ (.slice B7 m7 d7)).heap.size) := Lib.hid (by have := HSZW7.out; simpa [World.setCell] using this)
      generalize w7.setCell ⟨w.heap.size, 7, none⟩ (.slice B7 m7 d7) = V8 at *
      clear s0 s1 s2 s3 s4 s5 s6 s7 s8 s9 s10 s11 f0 f1 f2 f3 f4 f5 f6 f7 f8 f9 f10 f11
      have k0 := HKV8.out
      have s0 := cell_of_blk k0 0
      have f0 := frozen_of_blk k0 0
      have s1 := cell_of_blk k0 1
      have f1 := frozen_of_blk k0 1
      have s2 := cell_of_blk k0 2
      have f2 := frozen_of_blk k0 2
      have s3 := cell_of_blk k0 3
      have f3 := frozen_of_blk k0 3
      have s4 := cell_of_blk k0 4
      have f4 := frozen_of_blk k0 4
      have s5 := cell_of_blk k0 5
      have f5 := frozen_of_blk k0 5
      have s6 := cell_of_blk k0 6
      have f6 := frozen_of_blk k0 6
      have s7 := cell_of_blk k0 7
      have f7 := frozen_of_blk k0 7
      have s8 := cell_of_blk k0 8
      have f8 := frozen_of_blk k0 8
      have s9 := cell_of_blk k0 9
      have f9 := frozen_of_blk k0 9
      have s10 := cell_of_blk k0 10
      have f10 := frozen_of_blk k0 10
      have s11 := cell_of_blk k0 11
      have f11 := frozen_of_blk k0 11
      clear k0
      refine (without_Sub A8 n8 c8 151 #[.pointer (some ⟨tb, 0, none⟩)] ls (fun x => deadB p lt x.token || al x.token) V8 S E4.out HL8.out HY8.out (HR8.out.below HSV8.out.below) (fun W hW x hx => p_gone_4 tb 144 #[.pointer (some ⟨w.heap.size + 1 + 1 + 1 + 1, 0, none⟩), .pointer (some ⟨w.heap.size + 1, 0, none⟩)] x (fun k => deadB p lt k || al k) W (cell_of_blk (HSV8.out.next hW).tbox 0) E1.out (fun W' hW' => ((HSV8.out.next hW).next hW').theirs EA.out HAL.out (HWS.out x hx)))).mono ?_
      rintro e w8 ⟨B8, d8, rfl, hown, hb⟩
      generalize hm : (ls.filter fun x => !(deadB p lt x.token || al x.token)).length = m8 at *
      have HM8 := Lib.hid hm
      have HO8 : Hid (w8.ownsRow (w.heap.size + 5) 73 6 (.slice B8 m8 d8) m8 ((ls.filter fun x => !(deadB p lt x.token || al x.token)).flatMap encSub)) := Lib.hid (own_base hown (by have := HFAR.out; have := HSZV8.out; omega))
      have HSW8 := Lib.hid (HSV8.out.next hb)
      have k0 := block_below hb HKV8.out
      have HKW8 := Lib.hid k0
      obtain ⟨_, _, _, hnw8, hcw8⟩ := (Row.of_own hown).open_
      have HO5 := Lib.hid (own_mut HO5.out (Mut.of_below hb (fun _ => False)) (fun _ _ h => h))
      have HO6 := Lib.hid (own_mut HO6.out (Mut.of_below hb (fun _ => False)) (fun _ _ h => h))
      have HO7 := Lib.hid (own_mut HO7.out (Mut.of_below hb (fun _ => False)) (fun _ _ h => h))
      have hsw := hb.size
      have HSZW8 : Hid (V.heap.size ≤ w8.heap.size) := Lib.hid (by have := HSZV8.out; omega)
      clear hm hown hb hsw s0 s1 s2 s3 s4 s5 s6 s7 s8 s9 s10 s11 f0 f1 f2 f3 f4 f5 f6 f7 f8 f9 f10 f11
      have s0 := cell_of_blk k0 0
      have f0 := frozen_of_blk k0 0
      have s1 := cell_of_blk k0 1
      have f1 := frozen_of_blk k0 1
      have s2 := cell_of_blk k0 2
      have f2 := frozen_of_blk k0 2
      have s3 := cell_of_blk k0 3
      have f3 := frozen_of_blk k0 3
      have s4 := cell_of_blk k0 4
      have f4 := frozen_of_blk k0 4
      have s5 := cell_of_blk k0 5
      have f5 := frozen_of_blk k0 5
      have s6 := cell_of_blk k0 6
      have f6 := frozen_of_blk k0 6
      have s7 := cell_of_blk k0 7
      have f7 := frozen_of_blk k0 7
      have s8 := cell_of_blk k0 8
      have f8 := frozen_of_blk k0 8
      have s9 := cell_of_blk k0 9
      have f9 := frozen_of_blk k0 9
      have s10 := cell_of_blk k0 10
      have f10 := frozen_of_blk k0 10
      have s11 := cell_of_blk k0 11
      have f11 := frozen_of_blk k0 11
      have k2 := HSW8.out.res
      have z0 := cell_of_blk k2 0
      have g0 := frozen_of_blk k2 0
      have z1 := cell_of_blk k2 1
      have g1 := frozen_of_blk k2 1
      have z2 := cell_of_blk k2 2
      have g2 := frozen_of_blk k2 2
      have z3 := cell_of_blk k2 3
      have g3 := frozen_of_blk k2 3
      have z4 := cell_of_blk k2 4
      have g4 := frozen_of_blk k2 4
      have z5 := cell_of_blk k2 5
      have g5 := frozen_of_blk k2 5
      have z6 := cell_of_blk k2 6
      have g6 := frozen_of_blk k2 6
      have z7 := cell_of_blk k2 7
      have g7 := frozen_of_blk k2 7
      have z8 := cell_of_blk k2 8
      have g8 := frozen_of_blk k2 8
      have z9 := cell_of_blk k2 9
      have g9 := frozen_of_blk k2 9
      have z10 := cell_of_blk k2 10
      have g10 := frozen_of_blk k2 10
      have z11 := cell_of_blk k2 11
      have g11 := frozen_of_blk k2 11
      have KZ := Lib.hid k2
      have HWB := Lib.hid HSW8.out.below
      clear k0 k2
      go_wp2_with fail
      generalize hWE : World.setCell (World.setCell (World.setCell (World.setCell (World.setCell (World.setCell (World.setCell (World.setCell (World.setCell (World.setCell (World.setCell (World.setCell (World.setCell (_) _ _) _ _) _ _) _ _) _ _) _ _) _ _) _ _) _ _) _ _) _ _) _ _) _ _ = WE
      have ho : WE.heap[w.heap.size + 1 + 1]? = some (.cells #[.int .u64 Pp, .int .u64 Dd, .int .u64 Mm, .slice A3 n3 c3, .slice A4 n4 c4, .slice B5 m5 d5, .slice B6 m6 d6, .slice B7 m7 d7, .slice B8 m8 d8, .slice A9 n9 c9, .slice A10 n10 c10, .slice A11 n11 c11] 35 (0, 0)) := by rw [← hWE]; exact set_blk12 (blk_set_other (b := w.heap.size) (o := 8) (KZ.out) (by omega)) (.int .u64 Pp) (.int .u64 Dd) (.int .u64 Mm) (.slice A3 n3 c3) (.slice A4 n4 c4) (.slice B5 m5 d5) (.slice B6 m6 d6) (.slice B7 m7 d7) (.slice B8 m8 d8) (.slice A9 n9 c9) (.slice A10 n10 c10) (.slice A11 n11 c11)
      have hbe : Below w.heap.size w WE := by rw [← hWE]; exact (((((((((((((HWB.out).setCell (p := ⟨w.heap.size, 8, none⟩) (Nat.le_refl _) _).setCell (p := ⟨w.heap.size + 1 + 1, 0, none⟩) (by show _ ≤ _ + 1 + 1; omega) _).setCell (p := ⟨w.heap.size + 1 + 1, 1, none⟩) (by show _ ≤ _ + 1 + 1; omega) _).setCell (p := ⟨w.heap.size + 1 + 1, 2, none⟩) (by show _ ≤ _ + 1 + 1; omega) _).setCell (p := ⟨w.heap.size + 1 + 1, 3, none⟩) (by show _ ≤ _ + 1 + 1; omega) _).setCell (p := ⟨w.heap.size + 1 + 1, 4, none⟩) (by show _ ≤ _ + 1 + 1; omega) _).setCell (p := ⟨w.heap.size + 1 + 1, 5, none⟩) (by show _ ≤ _ + 1 + 1; omega) _).setCell (p := ⟨w.heap.size + 1 + 1, 6, none⟩) (by show _ ≤ _ + 1 + 1; omega) _).setCell (p := ⟨w.heap.size + 1 + 1, 7, none⟩) (by show _ ≤ _ + 1 + 1; omega) _).setCell (p := ⟨w.heap.size + 1 + 1, 8, none⟩) (by show _ ≤ _ + 1 + 1; omega) _).setCell (p := ⟨w.heap.size + 1 + 1, 9, none⟩) (by show _ ≤ _ + 1 + 1; omega) _).setCell (p := ⟨w.heap.size + 1 + 1, 10, none⟩) (by show _ ≤ _ + 1 + 1; omega) _).setCell (p := ⟨w.heap.size + 1 + 1, 11, none⟩) (by show _ ≤ _ + 1 + 1; omega) _
      have hmu : Mut (fun b => b = w.heap.size ∨ b = w.heap.size + 1 + 1) w8 WE := by
        rw [← hWE]
        exact Mut.setCell (T := fun b => b = w.heap.size ∨ b = w.heap.size + 1 + 1) (Mut.setCell (T := fun b => b = w.heap.size ∨ b = w.heap.size + 1 + 1) (Mut.setCell (T := fun b => b = w.heap.size ∨ b = w.heap.size + 1 + 1) (Mut.setCell (T := fun b => b = w.heap.size ∨ b = w.heap.size + 1 + 1) (Mut.setCell (T := fun b => b = w.heap.size ∨ b = w.heap.size + 1 + 1) (Mut.setCell (T := fun b => b = w.heap.size ∨ b = w.heap.size + 1 + 1) (Mut.setCell (T := fun b => b = w.heap.size ∨ b = w.heap.size + 1 + 1) (Mut.setCell (T := fun b => b = w.heap.size ∨ b = w.heap.size + 1 + 1) (Mut.setCell (T := fun b => b = w.heap.size ∨ b = w.heap.size + 1 + 1) (Mut.setCell (T := fun b => b = w.heap.size ∨ b = w.heap.size + 1 + 1) (Mut.setCell (T := fun b => b = w.heap.size ∨ b = w.heap.size + 1 + 1) (Mut.setCell (T := fun b => b = w.heap.size ∨ b = w.heap.size + 1 + 1) (Mut.setCell (T := fun b => b = w.heap.size ∨ b = w.heap.size + 1 + 1) (Mut.refl _ _) (p := ⟨w.heap.size, 8, none⟩) (fun _ => .inl rfl) _) (p := ⟨w.heap.size + 1 + 1, 0, none⟩) (fun _ => .inr rfl) _) (p := ⟨w.heap.size + 1 + 1, 1, none⟩) (fun _ => .inr rfl) _) (p := ⟨w.heap.size + 1 + 1, 2, none⟩) (fun _ => .inr rfl) _) (p := ⟨w.heap.size + 1 + 1, 3, none⟩) (fun _ => .inr rfl) _) (p := ⟨w.heap.size + 1 + 1, 4, none⟩) (fun _ => .inr rfl) _) (p := ⟨w.heap.size + 1 + 1, 5, none⟩) (fun _ => .inr rfl) _) (p := ⟨w.heap.size + 1 + 1, 6, none⟩) (fun _ => .inr rfl) _) (p := ⟨w.heap.size + 1 + 1, 7, none⟩) (fun _ => .inr rfl) _) (p := ⟨w.heap.size + 1 + 1, 8, none⟩) (fun _ => .inr rfl) _) (p := ⟨w.heap.size + 1 + 1, 9, none⟩) (fun _ => .inr rfl) _) (p := ⟨w.heap.size + 1 + 1, 10, none⟩) (fun _ => .inr rfl) _) (p := ⟨w.heap.size + 1 + 1, 11, none⟩) (fun _ => .inr rfl) _
      have r0 := cell_of_blk ho 0
      have r1 := cell_of_blk ho 1
      have r2 := cell_of_blk ho 2
      have r3 := cell_of_blk ho 3
      have r4 := cell_of_blk ho 4
      have r5 := cell_of_blk ho 5
      have r6 := cell_of_blk ho 6
      have r7 := cell_of_blk ho 7
      have r8 := cell_of_blk ho 8
      have r9 := cell_of_blk ho 9
      have r10 := cell_of_blk ho 10
      have r11 := cell_of_blk ho 11
      have hon5 := own_base (own_mut HO5.out hmu (fun b hb h => by have := (HO5.out.lt b hb).1; omega)) (show w.heap.size ≤ w.heap.size + 5 by omega)
      have hon6 := own_base (own_mut HO6.out hmu (fun b hb h => by have := (HO6.out.lt b hb).1; omega)) (show w.heap.size ≤ w.heap.size + 5 by omega)
      have hon7 := own_base (own_mut HO7.out hmu (fun b hb h => by have := (HO7.out.lt b hb).1; omega)) (show w.heap.size ≤ w.heap.size + 5 by omega)
      have hon8 := own_base (own_mut HO8.out hmu (fun b hb h => by have := (HO8.out.lt b hb).1; omega)) (show w.heap.size ≤ w.heap.size + 5 by omega)
      refine bodyPost_ret (v := .agg #[.int .u64 Pp, .int .u64 Dd, .int .u64 Mm, .slice A3 n3 c3, .slice A4 n4 c4, .slice B5 m5 d5, .slice B6 m6 d6, .slice B7 m7 d7, .slice B8 m8 d8, .slice A9 n9 c9, .slice A10 n10 c10, .slice A11 n11 c11]) (by simp [results, Tryz.results86, go_sem, r0, r1, r2, r3, r4, r5, r6, r7, r8, r9, r10, r11]) rfl ⟨B5, m5, d5, B6, m6, d6, B7, m7, d7, B8, m8, d8, rfl, HM5.out.symm, hon5, HM6.out.symm, hon6, HM7.out.symm, hon7, HM8.out.symm, hon8, hbe⟩
end Go.Proofs.YtgpkmellpllmgaaGreat
/-
  fold.left, fold.ended. Printed by gfold2.py.
-/
set_option linter.unusedVariables false
set_option linter.unusedSimpArgs false
namespace Go.Proofs.YtgpkmellpllmgaaGreat
open Go Go.RowKit Go.Proofs.Base
open Go.Sort (grow)
set_option maxRecDepth 100000 in
set_option maxHeartbeats 4000000 in
theorem ev_left (Pp Dd Mm : Int) (A3 : Option Addr) (n3 c3 : Nat) (A4 : Option Addr) (n4 c4 : Nat) (A5 : Option Addr) (n5 c5 : Nat) (A6 : Option Addr) (n6 c6 : Nat) (A7 : Option Addr) (n7 c7 : Nat) (A8 : Option Addr) (n8 c8 : Nat) (A9 : Option Addr) (n9 c9 : Nat) (A10 : Option Addr) (n10 c10 : Nat) (A11 : Option Addr) (n11 c11 : Nat) (r : GRec) (vA : Option Addr) (vN vC : Nat) (lt : List ETok) (lj : List EJob) (lm : List ETim) (ls : List ESub) (w : World) (S : Nat → Prop)
    (hl5 : lt.length = n5) (hby5 : n5 * 56 ≤ 140737488355328) (hr5 : Row w S 6 n5 (.slice A5 n5 c5) (lt.flatMap encTok))
    (hl6 : lj.length = n6) (hby6 : n6 * 64 ≤ 140737488355328) (hr6 : Row w S 6 n6 (.slice A6 n6 c6) (lj.flatMap encJob))
    (hl7 : lm.length = n7) (hby7 : n7 * 24 ≤ 140737488355328) (hr7 : Row w S 3 n7 (.slice A7 n7 c7) (lm.flatMap encTim))
    (hl8 : ls.length = n8) (hby8 : n8 * 64 ≤ 140737488355328) (hr8 : Row w S 6 n8 (.slice A8 n8 c8) (ls.flatMap encSub))
    (hwt : ∀ x ∈ lt, u64 x.key) (hwj : ∀ x ∈ lj, u64 x.token) (hwm : ∀ x ∈ lm, u64 x.token) (hws : ∀ x ∈ ls, u64 x.token) :
    Calls Tryz.prog 57 #[.agg #[.int .u64 Pp, .int .u64 Dd, .int .u64 Mm, .slice A3 n3 c3, .slice A4 n4 c4, .slice A5 n5 c5, .slice A6 n6 c6, .slice A7 n7 c7, .slice A8 n8 c8, .slice A9 n9 c9, .slice A10 n10 c10, .slice A11 n11 c11], .agg #[.int .i64 r.cls, .int .i64 r.kind, .int .u64 r.frm, .int .i64 r.time, .int .u64 r.key, .int .u64 r.key2, .int .u64 r.key3, .int .i64 r.n, .int .i64 r.m, .string r.a, .string r.b, .string r.c, .slice vA vN vC]] w fun e w' => ∃ B5 m5 d5 B6 m6 d6 B7 m7 d7 B8 m8 d8, e = .returned (.agg #[.int .u64 Pp, .int .u64 Dd, .int .u64 Mm, .slice A3 n3 c3, .slice A4 n4 c4, .slice B5 m5 d5, .slice B6 m6 d6, .slice B7 m7 d7, .slice B8 m8 d8, .slice A9 n9 c9, .slice A10 n10 c10, .slice A11 n11 c11]) ∧ m5 = (lt.filter fun x => !(fun x : ETok => x.key == r.key) x).length ∧ w'.ownsRow w.heap.size 42 6 (.slice B5 m5 d5) m5 ((lt.filter fun x => !(fun x : ETok => x.key == r.key) x).flatMap encTok) ∧ m6 = (lj.filter fun x => !(deadB (fun x : ETok => x.key == r.key) lt x.token || x.token == r.key)).length ∧ w'.ownsRow w.heap.size 52 6 (.slice B6 m6 d6) m6 ((lj.filter fun x => !(deadB (fun x : ETok => x.key == r.key) lt x.token || x.token == r.key)).flatMap encJob) ∧ m7 = (lm.filter fun x => !(deadB (fun x : ETok => x.key == r.key) lt x.token || x.token == r.key)).length ∧ w'.ownsRow w.heap.size 66 3 (.slice B7 m7 d7) m7 ((lm.filter fun x => !(deadB (fun x : ETok => x.key == r.key) lt x.token || x.token == r.key)).flatMap encTim) ∧ m8 = (ls.filter fun x => !(deadB (fun x : ETok => x.key == r.key) lt x.token || x.token == r.key)).length ∧ w'.ownsRow w.heap.size 73 6 (.slice B8 m8 d8) m8 ((ls.filter fun x => !(deadB (fun x : ETok => x.key == r.key) lt x.token || x.token == r.key)).flatMap encSub) ∧ Below w.heap.size w w' := by
  obtain ⟨N, hN⟩ : ∃ N, N = ((w.alloc (.cells #[.int .u64 Pp, .int .u64 Dd, .int .u64 Mm, .slice A3 n3 c3, .slice A4 n4 c4, .slice A5 n5 c5, .slice A6 n6 c6, .slice A7 n7 c7, .slice A8 n8 c8, .slice A9 n9 c9, .slice A10 n10 c10, .slice A11 n11 c11] 35)).alloc (.cells #[.int .i64 r.cls, .int .i64 r.kind, .int .u64 r.frm, .int .i64 r.time, .int .u64 r.key, .int .u64 r.key2, .int .u64 r.key3, .int .i64 r.n, .int .i64 r.m, .string r.a, .string r.b, .string r.c, .slice vA vN vC] 39)).alloc (.cells #[.int .u64 0, .int .u64 0, .int .u64 0, .slice none 0 0, .slice none 0 0, .slice none 0 0, .slice none 0 0, .slice none 0 0, .slice none 0 0, .slice none 0 0, .slice none 0 0, .slice none 0 0] 35) := ⟨_, rfl⟩
  have b0 : N.heap[w.heap.size]? = some (.cells #[.int .u64 Pp, .int .u64 Dd, .int .u64 Mm, .slice A3 n3 c3, .slice A4 n4 c4, .slice A5 n5 c5, .slice A6 n6 c6, .slice A7 n7 c7, .slice A8 n8 c8, .slice A9 n9 c9, .slice A10 n10 c10, .slice A11 n11 c11] 35 (0, 0)) := by rw [hN]; exact blk_alloc (blk_alloc (blk_new _) _) _
  have b1 : recB N (w.heap.size + 1) r vA vN vC := by rw [hN]; exact blk_alloc (blk_new_of _ (by simp)) _
  have b2 : N.heap[w.heap.size + 1 + 1]? = some (.cells #[.int .u64 0, .int .u64 0, .int .u64 0, .slice none 0 0, .slice none 0 0, .slice none 0 0, .slice none 0 0, .slice none 0 0, .slice none 0 0, .slice none 0 0, .slice none 0 0, .slice none 0 0] 35 (0, 0)) := by rw [hN]; exact blk_new_of _ (by simp)
  have hB : Below w.heap.size w N := by rw [hN]; exact below_alloc (below_alloc (below_alloc (Below.refl _ _) _) _) _
  have hsz : N.heap.size = w.heap.size + 3 := by rw [hN]; simp
  have HN := Lib.hid hN
  have HB := Lib.hid hB
  have HSZ := Lib.hid hsz
  have K0 := Lib.hid b0
  have K1 := Lib.hid b1
  have K2 := Lib.hid b2
  have eg : ∀ args w, (callFunc 87 args).run Tryz.prog w = .ok (.enter 87 args) w := enters_of Tryz.func87 (by kernel_rfl) rfl
  have eg2 : ∀ args w, (callFunc 88 args).run Tryz.prog w = .ok (.enter 88 args) w := enters_of Tryz.func88 (by kernel_rfl) rfl
  have HG := Lib.hid (ev_gone Pp Dd Mm A3 n3 c3 A4 n4 c4 A5 n5 c5 A6 n6 c6 A7 n7 c7 A8 n8 c8 A9 n9 c9 A10 n10 c10 A11 n11 c11 87 88 #[.pointer (some ⟨w.heap.size + 1, 0, none⟩)] #[.pointer (some ⟨w.heap.size + 1, 0, none⟩)] (fun x : ETok => x.key == r.key) (fun k => k == r.key) lt lj lm ls N S eg eg2 hl5 hby5 (hr5.below hB) hl6 hby6 (hr6.below hB) hl7 hby7 (hr7.below hB) hl8 hby8 (hr8.below hB) hwt hwj hwm hws
    (fun W hW x _ => p_left_1 _ x r vA vN vC W (block_below hW b1)) (fun W hW k _ => p_left_2 _ k r vA vN vC W (block_below hW b1)))
  clear hN hB hsz b0 b1 b2 eg eg2 hwt hwj hwm hws hl5 hby5 hr5 hl6 hby6 hr6 hl7 hby7 hr7 hl8 hby8 hr8
  have k0 := K0.out
  go_enter Tryz.func57, Tryz.ntmps57
  go_wp2_with fail
  rw [show ((w.alloc (.cells #[.int .u64 Pp, .int .u64 Dd, .int .u64 Mm, .slice A3 n3 c3, .slice A4 n4 c4, .slice A5 n5 c5, .slice A6 n6 c6, .slice A7 n7 c7, .slice A8 n8 c8, .slice A9 n9 c9, .slice A10 n10 c10, .slice A11 n11 c11] 35)).alloc (.cells #[.int .i64 r.cls, .int .i64 r.kind, .int .u64 r.frm, .int .i64 r.time, .int .u64 r.key, .int .u64 r.key2, .int .u64 r.key3, .int .i64 r.n, .int .i64 r.m, .string r.a, .string r.b, .string r.c, .slice vA vN vC] 39)).alloc (.cells #[.int .u64 0, .int .u64 0, .int .u64 0, .slice none 0 0, .slice none 0 0, .slice none 0 0, .slice none 0 0, .slice none 0 0, .slice none 0 0, .slice none 0 0, .slice none 0 0, .slice none 0 0] 35) = N from HN.out.symm]
  have s0 := cell_of_blk k0 0
  have s1 := cell_of_blk k0 1
  have s2 := cell_of_blk k0 2
  have s3 := cell_of_blk k0 3
  have s4 := cell_of_blk k0 4
  have s5 := cell_of_blk k0 5
  have s6 := cell_of_blk k0 6
  have s7 := cell_of_blk k0 7
  have s8 := cell_of_blk k0 8
  have s9 := cell_of_blk k0 9
  have s10 := cell_of_blk k0 10
  have s11 := cell_of_blk k0 11
  clear k0
  go_wp2_with fail
  refine HG.out.mono ?_
  rintro e w2 ⟨B5, m5, d5, B6, m6, d6, B7, m7, d7, B8, m8, d8, rfl, hm5, ho5, hm6, ho6, hm7, ho7, hm8, ho8, hb⟩
  have HM5 := Lib.hid hm5
  have HO5 := Lib.hid ho5
  obtain ⟨_, _, _, hnw5, hcw5⟩ := (Row.of_own ho5).open_
  have HM6 := Lib.hid hm6
  have HO6 := Lib.hid ho6
  obtain ⟨_, _, _, hnw6, hcw6⟩ := (Row.of_own ho6).open_
  have HM7 := Lib.hid hm7
  have HO7 := Lib.hid ho7
  obtain ⟨_, _, _, hnw7, hcw7⟩ := (Row.of_own ho7).open_
  have HM8 := Lib.hid hm8
  have HO8 := Lib.hid ho8
  obtain ⟨_, _, _, hnw8, hcw8⟩ := (Row.of_own ho8).open_
  have HWB := Lib.hid (below2 HB.out hb)
  have k2 := block_below hb K2.out
  clear hb hm5 ho5 hm6 ho6 hm7 ho7 hm8 ho8 s0 s1 s2 s3 s4 s5 s6 s7 s8 s9 s10 s11
  have z0 := cell_of_blk k2 0
  have z1 := cell_of_blk k2 1
  have z2 := cell_of_blk k2 2
  have z3 := cell_of_blk k2 3
  have z4 := cell_of_blk k2 4
  have z5 := cell_of_blk k2 5
  have z6 := cell_of_blk k2 6
  have z7 := cell_of_blk k2 7
  have z8 := cell_of_blk k2 8
  have z9 := cell_of_blk k2 9
  have z10 := cell_of_blk k2 10
  have z11 := cell_of_blk k2 11
  have g0 := frozen_of_blk k2 0
  have g1 := frozen_of_blk k2 1
  have g2 := frozen_of_blk k2 2
  have g3 := frozen_of_blk k2 3
  have g4 := frozen_of_blk k2 4
  have g5 := frozen_of_blk k2 5
  have g6 := frozen_of_blk k2 6
  have g7 := frozen_of_blk k2 7
  have g8 := frozen_of_blk k2 8
  have g9 := frozen_of_blk k2 9
  have g10 := frozen_of_blk k2 10
  have g11 := frozen_of_blk k2 11
  have KZ := Lib.hid k2
  clear k2
  go_wp2_with fail
  generalize hWE : World.setCell (World.setCell (World.setCell (World.setCell (World.setCell (World.setCell (World.setCell (World.setCell (World.setCell (World.setCell (World.setCell (World.setCell (_) _ _) _ _) _ _) _ _) _ _) _ _) _ _) _ _) _ _) _ _) _ _) _ _ = WE
  have ho : WE.heap[w.heap.size + 1 + 1]? = some (.cells #[.int .u64 Pp, .int .u64 Dd, .int .u64 Mm, .slice A3 n3 c3, .slice A4 n4 c4, .slice B5 m5 d5, .slice B6 m6 d6, .slice B7 m7 d7, .slice B8 m8 d8, .slice A9 n9 c9, .slice A10 n10 c10, .slice A11 n11 c11] 35 (0, 0)) := by rw [← hWE]; exact set_blk12 (KZ.out) (.int .u64 Pp) (.int .u64 Dd) (.int .u64 Mm) (.slice A3 n3 c3) (.slice A4 n4 c4) (.slice B5 m5 d5) (.slice B6 m6 d6) (.slice B7 m7 d7) (.slice B8 m8 d8) (.slice A9 n9 c9) (.slice A10 n10 c10) (.slice A11 n11 c11)
  have hbe : Below w.heap.size w WE := by rw [← hWE]; exact ((((((((((((HWB.out).setCell (p := ⟨w.heap.size + 1 + 1, 0, none⟩) (by show _ ≤ _ + 1 + 1; omega) _).setCell (p := ⟨w.heap.size + 1 + 1, 1, none⟩) (by show _ ≤ _ + 1 + 1; omega) _).setCell (p := ⟨w.heap.size + 1 + 1, 2, none⟩) (by show _ ≤ _ + 1 + 1; omega) _).setCell (p := ⟨w.heap.size + 1 + 1, 3, none⟩) (by show _ ≤ _ + 1 + 1; omega) _).setCell (p := ⟨w.heap.size + 1 + 1, 4, none⟩) (by show _ ≤ _ + 1 + 1; omega) _).setCell (p := ⟨w.heap.size + 1 + 1, 5, none⟩) (by show _ ≤ _ + 1 + 1; omega) _).setCell (p := ⟨w.heap.size + 1 + 1, 6, none⟩) (by show _ ≤ _ + 1 + 1; omega) _).setCell (p := ⟨w.heap.size + 1 + 1, 7, none⟩) (by show _ ≤ _ + 1 + 1; omega) _).setCell (p := ⟨w.heap.size + 1 + 1, 8, none⟩) (by show _ ≤ _ + 1 + 1; omega) _).setCell (p := ⟨w.heap.size + 1 + 1, 9, none⟩) (by show _ ≤ _ + 1 + 1; omega) _).setCell (p := ⟨w.heap.size + 1 + 1, 10, none⟩) (by show _ ≤ _ + 1 + 1; omega) _).setCell (p := ⟨w.heap.size + 1 + 1, 11, none⟩) (by show _ ≤ _ + 1 + 1; omega) _
  have hmu : Mut (fun b => b = w.heap.size ∨ b = w.heap.size + 1 + 1) w2 WE := by
    rw [← hWE]
    exact Mut.setCell (T := fun b => b = w.heap.size ∨ b = w.heap.size + 1 + 1) (Mut.setCell (T := fun b => b = w.heap.size ∨ b = w.heap.size + 1 + 1) (Mut.setCell (T := fun b => b = w.heap.size ∨ b = w.heap.size + 1 + 1) (Mut.setCell (T := fun b => b = w.heap.size ∨ b = w.heap.size + 1 + 1) (Mut.setCell (T := fun b => b = w.heap.size ∨ b = w.heap.size + 1 + 1) (Mut.setCell (T := fun b => b = w.heap.size ∨ b = w.heap.size + 1 + 1) (Mut.setCell (T := fun b => b = w.heap.size ∨ b = w.heap.size + 1 + 1) (Mut.setCell (T := fun b => b = w.heap.size ∨ b = w.heap.size + 1 + 1) (Mut.setCell (T := fun b => b = w.heap.size ∨ b = w.heap.size + 1 + 1) (Mut.setCell (T := fun b => b = w.heap.size ∨ b = w.heap.size + 1 + 1) (Mut.setCell (T := fun b => b = w.heap.size ∨ b = w.heap.size + 1 + 1) (Mut.setCell (T := fun b => b = w.heap.size ∨ b = w.heap.size + 1 + 1) (Mut.refl _ _) (p := ⟨w.heap.size + 1 + 1, 0, none⟩) (fun _ => .inr rfl) _) (p := ⟨w.heap.size + 1 + 1, 1, none⟩) (fun _ => .inr rfl) _) (p := ⟨w.heap.size + 1 + 1, 2, none⟩) (fun _ => .inr rfl) _) (p := ⟨w.heap.size + 1 + 1, 3, none⟩) (fun _ => .inr rfl) _) (p := ⟨w.heap.size + 1 + 1, 4, none⟩) (fun _ => .inr rfl) _) (p := ⟨w.heap.size + 1 + 1, 5, none⟩) (fun _ => .inr rfl) _) (p := ⟨w.heap.size + 1 + 1, 6, none⟩) (fun _ => .inr rfl) _) (p := ⟨w.heap.size + 1 + 1, 7, none⟩) (fun _ => .inr rfl) _) (p := ⟨w.heap.size + 1 + 1, 8, none⟩) (fun _ => .inr rfl) _) (p := ⟨w.heap.size + 1 + 1, 9, none⟩) (fun _ => .inr rfl) _) (p := ⟨w.heap.size + 1 + 1, 10, none⟩) (fun _ => .inr rfl) _) (p := ⟨w.heap.size + 1 + 1, 11, none⟩) (fun _ => .inr rfl) _
  have r0 := cell_of_blk ho 0
  have r1 := cell_of_blk ho 1
  have r2 := cell_of_blk ho 2
  have r3 := cell_of_blk ho 3
  have r4 := cell_of_blk ho 4
  have r5 := cell_of_blk ho 5
  have r6 := cell_of_blk ho 6
  have r7 := cell_of_blk ho 7
  have r8 := cell_of_blk ho 8
  have r9 := cell_of_blk ho 9
  have r10 := cell_of_blk ho 10
  have r11 := cell_of_blk ho 11
  have hon5 := own_base (own_mut HO5.out hmu (fun b hb h => by have := (HO5.out.lt b hb).1; have := HSZ.out; omega)) (show w.heap.size ≤ N.heap.size by have := HSZ.out; omega)
  have hon6 := own_base (own_mut HO6.out hmu (fun b hb h => by have := (HO6.out.lt b hb).1; have := HSZ.out; omega)) (show w.heap.size ≤ N.heap.size by have := HSZ.out; omega)
  have hon7 := own_base (own_mut HO7.out hmu (fun b hb h => by have := (HO7.out.lt b hb).1; have := HSZ.out; omega)) (show w.heap.size ≤ N.heap.size by have := HSZ.out; omega)
  have hon8 := own_base (own_mut HO8.out hmu (fun b hb h => by have := (HO8.out.lt b hb).1; have := HSZ.out; omega)) (show w.heap.size ≤ N.heap.size by have := HSZ.out; omega)
  refine bodyPost_ret (v := .agg #[.int .u64 Pp, .int .u64 Dd, .int .u64 Mm, .slice A3 n3 c3, .slice A4 n4 c4, .slice B5 m5 d5, .slice B6 m6 d6, .slice B7 m7 d7, .slice B8 m8 d8, .slice A9 n9 c9, .slice A10 n10 c10, .slice A11 n11 c11]) (by simp [results, Tryz.results57, go_sem, r0, r1, r2, r3, r4, r5, r6, r7, r8, r9, r10, r11]) rfl ⟨B5, m5, d5, B6, m6, d6, B7, m7, d7, B8, m8, d8, rfl, HM5.out, hon5, HM6.out, hon6, HM7.out, hon7, HM8.out, hon8, hbe⟩
end Go.Proofs.YtgpkmellpllmgaaGreat
