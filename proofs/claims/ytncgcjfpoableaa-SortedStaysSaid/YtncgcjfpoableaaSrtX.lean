/-
  The reference's map: Range.
-/
import Derived.Test.YtncgcjfpoableaaSrtW
import Derived.Test.YtncgcjfpoableaaSrtR
set_option linter.unusedVariables false
set_option linter.unusedSimpArgs false
namespace Go.Proofs.Ytncgcjfpoableaa.refM
open Go Go.RowKit Go.Proofs.Base Go.Proofs.Ytncgcjfpoableaa
open Go.Proofs.Ytncgcjfpoableaa.srtI (RangedTo)
theorem own_same {w X Y : World} {base e size n : Nat} {v : Value} {xs : List Value} (h : X.ownsRow base e size v n xs) (hb : Below X.heap.size X Y) : Y.ownsRow base e size v n xs := own_mut h (Mut.of_below hb (fun _ => False)) (fun _ _ h => h)
theorem take_filter_yes {α : Type} (p : α → Bool) {l : List α} {j : Nat} {x : α} (hj : j < l.length) (hx : l[j] = x) (h : p x = true) : (l.take (j + 1)).filter p = (l.take j).filter p ++ [x] := by
  rw [List.take_succ_eq_append_getElem hj, List.filter_append, hx, List.filter_cons_of_pos h]; rfl
theorem take_filter_no {α : Type} (p : α → Bool) {l : List α} {j : Nat} {x : α} (hj : j < l.length) (hx : l[j] = x) (h : p x = false) : (l.take (j + 1)).filter p = (l.take j).filter p := by
  rw [List.take_succ_eq_append_getElem hj, List.filter_append, hx, List.filter_cons_of_neg (by simp [h])]; simp
theorem filter_len {α : Type} (p : α → Bool) (l : List α) (j : Nat) : ((l.take j).filter p).length ≤ j := Nat.le_trans (List.length_filter_le _ _) (List.length_take_le _ _)
set_option maxRecDepth 100000 in
set_option maxHeartbeats 4000000 in
theorem range_1 (B : Nat → Prop) (r : Nat) (kind : Int) (h2 : kind ≠ 2) (h3 : kind ≠ 3) (h4 : kind ≠ 4) (k : ByteArray) (l : List (KV Int)) (w : World) (h : RMapP w B r l) (hk : k.size ≤ 9223372036854775807) (ho : KeysOk l) (hn : l.length ≤ 8796093022208) :
    Calls Try.prog 21 #[.pointer (some ⟨r, 0, none⟩), .int .i64 kind, .string k] w (RangedTo (l) w) := by
  have q2 := beq_f h2
  have q3 := beq_f h3
  have q4 := beq_f h4
  clear h2 h3 h4
  obtain ⟨_, _, A, c, A', c', hb, hK, hV⟩ := h
  obtain ⟨_, _, e, hnc, hcm⟩ := id hK.open_
  injection e with e1 _ e2
  subst e1 e2
  obtain ⟨_, _, e, hnc', hcm'⟩ := id hV.open_
  injection e with e1 _ e2
  subst e1 e2
  have HB := Lib.hid hb
  have HK := Lib.hid hK
  have HV := Lib.hid hV
  have HO := Lib.hid ho
  clear hb hK hV ho
  go_enter Try.func21, Try.ntmps21
  have hd0 := cell_of_blk HB.out 0
  go_wp2
  clear hd0
  go_loopw [8, 9, 11] (fun kv vv i wr => ∃ j : Nat, j ≤ l.length ∧ i = .int .i64 j ∧ Hid (wr.ownsRow w.heap.size 9 1 kv (((l).take j).filter (fun _ => true)).length (keysV (((l).take j).filter (fun _ => true))) ∧ wr.ownsRow w.heap.size 3 1 vv (((l).take j).filter (fun _ => true)).length (intsV (((l).take j).filter (fun _ => true)))) ∧ Below w.heap.size w wr) (fun _ _ i _ => l.length - (intOf i).toNat)
  case atStart => exact ⟨0, Nat.zero_le _, rfl, Lib.hid ⟨by simpa [keysV] using own_nil _ _ _ _, by simpa [intsV] using own_nil _ _ _ _⟩, Below.refl _ _⟩
  case round =>
    obtain ⟨j, hj, rfl, HR, hbl⟩ := hrel
    have HBL := Lib.hid hbl
    by_cases hlt : j < l.length
    · have hat : j < l.length := by omega
      obtain ⟨b, o, rfl, c0⟩ := (HK.out.below hbl).key_at hat
      obtain ⟨b', o', rfl, c1⟩ := (HV.out.below hbl).int_at hat
      have hkj := HO.out _ (List.getElem_mem hat)
      have hjs : j < (l).length := by first | exact hlt | (rw [List.length_reverse]; exact hlt)
      have hsx : (l)[j] = l[j] := by first | rfl | (rw [List.getElem_reverse])
      have HFY := fun h => Lib.hid (take_filter_yes (fun _ => true) hjs hsx h)
      have HFN := fun h => Lib.hid (take_filter_no (fun _ => true) hjs hsx h)
      have hfl := filter_len (fun _ => true) (l) j
      have HX2 : Hid (∀ W, Below w.heap.size w W → W.cell? ⟨b', o' + j, none⟩ = some (.int .i64 l[j].2)) := Lib.hid (fun W hW => by obtain ⟨b2, o2, e2, c2⟩ := (HV.out.below hW).int_at hat; cases e2; exact c2)
      generalize l[j] = x at *
      have HFL := Lib.hid hfl
      have hL := ref_Less x.1 k wr hkj hk
      have hBg := fun W => ref_Begins x.1 k W
      have HC0 := Lib.hid c0
      have HC1 := Lib.hid c1
      have HX1 : Hid (∀ W, Below w.heap.size w W → W.cell? ⟨b', o' + j, none⟩ = some (.int .i64 x.2)) := Lib.hid (fun W hW => HX2.out W hW)
      have d0 := cell_of_blk (block_below hbl HB.out) 0
      generalize hcur : ((l).take j).filter (fun _ => true) = cur at *
      clear hbl hkj hfl hsx hcur c1
      · have HF := HFY rfl
        clear HFY HFN
        go_wp2_with (first
          | (go_at_call 14; refine hL.mono ?_; rintro e w1 ⟨rfl, hb1⟩; have d01 := cell_of_blk (block_below hb1 (block_below HBL.out HB.out)) 0; have d11 := cell_of_blk (block_below hb1 (block_below HBL.out HB.out)) 1; have c01 := cell_below hb1 HC0.out; have c11 := cell_below hb1 HC1.out; have HB1 := Lib.hid (below2 HBL.out hb1); have HR1 := Lib.hid (And.intro (own_same (w := w) HR.out.1 hb1) (own_same (w := w) HR.out.2 hb1)); clear hb1 d0 c0)
          | (go_at_call 23; refine (hBg _).mono ?_; rintro e w2 ⟨rfl, rfl⟩)
          | (at_builtin; refine wp_app_row eS (by decide) rfl (.tmp 63) (.tmp 71) rfl w.heap.size _ cur.length _ rfl (HR1.out.1.alloc _) (fun g => g = w1.heap.size) _ 1 1 _ rfl (Row.new w1 1 1 (keysV [x]) _ rfl (by simp [maxLen])) (keysV_one _) (by have := HFL.out; omega) (by have := HFL.out; omega) (below_alloc HB1.out _).size ?_; intro v3 w3 own3 hg3; rw [refM.keysV_app] at own3; have hbb3 := own_grow (HR1.out.1.alloc (.cells (keysV [x]).toArray 9)) (below_alloc HB1.out _) (below_alloc HB1.out _).size hg3; have HI3 := Lib.hid (own_mut (HR1.out.2.alloc (.cells (keysV [x]).toArray 9)) (Mut.grown hg3 (fun b h => h)) (fun b hb h => own_ne (HR1.out.1.alloc (.cells (keysV [x]).toArray 9)) (HR1.out.2.alloc (.cells (keysV [x]).toArray 9)) (by decide) h hb)); have d13 := cell_of_blk (block_below hbb3 HB.out) 1; have c13 := HX1.out _ hbb3; have HB3 := Lib.hid hbb3; have HO3 := Lib.hid own3; clear hbb3 own3 d11 c11 d01 c01)
          | (at_builtin; refine wp_app_row eI (by decide) rfl (.tmp 73) (.tmp 81) rfl w.heap.size _ cur.length _ rfl (HI3.out.alloc _) (fun g => g = w3.heap.size) _ 1 1 _ rfl (Row.new w3 1 1 (intsV [x]) _ rfl (by simp [maxLen])) (intsV_one _) (by have := HFL.out; omega) (by have := HFL.out; omega) (below_alloc HB3.out _).size ?_; intro v4 w4 own4 hg4; rw [refM.intsV_app] at own4; have hbb4 := own_grow (HI3.out.alloc (.cells (intsV [x]).toArray 3)) (below_alloc HB3.out _) (below_alloc HB3.out _).size hg4; have HK4 := Lib.hid (own_mut (HO3.out.alloc (.cells (intsV [x]).toArray 3)) (Mut.grown hg4 (fun b h => h)) (fun b hb h => own_ne (HI3.out.alloc (.cells (intsV [x]).toArray 3)) (HO3.out.alloc (.cells (intsV [x]).toArray 3)) (by decide) h hb)); have HB4 := Lib.hid hbb4; have HO4 := Lib.hid own4; clear hbb4 hg4 own4 d13 c13))
        go_roundw
        case rel => exact ⟨j + 1, by omega, by go_num, Lib.hid ⟨by rw [HF.out]; simpa using HK4.out, by rw [HF.out]; simpa using HO4.out⟩, HB4.out⟩
        case measure => simp [intOf]; omega
    · obtain rfl : j = l.length := by omega
      have HF : Hid (((l).take l.length).filter (fun _ => true) = (l)) := Lib.hid (by rw [List.take_length]; exact List.filter_eq_self.2 (fun _ _ => rfl))
      clear hbl
      have d0 := cell_of_blk (block_below HBL.out HB.out) 0
      go_wp2
      go_ret2
      refine ⟨_, _, rfl, ?_, ?_, HBL.out⟩
      · rw [← HF.out]; exact HR.out.1
      · rw [← HF.out]; exact HR.out.2
set_option maxRecDepth 100000 in
set_option maxHeartbeats 4000000 in
theorem range_2 (B : Nat → Prop) (r : Nat) (k : ByteArray) (l : List (KV Int)) (w : World) (h : RMapP w B r l) (hk : k.size ≤ 9223372036854775807) (ho : KeysOk l) (hn : l.length ≤ 8796093022208) :
    Calls Try.prog 21 #[.pointer (some ⟨r, 0, none⟩), .int .i64 2, .string k] w (RangedTo (l.filter fun x => !lessS x.1 k) w) := by
  obtain ⟨_, _, A, c, A', c', hb, hK, hV⟩ := h
  obtain ⟨_, _, e, hnc, hcm⟩ := id hK.open_
  injection e with e1 _ e2
  subst e1 e2
  obtain ⟨_, _, e, hnc', hcm'⟩ := id hV.open_
  injection e with e1 _ e2
  subst e1 e2
  have HB := Lib.hid hb
  have HK := Lib.hid hK
  have HV := Lib.hid hV
  have HO := Lib.hid ho
  clear hb hK hV ho
  go_enter Try.func21, Try.ntmps21
  have hd0 := cell_of_blk HB.out 0
  go_wp2
  clear hd0
  go_loopw [8, 9, 11] (fun kv vv i wr => ∃ j : Nat, j ≤ l.length ∧ i = .int .i64 j ∧ Hid (wr.ownsRow w.heap.size 9 1 kv (((l).take j).filter (fun x : KV Int => !lessS x.1 k)).length (keysV (((l).take j).filter (fun x : KV Int => !lessS x.1 k))) ∧ wr.ownsRow w.heap.size 3 1 vv (((l).take j).filter (fun x : KV Int => !lessS x.1 k)).length (intsV (((l).take j).filter (fun x : KV Int => !lessS x.1 k)))) ∧ Below w.heap.size w wr) (fun _ _ i _ => l.length - (intOf i).toNat)
  case atStart => exact ⟨0, Nat.zero_le _, rfl, Lib.hid ⟨by simpa [keysV] using own_nil _ _ _ _, by simpa [intsV] using own_nil _ _ _ _⟩, Below.refl _ _⟩
  case round =>
    obtain ⟨j, hj, rfl, HR, hbl⟩ := hrel
    have HBL := Lib.hid hbl
    by_cases hlt : j < l.length
    · have hat : j < l.length := by omega
      obtain ⟨b, o, rfl, c0⟩ := (HK.out.below hbl).key_at hat
      obtain ⟨b', o', rfl, c1⟩ := (HV.out.below hbl).int_at hat
      have hkj := HO.out _ (List.getElem_mem hat)
      have hjs : j < (l).length := by first | exact hlt | (rw [List.length_reverse]; exact hlt)
      have hsx : (l)[j] = l[j] := by first | rfl | (rw [List.getElem_reverse])
      have HFY := fun h => Lib.hid (take_filter_yes (fun x : KV Int => !lessS x.1 k) hjs hsx h)
      have HFN := fun h => Lib.hid (take_filter_no (fun x : KV Int => !lessS x.1 k) hjs hsx h)
      have hfl := filter_len (fun x : KV Int => !lessS x.1 k) (l) j
      have HX2 : Hid (∀ W, Below w.heap.size w W → W.cell? ⟨b', o' + j, none⟩ = some (.int .i64 l[j].2)) := Lib.hid (fun W hW => by obtain ⟨b2, o2, e2, c2⟩ := (HV.out.below hW).int_at hat; cases e2; exact c2)
      generalize l[j] = x at *
      have HFL := Lib.hid hfl
      have hL := ref_Less x.1 k wr hkj hk
      have hBg := fun W => ref_Begins x.1 k W
      have HC0 := Lib.hid c0
      have HC1 := Lib.hid c1
      have HX1 : Hid (∀ W, Below w.heap.size w W → W.cell? ⟨b', o' + j, none⟩ = some (.int .i64 x.2)) := Lib.hid (fun W hW => HX2.out W hW)
      have d0 := cell_of_blk (block_below hbl HB.out) 0
      generalize hcur : ((l).take j).filter (fun x : KV Int => !lessS x.1 k) = cur at *
      clear hbl hkj hfl hsx hcur c1
      cases hx : lessS x.1 k with
      | false =>
        rw [hx] at hL
        have HF := HFY (by simp [hx])
        clear hx HFY HFN
        go_wp2_with (first
          | (go_at_call 14; refine hL.mono ?_; rintro e w1 ⟨rfl, hb1⟩; have d01 := cell_of_blk (block_below hb1 (block_below HBL.out HB.out)) 0; have d11 := cell_of_blk (block_below hb1 (block_below HBL.out HB.out)) 1; have c01 := cell_below hb1 HC0.out; have c11 := cell_below hb1 HC1.out; have HB1 := Lib.hid (below2 HBL.out hb1); have HR1 := Lib.hid (And.intro (own_same (w := w) HR.out.1 hb1) (own_same (w := w) HR.out.2 hb1)); clear hb1 d0 c0)
          | (go_at_call 23; refine (hBg _).mono ?_; rintro e w2 ⟨rfl, rfl⟩)
          | (at_builtin; refine wp_app_row eS (by decide) rfl (.tmp 63) (.tmp 71) rfl w.heap.size _ cur.length _ rfl (HR1.out.1.alloc _) (fun g => g = w1.heap.size) _ 1 1 _ rfl (Row.new w1 1 1 (keysV [x]) _ rfl (by simp [maxLen])) (keysV_one _) (by have := HFL.out; omega) (by have := HFL.out; omega) (below_alloc HB1.out _).size ?_; intro v3 w3 own3 hg3; rw [refM.keysV_app] at own3; have hbb3 := own_grow (HR1.out.1.alloc (.cells (keysV [x]).toArray 9)) (below_alloc HB1.out _) (below_alloc HB1.out _).size hg3; have HI3 := Lib.hid (own_mut (HR1.out.2.alloc (.cells (keysV [x]).toArray 9)) (Mut.grown hg3 (fun b h => h)) (fun b hb h => own_ne (HR1.out.1.alloc (.cells (keysV [x]).toArray 9)) (HR1.out.2.alloc (.cells (keysV [x]).toArray 9)) (by decide) h hb)); have d13 := cell_of_blk (block_below hbb3 HB.out) 1; have c13 := HX1.out _ hbb3; have HB3 := Lib.hid hbb3; have HO3 := Lib.hid own3; clear hbb3 own3 d11 c11 d01 c01)
          | (at_builtin; refine wp_app_row eI (by decide) rfl (.tmp 73) (.tmp 81) rfl w.heap.size _ cur.length _ rfl (HI3.out.alloc _) (fun g => g = w3.heap.size) _ 1 1 _ rfl (Row.new w3 1 1 (intsV [x]) _ rfl (by simp [maxLen])) (intsV_one _) (by have := HFL.out; omega) (by have := HFL.out; omega) (below_alloc HB3.out _).size ?_; intro v4 w4 own4 hg4; rw [refM.intsV_app] at own4; have hbb4 := own_grow (HI3.out.alloc (.cells (intsV [x]).toArray 3)) (below_alloc HB3.out _) (below_alloc HB3.out _).size hg4; have HK4 := Lib.hid (own_mut (HO3.out.alloc (.cells (intsV [x]).toArray 3)) (Mut.grown hg4 (fun b h => h)) (fun b hb h => own_ne (HI3.out.alloc (.cells (intsV [x]).toArray 3)) (HO3.out.alloc (.cells (intsV [x]).toArray 3)) (by decide) h hb)); have HB4 := Lib.hid hbb4; have HO4 := Lib.hid own4; clear hbb4 hg4 own4 d13 c13))
        go_roundw
        case rel => exact ⟨j + 1, by omega, by go_num, Lib.hid ⟨by rw [HF.out]; simpa using HK4.out, by rw [HF.out]; simpa using HO4.out⟩, HB4.out⟩
        case measure => simp [intOf]; omega
      | true =>
        rw [hx] at hL
        have HF := HFN (by simp [hx])
        clear hx HFY HFN
        go_wp2_with (first
          | (go_at_call 14; refine hL.mono ?_; rintro e w1 ⟨rfl, hb1⟩; have d01 := cell_of_blk (block_below hb1 (block_below HBL.out HB.out)) 0; have d11 := cell_of_blk (block_below hb1 (block_below HBL.out HB.out)) 1; have c01 := cell_below hb1 HC0.out; have c11 := cell_below hb1 HC1.out; have HB1 := Lib.hid (below2 HBL.out hb1); have HR1 := Lib.hid (And.intro (own_same (w := w) HR.out.1 hb1) (own_same (w := w) HR.out.2 hb1)); clear hb1 d0 c0)
          | (go_at_call 23; refine (hBg _).mono ?_; rintro e w2 ⟨rfl, rfl⟩)
          | (at_builtin; refine wp_app_row eS (by decide) rfl (.tmp 63) (.tmp 71) rfl w.heap.size _ cur.length _ rfl (HR1.out.1.alloc _) (fun g => g = w1.heap.size) _ 1 1 _ rfl (Row.new w1 1 1 (keysV [x]) _ rfl (by simp [maxLen])) (keysV_one _) (by have := HFL.out; omega) (by have := HFL.out; omega) (below_alloc HB1.out _).size ?_; intro v3 w3 own3 hg3; rw [refM.keysV_app] at own3; have hbb3 := own_grow (HR1.out.1.alloc (.cells (keysV [x]).toArray 9)) (below_alloc HB1.out _) (below_alloc HB1.out _).size hg3; have HI3 := Lib.hid (own_mut (HR1.out.2.alloc (.cells (keysV [x]).toArray 9)) (Mut.grown hg3 (fun b h => h)) (fun b hb h => own_ne (HR1.out.1.alloc (.cells (keysV [x]).toArray 9)) (HR1.out.2.alloc (.cells (keysV [x]).toArray 9)) (by decide) h hb)); have d13 := cell_of_blk (block_below hbb3 HB.out) 1; have c13 := HX1.out _ hbb3; have HB3 := Lib.hid hbb3; have HO3 := Lib.hid own3; clear hbb3 own3 d11 c11 d01 c01)
          | (at_builtin; refine wp_app_row eI (by decide) rfl (.tmp 73) (.tmp 81) rfl w.heap.size _ cur.length _ rfl (HI3.out.alloc _) (fun g => g = w3.heap.size) _ 1 1 _ rfl (Row.new w3 1 1 (intsV [x]) _ rfl (by simp [maxLen])) (intsV_one _) (by have := HFL.out; omega) (by have := HFL.out; omega) (below_alloc HB3.out _).size ?_; intro v4 w4 own4 hg4; rw [refM.intsV_app] at own4; have hbb4 := own_grow (HI3.out.alloc (.cells (intsV [x]).toArray 3)) (below_alloc HB3.out _) (below_alloc HB3.out _).size hg4; have HK4 := Lib.hid (own_mut (HO3.out.alloc (.cells (intsV [x]).toArray 3)) (Mut.grown hg4 (fun b h => h)) (fun b hb h => own_ne (HI3.out.alloc (.cells (intsV [x]).toArray 3)) (HO3.out.alloc (.cells (intsV [x]).toArray 3)) (by decide) h hb)); have HB4 := Lib.hid hbb4; have HO4 := Lib.hid own4; clear hbb4 hg4 own4 d13 c13))
        go_roundw
        case rel => exact ⟨j + 1, by omega, by go_num, Lib.hid ⟨by rw [HF.out]; exact HR1.out.1, by rw [HF.out]; exact HR1.out.2⟩, HB1.out⟩
        case measure => simp [intOf]; omega
    · obtain rfl : j = l.length := by omega
      have HF : Hid (((l).take l.length).filter (fun x : KV Int => !lessS x.1 k) = (l.filter fun x => !lessS x.1 k)) := Lib.hid (by rw [List.take_length])
      clear hbl
      have d0 := cell_of_blk (block_below HBL.out HB.out) 0
      go_wp2
      go_ret2
      refine ⟨_, _, rfl, ?_, ?_, HBL.out⟩
      · rw [← HF.out]; exact HR.out.1
      · rw [← HF.out]; exact HR.out.2
set_option maxRecDepth 100000 in
set_option maxHeartbeats 4000000 in
theorem range_3 (B : Nat → Prop) (r : Nat) (k : ByteArray) (l : List (KV Int)) (w : World) (h : RMapP w B r l) (hk : k.size ≤ 9223372036854775807) (ho : KeysOk l) (hn : l.length ≤ 8796093022208) :
    Calls Try.prog 21 #[.pointer (some ⟨r, 0, none⟩), .int .i64 3, .string k] w (RangedTo (l.reverse) w) := by
  obtain ⟨_, _, A, c, A', c', hb, hK, hV⟩ := h
  obtain ⟨_, _, e, hnc, hcm⟩ := id hK.open_
  injection e with e1 _ e2
  subst e1 e2
  obtain ⟨_, _, e, hnc', hcm'⟩ := id hV.open_
  injection e with e1 _ e2
  subst e1 e2
  have HB := Lib.hid hb
  have HK := Lib.hid hK
  have HV := Lib.hid hV
  have HO := Lib.hid ho
  clear hb hK hV ho
  go_enter Try.func21, Try.ntmps21
  have hd0 := cell_of_blk HB.out 0
  go_wp2
  clear hd0
  go_loopw [8, 9, 11] (fun kv vv i wr => ∃ j : Nat, j ≤ l.length ∧ i = .int .i64 j ∧ Hid (wr.ownsRow w.heap.size 9 1 kv (((l.reverse).take j).filter (fun _ => true)).length (keysV (((l.reverse).take j).filter (fun _ => true))) ∧ wr.ownsRow w.heap.size 3 1 vv (((l.reverse).take j).filter (fun _ => true)).length (intsV (((l.reverse).take j).filter (fun _ => true)))) ∧ Below w.heap.size w wr) (fun _ _ i _ => l.length - (intOf i).toNat)
  case atStart => exact ⟨0, Nat.zero_le _, rfl, Lib.hid ⟨by simpa [keysV] using own_nil _ _ _ _, by simpa [intsV] using own_nil _ _ _ _⟩, Below.refl _ _⟩
  case round =>
    obtain ⟨j, hj, rfl, HR, hbl⟩ := hrel
    have HBL := Lib.hid hbl
    by_cases hlt : j < l.length
    · have hat : (l.length - 1 - j) < l.length := by omega
      obtain ⟨b, o, rfl, c0⟩ := (HK.out.below hbl).key_at hat
      obtain ⟨b', o', rfl, c1⟩ := (HV.out.below hbl).int_at hat
      have hkj := HO.out _ (List.getElem_mem hat)
      have hjs : j < (l.reverse).length := by first | exact hlt | (rw [List.length_reverse]; exact hlt)
      have hsx : (l.reverse)[j] = l[(l.length - 1 - j)] := by first | rfl | (rw [List.getElem_reverse])
      have HFY := fun h => Lib.hid (take_filter_yes (fun _ => true) hjs hsx h)
      have HFN := fun h => Lib.hid (take_filter_no (fun _ => true) hjs hsx h)
      have hfl := filter_len (fun _ => true) (l.reverse) j
      have HX2 : Hid (∀ W, Below w.heap.size w W → W.cell? ⟨b', o' + (l.length - 1 - j), none⟩ = some (.int .i64 l[(l.length - 1 - j)].2)) := Lib.hid (fun W hW => by obtain ⟨b2, o2, e2, c2⟩ := (HV.out.below hW).int_at hat; cases e2; exact c2)
      generalize l[(l.length - 1 - j)] = x at *
      have HFL := Lib.hid hfl
      have hL := ref_Less x.1 k wr hkj hk
      have hBg := fun W => ref_Begins x.1 k W
      have HC0 := Lib.hid c0
      have HC1 := Lib.hid c1
      have HX1 : Hid (∀ W, Below w.heap.size w W → W.cell? ⟨b', o' + (l.length - 1 - j), none⟩ = some (.int .i64 x.2)) := Lib.hid (fun W hW => HX2.out W hW)
      have d0 := cell_of_blk (block_below hbl HB.out) 0
      generalize hcur : ((l.reverse).take j).filter (fun _ => true) = cur at *
      clear hbl hkj hfl hsx hcur c1
      have he : ((l.length : Int) - 1 - (j : Int)) = ((l.length - 1 - j : Nat) : Int) := by omega
      have HE := Lib.hid he
      generalize hg : l.length - 1 - j = g at *
      have hgl : g < l.length := by omega
      clear hg
      · have HF := HFY rfl
        clear HFY HFN
        go_wp2_with (first
          | (go_at_call 14; refine hL.mono ?_; rintro e w1 ⟨rfl, hb1⟩; have d01 := cell_of_blk (block_below hb1 (block_below HBL.out HB.out)) 0; have d11 := cell_of_blk (block_below hb1 (block_below HBL.out HB.out)) 1; have c01 := cell_below hb1 HC0.out; have c11 := cell_below hb1 HC1.out; have HB1 := Lib.hid (below2 HBL.out hb1); have HR1 := Lib.hid (And.intro (own_same (w := w) HR.out.1 hb1) (own_same (w := w) HR.out.2 hb1)); clear hb1 d0 c0)
          | (go_at_call 23; refine (hBg _).mono ?_; rintro e w2 ⟨rfl, rfl⟩)
          | (at_builtin; refine wp_app_row eS (by decide) rfl (.tmp 63) (.tmp 71) rfl w.heap.size _ cur.length _ rfl (HR1.out.1.alloc _) (fun g => g = w1.heap.size) _ 1 1 _ rfl (Row.new w1 1 1 (keysV [x]) _ rfl (by simp [maxLen])) (keysV_one _) (by have := HFL.out; omega) (by have := HFL.out; omega) (below_alloc HB1.out _).size ?_; intro v3 w3 own3 hg3; rw [refM.keysV_app] at own3; have hbb3 := own_grow (HR1.out.1.alloc (.cells (keysV [x]).toArray 9)) (below_alloc HB1.out _) (below_alloc HB1.out _).size hg3; have HI3 := Lib.hid (own_mut (HR1.out.2.alloc (.cells (keysV [x]).toArray 9)) (Mut.grown hg3 (fun b h => h)) (fun b hb h => own_ne (HR1.out.1.alloc (.cells (keysV [x]).toArray 9)) (HR1.out.2.alloc (.cells (keysV [x]).toArray 9)) (by decide) h hb)); have d13 := cell_of_blk (block_below hbb3 HB.out) 1; have c13 := HX1.out _ hbb3; have HB3 := Lib.hid hbb3; have HO3 := Lib.hid own3; clear hbb3 own3 d11 c11 d01 c01)
          | (at_builtin; refine wp_app_row eI (by decide) rfl (.tmp 73) (.tmp 81) rfl w.heap.size _ cur.length _ rfl (HI3.out.alloc _) (fun g => g = w3.heap.size) _ 1 1 _ rfl (Row.new w3 1 1 (intsV [x]) _ rfl (by simp [maxLen])) (intsV_one _) (by have := HFL.out; omega) (by have := HFL.out; omega) (below_alloc HB3.out _).size ?_; intro v4 w4 own4 hg4; rw [refM.intsV_app] at own4; have hbb4 := own_grow (HI3.out.alloc (.cells (intsV [x]).toArray 3)) (below_alloc HB3.out _) (below_alloc HB3.out _).size hg4; have HK4 := Lib.hid (own_mut (HO3.out.alloc (.cells (intsV [x]).toArray 3)) (Mut.grown hg4 (fun b h => h)) (fun b hb h => own_ne (HI3.out.alloc (.cells (intsV [x]).toArray 3)) (HO3.out.alloc (.cells (intsV [x]).toArray 3)) (by decide) h hb)); have HB4 := Lib.hid hbb4; have HO4 := Lib.hid own4; clear hbb4 hg4 own4 d13 c13))
        go_roundw
        case rel => exact ⟨j + 1, by omega, by go_num, Lib.hid ⟨by rw [HF.out]; simpa using HK4.out, by rw [HF.out]; simpa using HO4.out⟩, HB4.out⟩
        case measure => simp [intOf]; omega
    · obtain rfl : j = l.length := by omega
      have HF : Hid (((l.reverse).take l.length).filter (fun _ => true) = (l.reverse)) := Lib.hid (by rw [List.take_of_length_le (by simp)]; exact List.filter_eq_self.2 (fun _ _ => rfl))
      clear hbl
      have d0 := cell_of_blk (block_below HBL.out HB.out) 0
      go_wp2
      go_ret2
      refine ⟨_, _, rfl, ?_, ?_, HBL.out⟩
      · rw [← HF.out]; exact HR.out.1
      · rw [← HF.out]; exact HR.out.2
set_option maxRecDepth 100000 in
set_option maxHeartbeats 4000000 in
theorem range_4 (B : Nat → Prop) (r : Nat) (k : ByteArray) (l : List (KV Int)) (w : World) (h : RMapP w B r l) (hk : k.size ≤ 9223372036854775807) (ho : KeysOk l) (hn : l.length ≤ 8796093022208) :
    Calls Try.prog 21 #[.pointer (some ⟨r, 0, none⟩), .int .i64 4, .string k] w (RangedTo (l.filter fun x => beginsS x.1 k) w) := by
  obtain ⟨_, _, A, c, A', c', hb, hK, hV⟩ := h
  obtain ⟨_, _, e, hnc, hcm⟩ := id hK.open_
  injection e with e1 _ e2
  subst e1 e2
  obtain ⟨_, _, e, hnc', hcm'⟩ := id hV.open_
  injection e with e1 _ e2
  subst e1 e2
  have HB := Lib.hid hb
  have HK := Lib.hid hK
  have HV := Lib.hid hV
  have HO := Lib.hid ho
  clear hb hK hV ho
  go_enter Try.func21, Try.ntmps21
  have hd0 := cell_of_blk HB.out 0
  go_wp2
  clear hd0
  go_loopw [8, 9, 11] (fun kv vv i wr => ∃ j : Nat, j ≤ l.length ∧ i = .int .i64 j ∧ Hid (wr.ownsRow w.heap.size 9 1 kv (((l).take j).filter (fun x : KV Int => beginsS x.1 k)).length (keysV (((l).take j).filter (fun x : KV Int => beginsS x.1 k))) ∧ wr.ownsRow w.heap.size 3 1 vv (((l).take j).filter (fun x : KV Int => beginsS x.1 k)).length (intsV (((l).take j).filter (fun x : KV Int => beginsS x.1 k)))) ∧ Below w.heap.size w wr) (fun _ _ i _ => l.length - (intOf i).toNat)
  case atStart => exact ⟨0, Nat.zero_le _, rfl, Lib.hid ⟨by simpa [keysV] using own_nil _ _ _ _, by simpa [intsV] using own_nil _ _ _ _⟩, Below.refl _ _⟩
  case round =>
    obtain ⟨j, hj, rfl, HR, hbl⟩ := hrel
    have HBL := Lib.hid hbl
    by_cases hlt : j < l.length
    · have hat : j < l.length := by omega
      obtain ⟨b, o, rfl, c0⟩ := (HK.out.below hbl).key_at hat
      obtain ⟨b', o', rfl, c1⟩ := (HV.out.below hbl).int_at hat
      have hkj := HO.out _ (List.getElem_mem hat)
      have hjs : j < (l).length := by first | exact hlt | (rw [List.length_reverse]; exact hlt)
      have hsx : (l)[j] = l[j] := by first | rfl | (rw [List.getElem_reverse])
      have HFY := fun h => Lib.hid (take_filter_yes (fun x : KV Int => beginsS x.1 k) hjs hsx h)
      have HFN := fun h => Lib.hid (take_filter_no (fun x : KV Int => beginsS x.1 k) hjs hsx h)
      have hfl := filter_len (fun x : KV Int => beginsS x.1 k) (l) j
      have HX2 : Hid (∀ W, Below w.heap.size w W → W.cell? ⟨b', o' + j, none⟩ = some (.int .i64 l[j].2)) := Lib.hid (fun W hW => by obtain ⟨b2, o2, e2, c2⟩ := (HV.out.below hW).int_at hat; cases e2; exact c2)
      generalize l[j] = x at *
      have HFL := Lib.hid hfl
      have hL := ref_Less x.1 k wr hkj hk
      have hBg := fun W => ref_Begins x.1 k W
      have HC0 := Lib.hid c0
      have HC1 := Lib.hid c1
      have HX1 : Hid (∀ W, Below w.heap.size w W → W.cell? ⟨b', o' + j, none⟩ = some (.int .i64 x.2)) := Lib.hid (fun W hW => HX2.out W hW)
      have d0 := cell_of_blk (block_below hbl HB.out) 0
      generalize hcur : ((l).take j).filter (fun x : KV Int => beginsS x.1 k) = cur at *
      clear hbl hkj hfl hsx hcur c1
      cases hx : beginsS x.1 k with
      | true =>
        have hBg : ∀ W, Calls Try.prog 23 #[.string x.1, .string k] W fun e w' => e = .returned (.bool true) ∧ W = w' := fun W => by rw [← hx]; exact ref_Begins x.1 k W
        have HF := HFY (by simp [hx])
        clear hx HFY HFN
        go_wp2_with (first
          | (go_at_call 14; refine hL.mono ?_; rintro e w1 ⟨rfl, hb1⟩; have d01 := cell_of_blk (block_below hb1 (block_below HBL.out HB.out)) 0; have d11 := cell_of_blk (block_below hb1 (block_below HBL.out HB.out)) 1; have c01 := cell_below hb1 HC0.out; have c11 := cell_below hb1 HC1.out; have HB1 := Lib.hid (below2 HBL.out hb1); have HR1 := Lib.hid (And.intro (own_same (w := w) HR.out.1 hb1) (own_same (w := w) HR.out.2 hb1)); clear hb1 d0 c0)
          | (go_at_call 23; refine (hBg _).mono ?_; rintro e w2 ⟨rfl, rfl⟩)
          | (at_builtin; refine wp_app_row eS (by decide) rfl (.tmp 63) (.tmp 71) rfl w.heap.size _ cur.length _ rfl (HR1.out.1.alloc _) (fun g => g = w1.heap.size) _ 1 1 _ rfl (Row.new w1 1 1 (keysV [x]) _ rfl (by simp [maxLen])) (keysV_one _) (by have := HFL.out; omega) (by have := HFL.out; omega) (below_alloc HB1.out _).size ?_; intro v3 w3 own3 hg3; rw [refM.keysV_app] at own3; have hbb3 := own_grow (HR1.out.1.alloc (.cells (keysV [x]).toArray 9)) (below_alloc HB1.out _) (below_alloc HB1.out _).size hg3; have HI3 := Lib.hid (own_mut (HR1.out.2.alloc (.cells (keysV [x]).toArray 9)) (Mut.grown hg3 (fun b h => h)) (fun b hb h => own_ne (HR1.out.1.alloc (.cells (keysV [x]).toArray 9)) (HR1.out.2.alloc (.cells (keysV [x]).toArray 9)) (by decide) h hb)); have d13 := cell_of_blk (block_below hbb3 HB.out) 1; have c13 := HX1.out _ hbb3; have HB3 := Lib.hid hbb3; have HO3 := Lib.hid own3; clear hbb3 own3 d11 c11 d01 c01)
          | (at_builtin; refine wp_app_row eI (by decide) rfl (.tmp 73) (.tmp 81) rfl w.heap.size _ cur.length _ rfl (HI3.out.alloc _) (fun g => g = w3.heap.size) _ 1 1 _ rfl (Row.new w3 1 1 (intsV [x]) _ rfl (by simp [maxLen])) (intsV_one _) (by have := HFL.out; omega) (by have := HFL.out; omega) (below_alloc HB3.out _).size ?_; intro v4 w4 own4 hg4; rw [refM.intsV_app] at own4; have hbb4 := own_grow (HI3.out.alloc (.cells (intsV [x]).toArray 3)) (below_alloc HB3.out _) (below_alloc HB3.out _).size hg4; have HK4 := Lib.hid (own_mut (HO3.out.alloc (.cells (intsV [x]).toArray 3)) (Mut.grown hg4 (fun b h => h)) (fun b hb h => own_ne (HI3.out.alloc (.cells (intsV [x]).toArray 3)) (HO3.out.alloc (.cells (intsV [x]).toArray 3)) (by decide) h hb)); have HB4 := Lib.hid hbb4; have HO4 := Lib.hid own4; clear hbb4 hg4 own4 d13 c13))
        go_roundw
        case rel => exact ⟨j + 1, by omega, by go_num, Lib.hid ⟨by rw [HF.out]; simpa using HK4.out, by rw [HF.out]; simpa using HO4.out⟩, HB4.out⟩
        case measure => simp [intOf]; omega
      | false =>
        have hBg : ∀ W, Calls Try.prog 23 #[.string x.1, .string k] W fun e w' => e = .returned (.bool false) ∧ W = w' := fun W => by rw [← hx]; exact ref_Begins x.1 k W
        have HF := HFN (by simp [hx])
        clear hx HFY HFN
        go_wp2_with (first
          | (go_at_call 14; refine hL.mono ?_; rintro e w1 ⟨rfl, hb1⟩; have d01 := cell_of_blk (block_below hb1 (block_below HBL.out HB.out)) 0; have d11 := cell_of_blk (block_below hb1 (block_below HBL.out HB.out)) 1; have c01 := cell_below hb1 HC0.out; have c11 := cell_below hb1 HC1.out; have HB1 := Lib.hid (below2 HBL.out hb1); have HR1 := Lib.hid (And.intro (own_same (w := w) HR.out.1 hb1) (own_same (w := w) HR.out.2 hb1)); clear hb1 d0 c0)
          | (go_at_call 23; refine (hBg _).mono ?_; rintro e w2 ⟨rfl, rfl⟩)
          | (at_builtin; refine wp_app_row eS (by decide) rfl (.tmp 63) (.tmp 71) rfl w.heap.size _ cur.length _ rfl (HR1.out.1.alloc _) (fun g => g = w1.heap.size) _ 1 1 _ rfl (Row.new w1 1 1 (keysV [x]) _ rfl (by simp [maxLen])) (keysV_one _) (by have := HFL.out; omega) (by have := HFL.out; omega) (below_alloc HB1.out _).size ?_; intro v3 w3 own3 hg3; rw [refM.keysV_app] at own3; have hbb3 := own_grow (HR1.out.1.alloc (.cells (keysV [x]).toArray 9)) (below_alloc HB1.out _) (below_alloc HB1.out _).size hg3; have HI3 := Lib.hid (own_mut (HR1.out.2.alloc (.cells (keysV [x]).toArray 9)) (Mut.grown hg3 (fun b h => h)) (fun b hb h => own_ne (HR1.out.1.alloc (.cells (keysV [x]).toArray 9)) (HR1.out.2.alloc (.cells (keysV [x]).toArray 9)) (by decide) h hb)); have d13 := cell_of_blk (block_below hbb3 HB.out) 1; have c13 := HX1.out _ hbb3; have HB3 := Lib.hid hbb3; have HO3 := Lib.hid own3; clear hbb3 own3 d11 c11 d01 c01)
          | (at_builtin; refine wp_app_row eI (by decide) rfl (.tmp 73) (.tmp 81) rfl w.heap.size _ cur.length _ rfl (HI3.out.alloc _) (fun g => g = w3.heap.size) _ 1 1 _ rfl (Row.new w3 1 1 (intsV [x]) _ rfl (by simp [maxLen])) (intsV_one _) (by have := HFL.out; omega) (by have := HFL.out; omega) (below_alloc HB3.out _).size ?_; intro v4 w4 own4 hg4; rw [refM.intsV_app] at own4; have hbb4 := own_grow (HI3.out.alloc (.cells (intsV [x]).toArray 3)) (below_alloc HB3.out _) (below_alloc HB3.out _).size hg4; have HK4 := Lib.hid (own_mut (HO3.out.alloc (.cells (intsV [x]).toArray 3)) (Mut.grown hg4 (fun b h => h)) (fun b hb h => own_ne (HI3.out.alloc (.cells (intsV [x]).toArray 3)) (HO3.out.alloc (.cells (intsV [x]).toArray 3)) (by decide) h hb)); have HB4 := Lib.hid hbb4; have HO4 := Lib.hid own4; clear hbb4 hg4 own4 d13 c13))
        go_roundw
        case rel => exact ⟨j + 1, by omega, by go_num, Lib.hid ⟨by rw [HF.out]; exact HR1.out.1, by rw [HF.out]; exact HR1.out.2⟩, HB1.out⟩
        case measure => simp [intOf]; omega
    · obtain rfl : j = l.length := by omega
      have HF : Hid (((l).take l.length).filter (fun x : KV Int => beginsS x.1 k) = (l.filter fun x => beginsS x.1 k)) := Lib.hid (by rw [List.take_length])
      clear hbl
      have d0 := cell_of_blk (block_below HBL.out HB.out) 0
      go_wp2
      go_ret2
      refine ⟨_, _, rfl, ?_, ?_, HBL.out⟩
      · rw [← HF.out]; exact HR.out.1
      · rw [← HF.out]; exact HR.out.2
end Go.Proofs.Ytncgcjfpoableaa.refM
