/-
  The walk of SortedRanges.
-/
import Derived.Test.YtncgcjfpoableaaSrtFo
set_option linter.unusedVariables false
set_option linter.unusedSimpArgs false
namespace Go.Proofs.Ytncgcjfpoableaa
open Go Go.RowKit Go.Proofs.Base
open Go.Proofs.Ytncgcjfpoableaa.srtI (MapP PutTo DelTo Holds PRow RangedTo)
open Go.Proofs.Ytncgcjfpoableaa.refM (RMapP)
open Go.Sort (grow)
theorem wp_app_row' {P : Program} {w : World} {ops : Array Oper} {rest : List Oper} {o : Oper} {a : Act} {Q : Exit → Act → World → Prop} {t e : TypeId} {bytes : Nat} (E : ElemT P t e 1 bytes)
    (hgd : o.guard = none) (s x : Operand) (ho : o.op = .call { callee := .builtin .append, args := #[s, x], argTypes := #[t, t] })
    (base : Nat) (v : Value) (n : Nat) (xs : List Value) (hs : a.eval s = v) (hown : w.ownsRow base e 1 v n xs) (u : Value) (h1 : u.oneCell' = true)
    (b c : Nat) (hx : a.eval x = .slice (some ⟨b, 0, none⟩) 1 c) (hb : w.cell? ⟨b, 0, none⟩ = some u) (hl : n + 1 ≤ 140737488355328) (hby : (n + 1) * bytes ≤ 140737488355328) (hbase : base ≤ w.heap.size)
    (h : ∀ v' w', w'.ownsRow base e 1 v' (n + 1) (xs ++ [u]) → w.grownBy w' v.ownBlock → (v'.ownBlock = v.ownBlock ∨ v'.ownBlock = some w.heap.size) → wpList P ops Q rest (a.put o.dst v') w') :
    wpList P ops Q (o :: rest) a w := by
  obtain ⟨i, z, hi, hz0, hz1, hz2, hzc⟩ := E.hi
  refine wpList_append_own_at w hgd s x t ho base e i z 1 bytes E.ht hi hz0 hz1 hz2 hzc (by decide) v n xs hs hown ⟨b, 0, none⟩ 1 c [u] hx (by simp) (fun j u' hu => ?_) (fun u' hu => by rw [List.mem_singleton.1 hu]; exact h1) (by simp only [maxLen]; omega) hby hbase (fun v' w' h2 h3 _ h5 => h v' w' h2 h3 h5)
  cases j with
  | zero => simp at hu; subst hu; simpa [Addr.add] using hb
  | succ j => simp at hu
def ApartV (f u : Value) : Prop := ∀ b, f.ownBlock = some b → u.ownBlock ≠ some b
theorem ApartV.left {f f' u : Value} {n : Nat} (h : ApartV f u) (h1 : f'.ownBlock = f.ownBlock ∨ f'.ownBlock = some n) (h2 : ∀ b, u.ownBlock = some b → b < n) : ApartV f' u := by
  intro b hb hu
  rcases h1 with h1 | h1
  · exact h b (h1 ▸ hb) hu
  · rw [h1] at hb; injection hb with hb; have := h2 b hu; omega
theorem ApartV.right {f u u' : Value} {n : Nat} (h : ApartV f u) (h1 : u'.ownBlock = u.ownBlock ∨ u'.ownBlock = some n) (h2 : ∀ b, f.ownBlock = some b → b < n) : ApartV f u' := by
  intro b hb hu
  rcases h1 with h1 | h1
  · exact h b hb (h1 ▸ hu)
  · rw [h1] at hu; injection hu with hu; have := h2 b hb; omega
theorem own_lt {w : World} {base e size n : Nat} {v : Value} {xs : List Value} (h : w.ownsRow base e size v n xs) : ∀ b, v.ownBlock = some b → b < w.heap.size := fun b hb => by obtain ⟨_, cs, h2⟩ := own_type h hb; exact lt_of_blk h2
/-- the two lists that the law collects -/
def Two (base : Nat) (fv uv : Value) (F U : List (KV Int)) (w : World) : Prop := w.ownsRow base 9 1 fv F.length (keysV F) ∧ w.ownsRow base 9 1 uv U.length (keysV U) ∧ ApartV fv uv
theorem Two.below {base : Nat} {fv uv : Value} {F U : List (KV Int)} {w w' : World} (h : Two base fv uv F U w) (hb : Below w.heap.size w w') : Two base fv uv F U w' := ⟨own_mut h.1 (Mut.of_below hb (fun _ => False)) (fun _ _ h => h), own_mut h.2.1 (Mut.of_below hb (fun _ => False)) (fun _ _ h => h), h.2.2⟩
theorem Two.left {base : Nat} {fv uv fv' : Value} {F U : List (KV Int)} {w w' : World} {x : KV Int} (h : Two base fv uv F U w) (h1 : w'.ownsRow base 9 1 fv' (F.length + 1) (keysV F ++ [.string x.1])) (hg : w.grownBy w' fv.ownBlock) (ha : fv'.ownBlock = fv.ownBlock ∨ fv'.ownBlock = some w.heap.size) : Two base fv' uv (F ++ [x]) U w' :=
  ⟨by rw [keysV_snoc, List.length_append]; exact h1, own_mut h.2.1 (Mut.grown hg (fun b h => h)) (fun b hb h2 => h.2.2 b h2 hb), h.2.2.left ha (own_lt h.2.1)⟩
theorem Two.right {base : Nat} {fv uv uv' : Value} {F U : List (KV Int)} {w w' : World} {x : KV Int} (h : Two base fv uv F U w) (h1 : w'.ownsRow base 9 1 uv' (U.length + 1) (keysV U ++ [.string x.1])) (hg : w.grownBy w' uv.ownBlock) (ha : uv'.ownBlock = uv.ownBlock ∨ uv'.ownBlock = some w.heap.size) : Two base fv uv' F (U ++ [x]) w' :=
  ⟨own_mut h.1 (Mut.grown hg (fun b h => h)) (fun b hb h2 => h.2.2 b hb h2), by rw [keysV_snoc, List.length_append]; exact h1, h.2.2.right ha (own_lt h.1)⟩
set_option maxRecDepth 100000 in
set_option maxHeartbeats 8000000 in
theorem law_Ranges (va : Value) (xs : List GAct) (k : ByteArray) (w : World) (hx : Acts w va xs) (hk : okA k) :
    Calls Try.prog 6 #[va, .string k] w fun e w' => e = .returned (.bool true) ∧ Below w.heap.size w w' := by
  have hks : k.size ≤ 9223372036854775807 := by unfold okA at hk; omega
  obtain ⟨A, c, rfl, hnc, hcm⟩ := hx.open_
  have HX := Lib.hid hx
  have hlen := hx.2.2
  clear hx
  go_enter Try.func6, Try.ntmps6
  go_wp2_with (first
    | (go_at_call 10; refine (shown_true _).mono ?_; rintro e w1 ⟨rfl, hb1⟩; have HB1 := Lib.hid hb1; clear hb1)
    | (go_at_call 16; refine (srtI.new_any _).mono ?_; rintro e w2 ⟨rfl, rfl⟩))
  have hS0 := start_st w1
  have hB0 := below2 HB1.out (start_below w1)
  rw [show (w1.alloc (.cells #[.slice none 0 0] 70)).alloc (.cells #[.slice none 0 0, .slice none 0 0] 40) = startW w1 from rfl]
  generalize startW w1 = W at hS0 hB0 ⊢
  have HS0 := Lib.hid hS0
  have HB0 := Lib.hid hB0
  have hbW : w.heap.size ≤ w1.heap.size := HB1.out.size
  clear hS0 hB0
  go_loopw [8] (fun i wr => ∃ j : Nat, j ≤ xs.length ∧ i = .int .i64 j ∧ Hid (St (fun x => x = w1.heap.size ∨ x = w1.heap.size + 1) w1.heap.size (w1.heap.size + 1) (runK [] (xs.take j)) wr ∧ Below w.heap.size w wr)) (fun i _ => xs.length - (intOf i).toNat)
  case atStart => exact ⟨0, Nat.zero_le _, rfl, Lib.hid ⟨HS0.out, HB0.out⟩⟩
  case round =>
    obtain ⟨j, hj, rfl, HI⟩ := hrel
    by_cases hlt : j < xs.length
    · obtain ⟨b, o, rfl, _, k0, k1, k2⟩ := (HX.out.below HI.out.2).at_ hlt
      have hkk := HX.out.2.1 _ (List.getElem_mem hlt)
      have hll := runK_take_len [] xs j
      have HR := Lib.hid (runK_take [] xs hlt)
      generalize xs[j] = a at *
      have hd := does_any _ _ _ a.kind a.k a.v _ wr HI.out.1 (by unfold okA at hkk; omega) (by simp at hll; omega)
      rw [← HR.out] at hd
      have HD := Lib.hid hd
      clear hd hkk hll
      go_wp2_with (go_at_call 17; refine HD.out.mono ?_; rintro e w2 ⟨rfl, hS2, hm2⟩; have HB2 := Lib.hid (srtI.below_of_mut HI.out.2 hm2 (fun b h => by omega)); have HS2 := Lib.hid hS2; clear hm2 hS2)
      go_roundw
      case rel => exact ⟨j + 1, by omega, by go_num, Lib.hid ⟨HS2.out, HB2.out⟩⟩
      case measure => simp [intOf]; omega
    · obtain rfl : j = xs.length := by omega
      have hll := runK_take_len [] xs xs.length
      generalize hL : runK [] (xs.take xs.length) = L at *
      have HLL : Hid (L.length ≤ xs.length) := Lib.hid (by simpa using hll)
      have hs := HI.out.1.rises
      have hM := HI.out.1.2.2.1
      have HM := Lib.hid hM
      have HBW := Lib.hid HI.out.2
      have hbr : w1.heap.size < wr.heap.size := hM.2.1 _ (.inl rfl)
      clear hll hL
      have hko := HI.out.1.2.1
      have HKO := Lib.hid hko
      have HA1 := Lib.hid (all_of hM (by have := HLL.out; omega))
      have hrg : ∀ (kind : Int) (kk : ByteArray) (V : World), Below wr.heap.size wr V → Calls Try.prog 19 #[.pointer (some ⟨w1.heap.size, 0, none⟩), .int .i64 kind, .string kk, .int .i64 (-1)] V (RangedTo (rangeK kind kk L) V) := by
        intro kind kk V hV
        obtain ⟨A2, c2, hH, hr, hs2⟩ := MapP.holds (hM.below hV)
        have := ranged_any _ _ A2 _ c2 kind (-1) kk L V hH hr hs2 (by have := HLL.out; omega)
        rwa [most_neg] at this
      have hln : ∀ V, Below wr.heap.size wr V → Calls Try.prog 18 #[.pointer (some ⟨w1.heap.size, 0, none⟩)] V fun e w' => e = .returned (.int .i64 (L.length : Nat)) ∧ V = w' := by
        intro V hV
        obtain ⟨A2, c2, hH, hr, hs2⟩ := MapP.holds (hM.below hV)
        exact srtI.len_any _ A2 _ c2 V hH
      have r6 : rangeK 6 ⟨#[]⟩ L = L.reverse := by unfold rangeK; simp
      have r5 : rangeK 5 k L = L.filter (fun p => !lessS p.1 k) := by unfold rangeK; rw [if_pos rfl, from_filter hs]
      have r7 : rangeK 7 k L = L.filter (fun p => beginsS p.1 k) := by unfold rangeK; rw [if_neg (by decide), if_neg (by decide), if_pos rfl, under_filter hs]
      have h6 := fun V h => hrg 6 ⟨#[]⟩ V h
      have h5 := fun V h => hrg 5 k V h
      have h7 := fun V h => hrg 7 k V h
      rw [r6] at h6
      rw [r5] at h5
      rw [r7] at h7
      have H6 := Lib.hid h6
      have H5 := Lib.hid h5
      have H7 := Lib.hid h7
      have HLN := Lib.hid hln
      have hq0 : ((L.length : Int) != (L.length : Int)) = false := bne_f rfl
      clear hrg r6 r5 r7 h6 h5 h7 hs hM hko hln
      go_wp2_with fail
      go_at_call 19
      refine HA1.out.mono ?_
      rintro e x1 ⟨kv, vv, rfl, ok1, oi1, hb1⟩
      obtain ⟨A1, c1, rfl, R1⟩ := rows_of ok1
      obtain ⟨A2, c2, rfl, R2⟩ := rows_of oi1
      have HR1 := Lib.hid R1
      have HR2 := Lib.hid R2
      have HB1r := Lib.hid hb1
      clear hb1 ok1 oi1 R1 R2
      go_wp2_with fail
      go_at_call 19
      refine (H6.out _ HB1r.out).mono ?_
      rintro e x2 ⟨kv, vv, rfl, ok2, oi2, hb2⟩
      rw [List.length_reverse] at ok2 oi2
      obtain ⟨A3, c3, rfl, R3⟩ := rows_of ok2
      obtain ⟨A4, c4, rfl, R4⟩ := rows_of oi2
      have HB2r := Lib.hid (below2 HB1r.out hb2)
      have HR3 := Lib.hid R3
      have HR4 := Lib.hid R4
      have HR1b := Lib.hid (HR1.out.below hb2)
      have HR2b := Lib.hid (HR2.out.below hb2)
      clear hb2 ok2 oi2 R3 R4
      go_wp2_with (go_at_call 18; refine (HLN.out _ HB2r.out).mono ?_; rintro e x3 ⟨rfl, rfl⟩)
      go_loopw [13, 14, 15] (fun fv uv i wr => ∃ j : Nat, j ≤ L.length ∧ i = .int .i64 j ∧ Hid (Two x2.heap.size fv uv ((L.take j).filter (fun p => !lessS p.1 k)) ((L.take j).filter (fun p => beginsS p.1 k)) wr ∧ Below x2.heap.size x2 wr)) (fun _ _ i _ => L.length - (intOf i).toNat)
      case atStart => exact ⟨0, Nat.zero_le _, rfl, Lib.hid ⟨⟨by simpa [keysV] using own_nil _ _ _ _, by simpa [keysV] using own_nil _ _ _ _, fun b h => by simp [Value.ownBlock] at h⟩, Below.refl _ _⟩⟩
      case round =>
        obtain ⟨j, hj, rfl, HI2⟩ := hrel
        have hLL := HLL.out
        by_cases hlt : j < L.length
        · obtain ⟨g1, o1, rfl, k1⟩ := (HR1b.out.below HI2.out.2).key_at hlt
          obtain ⟨g2, o2, rfl, k2⟩ := (HR2b.out.below HI2.out.2).int_at hlt
          have hrl : L.length - 1 - j < L.reverse.length := by rw [List.length_reverse]; omega
          obtain ⟨g3, o3, rfl, k3⟩ := (HR3.out.below HI2.out.2).key_at hrl
          obtain ⟨g4, o4, rfl, k4⟩ := (HR4.out.below HI2.out.2).int_at hrl
          have hrev : L.reverse[L.length - 1 - j] = L[j] := by rw [List.getElem_reverse]; congr 1; omega
          rw [hrev] at k3 k4
          have hkj := HKO.out _ (List.getElem_mem hlt)
          have HX1 : Hid (∀ V, Below x2.heap.size x2 V → V.cell? ⟨g1, o1 + j, none⟩ = some (.string L[j].1)) := Lib.hid (fun V hV => by obtain ⟨g5, o5, e5, c5⟩ := (HR1b.out.below hV).key_at hlt; cases e5; exact c5)
          have hff := And.intro (refM.filter_len (fun p : KV Int => !lessS p.1 k) L j) (refM.filter_len (fun p : KV Int => beginsS p.1 k) L j)
          have HF1 := fun h => Lib.hid (refM.take_filter_yes (fun p : KV Int => !lessS p.1 k) hlt rfl h)
          have HF0 := fun h => Lib.hid (refM.take_filter_no (fun p : KV Int => !lessS p.1 k) hlt rfl h)
          have HU1 := fun h => Lib.hid (refM.take_filter_yes (fun p : KV Int => beginsS p.1 k) hlt rfl h)
          have HU0 := fun h => Lib.hid (refM.take_filter_no (fun p : KV Int => beginsS p.1 k) hlt rfl h)
          generalize L[j] = x at *
          generalize (L.take j).filter (fun p => !lessS p.1 k) = cf at *
          generalize (L.take j).filter (fun p => beginsS p.1 k) = cu at *
          have hq1 : (!(x.1.toList == x.1.toList)) = false := by simp
          have hq2 : (x.2 != x.2) = false := bne_f rfl
          have he : ((L.length : Int) - 1 - (j : Int)) = ((L.length - 1 - j : Nat) : Int) := by omega
          have HFF := Lib.hid hff
          have HLS := Lib.hid (fun V => ref_Less x.1 k V hkj hks)
          have HBG := Lib.hid (fun V => ref_Begins x.1 k V)
          generalize hgg : L.length - 1 - j = gj at *
          have hgl : gj < L.length := by omega
          clear hgg hrl hrev hkj hff
          cases hl : lessS x.1 k
          all_goals cases hbg : beginsS x.1 k
          · have HLS2 : Hid (∀ V, Calls Try.prog 14 #[.string x.1, .string k] V fun e w' => e = .returned (.bool false) ∧ Below V.heap.size V w') := Lib.hid (fun V => by rw [← hl]; exact HLS.out V)
            have HBG2 : Hid (∀ V, Calls Try.prog 23 #[.string x.1, .string k] V fun e w' => e = .returned (.bool false) ∧ V = w') := Lib.hid (fun V => by rw [← hbg]; exact HBG.out V)
            have HF := HF1 (by simp [hl])
            have HU := HU0 (by simp [hbg])
            clear hl hbg HF1 HF0 HU1 HU0 HLS HBG
            go_wp2
            go_quiet (fail)
            go_wp2_with (first
              | (go_at_call 14; refine (HLS2.out _).mono ?_; rintro e y1 ⟨rfl, hb1⟩; have hb1' : Below wr.heap.size wr y1 := ⟨hb1.os, hb1.tape, hb1.output, hb1.size, hb1.block⟩; have HB1 := Lib.hid (below2 HI2.out.2 hb1'); have HT1 := Lib.hid (HI2.out.1.below hb1'); have d1 := HX1.out _ HB1.out; clear hb1 hb1')
              | (go_at_call 23; refine (HBG2.out _).mono ?_; rintro e y2 ⟨rfl, rfl⟩)
              | (at_builtin; refine wp_app_row' eS rfl (.tmp 110) (.tmp 115) rfl x2.heap.size _ cf.length _ rfl (HT1.out.1.alloc _) (.string x.1) rfl _ 1 rfl (by first | simp | simpa using cell_of_blk (heap_alloc_new y1 (.cells #[.string x.1] 9)) 0) (by have := HFF.out; omega) (by have := HFF.out; omega) (below_alloc HB1.out _).size ?_; intro v2 w2 own2 hg2 ha2; have HT2 := Lib.hid (Two.left (HT1.out.below (below_alloc (Below.refl _ _) (.cells #[.string x.1] 9))) own2 hg2 ha2); have HB2 := Lib.hid (refM.own_grow (HT1.out.1.alloc (.cells #[.string x.1] 9)) (below_alloc HB1.out _) (below_alloc HB1.out _).size hg2); have d2 := HX1.out _ HB2.out; clear own2 hg2 ha2))
            go_roundw
            case rel => exact ⟨j + 1, by omega, by go_num, Lib.hid ⟨by rw [HF.out, HU.out]; exact HT2.out, HB2.out⟩⟩
            case measure => simp [intOf]; omega
          · have HLS2 : Hid (∀ V, Calls Try.prog 14 #[.string x.1, .string k] V fun e w' => e = .returned (.bool false) ∧ Below V.heap.size V w') := Lib.hid (fun V => by rw [← hl]; exact HLS.out V)
            have HBG2 : Hid (∀ V, Calls Try.prog 23 #[.string x.1, .string k] V fun e w' => e = .returned (.bool true) ∧ V = w') := Lib.hid (fun V => by rw [← hbg]; exact HBG.out V)
            have HF := HF1 (by simp [hl])
            have HU := HU1 (by simp [hbg])
            clear hl hbg HF1 HF0 HU1 HU0 HLS HBG
            go_wp2
            go_quiet (fail)
            go_wp2_with (first
              | (go_at_call 14; refine (HLS2.out _).mono ?_; rintro e y1 ⟨rfl, hb1⟩; have hb1' : Below wr.heap.size wr y1 := ⟨hb1.os, hb1.tape, hb1.output, hb1.size, hb1.block⟩; have HB1 := Lib.hid (below2 HI2.out.2 hb1'); have HT1 := Lib.hid (HI2.out.1.below hb1'); have d1 := HX1.out _ HB1.out; clear hb1 hb1')
              | (go_at_call 23; refine (HBG2.out _).mono ?_; rintro e y2 ⟨rfl, rfl⟩)
              | (at_builtin; refine wp_app_row' eS rfl (.tmp 110) (.tmp 115) rfl x2.heap.size _ cf.length _ rfl (HT1.out.1.alloc _) (.string x.1) rfl _ 1 rfl (by first | simp | simpa using cell_of_blk (heap_alloc_new y1 (.cells #[.string x.1] 9)) 0) (by have := HFF.out; omega) (by have := HFF.out; omega) (below_alloc HB1.out _).size ?_; intro v2 w2 own2 hg2 ha2; have HT2 := Lib.hid (Two.left (HT1.out.below (below_alloc (Below.refl _ _) (.cells #[.string x.1] 9))) own2 hg2 ha2); have HB2 := Lib.hid (refM.own_grow (HT1.out.1.alloc (.cells #[.string x.1] 9)) (below_alloc HB1.out _) (below_alloc HB1.out _).size hg2); have d2 := HX1.out _ HB2.out; clear own2 hg2 ha2)
              | (at_builtin; refine wp_app_row' eS rfl (.tmp 118) (.tmp 123) rfl x2.heap.size _ cu.length _ rfl (HT2.out.2.1.alloc _) (.string x.1) rfl _ 1 rfl (by first | simp | simpa using cell_of_blk (heap_alloc_new w2 (.cells #[.string x.1] 9)) 0) (by have := HFF.out; omega) (by have := HFF.out; omega) (below_alloc HB2.out _).size ?_; intro v3 w3 own3 hg3 ha3; have HT3 := Lib.hid (Two.right (HT2.out.below (below_alloc (Below.refl _ _) (.cells #[.string x.1] 9))) own3 hg3 ha3); have HB3 := Lib.hid (refM.own_grow (HT2.out.2.1.alloc (.cells #[.string x.1] 9)) (below_alloc HB2.out _) (below_alloc HB2.out _).size hg3); have d3 := HX1.out _ HB3.out; clear own3 hg3 ha3))
            go_roundw
            case rel => exact ⟨j + 1, by omega, by go_num, Lib.hid ⟨by rw [HF.out, HU.out]; exact HT3.out, HB3.out⟩⟩
            case measure => simp [intOf]; omega
          · have HLS2 : Hid (∀ V, Calls Try.prog 14 #[.string x.1, .string k] V fun e w' => e = .returned (.bool true) ∧ Below V.heap.size V w') := Lib.hid (fun V => by rw [← hl]; exact HLS.out V)
            have HBG2 : Hid (∀ V, Calls Try.prog 23 #[.string x.1, .string k] V fun e w' => e = .returned (.bool false) ∧ V = w') := Lib.hid (fun V => by rw [← hbg]; exact HBG.out V)
            have HF := HF0 (by simp [hl])
            have HU := HU0 (by simp [hbg])
            clear hl hbg HF1 HF0 HU1 HU0 HLS HBG
            go_wp2
            go_quiet (fail)
            go_wp2_with (first
              | (go_at_call 14; refine (HLS2.out _).mono ?_; rintro e y1 ⟨rfl, hb1⟩; have hb1' : Below wr.heap.size wr y1 := ⟨hb1.os, hb1.tape, hb1.output, hb1.size, hb1.block⟩; have HB1 := Lib.hid (below2 HI2.out.2 hb1'); have HT1 := Lib.hid (HI2.out.1.below hb1'); have d1 := HX1.out _ HB1.out; clear hb1 hb1')
              | (go_at_call 23; refine (HBG2.out _).mono ?_; rintro e y2 ⟨rfl, rfl⟩))
            go_roundw
            case rel => exact ⟨j + 1, by omega, by go_num, Lib.hid ⟨by rw [HF.out, HU.out]; exact HT1.out, HB1.out⟩⟩
            case measure => simp [intOf]; omega
          · have HLS2 : Hid (∀ V, Calls Try.prog 14 #[.string x.1, .string k] V fun e w' => e = .returned (.bool true) ∧ Below V.heap.size V w') := Lib.hid (fun V => by rw [← hl]; exact HLS.out V)
            have HBG2 : Hid (∀ V, Calls Try.prog 23 #[.string x.1, .string k] V fun e w' => e = .returned (.bool true) ∧ V = w') := Lib.hid (fun V => by rw [← hbg]; exact HBG.out V)
            have HF := HF0 (by simp [hl])
            have HU := HU1 (by simp [hbg])
            clear hl hbg HF1 HF0 HU1 HU0 HLS HBG
            go_wp2
            go_quiet (fail)
            go_wp2_with (first
              | (go_at_call 14; refine (HLS2.out _).mono ?_; rintro e y1 ⟨rfl, hb1⟩; have hb1' : Below wr.heap.size wr y1 := ⟨hb1.os, hb1.tape, hb1.output, hb1.size, hb1.block⟩; have HB1 := Lib.hid (below2 HI2.out.2 hb1'); have HT1 := Lib.hid (HI2.out.1.below hb1'); have d1 := HX1.out _ HB1.out; clear hb1 hb1')
              | (go_at_call 23; refine (HBG2.out _).mono ?_; rintro e y2 ⟨rfl, rfl⟩)
              | (at_builtin; refine wp_app_row' eS rfl (.tmp 118) (.tmp 123) rfl x2.heap.size _ cu.length _ rfl (HT1.out.2.1.alloc _) (.string x.1) rfl _ 1 rfl (by first | simp | simpa using cell_of_blk (heap_alloc_new y1 (.cells #[.string x.1] 9)) 0) (by have := HFF.out; omega) (by have := HFF.out; omega) (below_alloc HB1.out _).size ?_; intro v3 w3 own3 hg3 ha3; have HT3 := Lib.hid (Two.right (HT1.out.below (below_alloc (Below.refl _ _) (.cells #[.string x.1] 9))) own3 hg3 ha3); have HB3 := Lib.hid (refM.own_grow (HT1.out.2.1.alloc (.cells #[.string x.1] 9)) (below_alloc HB1.out _) (below_alloc HB1.out _).size hg3); have d3 := HX1.out _ HB3.out; clear own3 hg3 ha3))
            go_roundw
            case rel => exact ⟨j + 1, by omega, by go_num, Lib.hid ⟨by rw [HF.out, HU.out]; exact HT3.out, HB3.out⟩⟩
            case measure => simp [intOf]; omega
        · obtain rfl : j = L.length := by omega
          rw [List.take_length] at HI2
          obtain ⟨⟨of_, ou_, _⟩, hb3⟩ := id HI2.out
          have H5b := Lib.hid (H5.out _ (below2 HB2r.out hb3))
          have HBx := Lib.hid (below2 HB2r.out hb3)
          obtain ⟨A5, c5, rfl, R5⟩ := rows_of of_
          obtain ⟨A6, c6, rfl, R6⟩ := rows_of ou_
          have HR5 := Lib.hid R5
          have HR6 := Lib.hid R6
          have hlf : (L.filter (fun p => !lessS p.1 k)).length ≤ L.length := List.length_filter_le _ _
          have hlu : (L.filter (fun p => beginsS p.1 k)).length ≤ L.length := List.length_filter_le _ _
          clear of_ ou_ hb3 R5 R6 HI2
          generalize L.filter (fun p => !lessS p.1 k) = LF at *
          generalize L.filter (fun p => beginsS p.1 k) = LU at *
          go_wp2_with fail
          go_at_call 19
          refine H5b.out.mono ?_
          rintro e x4 ⟨kv, vv, rfl, ok4, oi4, hb4⟩
          obtain ⟨A7, c7, rfl, R7⟩ := rows_of ok4
          obtain ⟨A8, c8, rfl, R8⟩ := rows_of oi4
          have HBy := Lib.hid (below2 HBx.out hb4)
          have HR5b := Lib.hid (HR5.out.below hb4)
          have HR6b := Lib.hid (HR6.out.below hb4)
          have HR7 := Lib.hid R7
          have HR8 := Lib.hid R8
          clear hb4 ok4 oi4 R7 R8
          go_wp2_with fail
          go_at_call 19
          refine (H7.out _ HBy.out).mono ?_
          rintro e x5 ⟨kv, vv, rfl, ok5, oi5, hb5⟩
          obtain ⟨A9, c9, rfl, R9⟩ := rows_of ok5
          obtain ⟨Aa, ca, rfl, Ra⟩ := rows_of oi5
          have HBz := Lib.hid (below2 HBW.out (below2 HBy.out hb5))
          have HR5c := Lib.hid (HR5b.out.below hb5)
          have HR6c := Lib.hid (HR6b.out.below hb5)
          have HR7c := Lib.hid (HR7.out.below hb5)
          have HR8c := Lib.hid (HR8.out.below hb5)
          have HR9 := Lib.hid R9
          have HRa := Lib.hid Ra
          clear hb5 ok5 oi5 R9 Ra
          have hal := alike_true A7 A8 A5 A8 c7 c8 c5 c8 _ _ (-1) LF LF x5 (most_neg LF).symm (by omega) rfl rfl HR7c.out HR8c.out HR5c.out HR8c.out
          go_wp2_with fail
          go_at_call 20
          refine hal.mono ?_
          rintro e x6 ⟨rfl, hb6⟩
          have hal2 := alike_true A9 Aa A6 Aa c9 ca c6 ca _ _ (-1) LU LU x6 (most_neg LU).symm (by omega) rfl rfl (HR9.out.below hb6) (HRa.out.below hb6) (HR6c.out.below hb6) (HRa.out.below hb6)
          have HBf := Lib.hid (below2 HBz.out hb6)
          clear hb6 hal
          go_wp2_with (go_at_call 20; refine hal2.mono ?_; rintro e x7 ⟨rfl, hb7⟩; have HBg := Lib.hid (below2 HBf.out hb7); clear hb7)
          go_ret
          exact ⟨rfl, HBg.out⟩
end Go.Proofs.Ytncgcjfpoableaa
