/-
  The law's does: an act is answered as the reference answers it, and both maps have the same behind it.
-/
import Derived.Test.YtncgcjfpoableaaSrtY
set_option linter.unusedVariables false
set_option linter.unusedSimpArgs false
namespace Go.Proofs.Ytncgcjfpoableaa
open Go Go.RowKit Go.Proofs.Base
open Go.Proofs.Ytncgcjfpoableaa.srtI (RangedTo Holds PRow MapP PutTo DelTo)
open Go.Proofs.Ytncgcjfpoableaa.refM (RMapP PutR DelR)
/-- the map at b and the reference's at r have both l -/
def St (B : Nat → Prop) (b r : Nat) (l : List (KV Int)) (w : World) : Prop := b ≠ r ∧ KeysOk l ∧ MapP w B b l ∧ RMapP w B r l
theorem St.below {B : Nat → Prop} {b r : Nat} {l : List (KV Int)} {w w' : World} (h : St B b r l w) (hb : Below w.heap.size w w') : St B b r l w' := ⟨h.1, h.2.1, h.2.2.1.below hb, h.2.2.2.below hb⟩
theorem St.holds {B : Nat → Prop} {b r : Nat} {l : List (KV Int)} {w : World} (h : St B b r l w) : ∃ A c, Holds w (some ⟨b, 0, none⟩) (.slice A l.length c) ∧ PRow w (fun g => ¬ B g) A l.length c l ∧ Rises l := by
  obtain ⟨_, _, ⟨_, _, A, c, hb, hr, hs⟩, _⟩ := h
  exact ⟨A, c, .inr ⟨b, rfl, cell_of_blk hb 0⟩, hr, hs⟩
theorem St.rises {B : Nat → Prop} {b r : Nat} {l : List (KV Int)} {w : World} (h : St B b r l w) : Rises l := by
  obtain ⟨A, c, _, _, h⟩ := h.holds; exact h
def doK (kind : Int) (k : ByteArray) (v : Int) (l : List (KV Int)) : List (KV Int) := if kind = 1 then putK k v l else if kind = 3 then delK k l else l
def DoesTo (B : Nat → Prop) (b r : Nat) (l : List (KV Int)) (w : World) (e : Ending) (w' : World) : Prop := e = .returned (.bool true) ∧ St B b r l w' ∧ Mut (fun x => x = b ∨ x = r) w w'
theorem doK_len (kind : Int) (k : ByteArray) (v : Int) (l : List (KV Int)) : (doK kind k v l).length ≤ l.length + 1 := by
  unfold doK
  split
  · exact putK_len v
  · split
    · have := delK_len (k := k) (l := l); omega
    · omega
theorem both_mut {b r : Nat} {w w1 w2 : World} (h : Mut (fun x => x = b) w w1) (k : Mut (fun x => x = r) w1 w2) : Mut (fun x => x = b ∨ x = r) w w2 :=
  (h.mono (T' := fun x => x = b ∨ x = r) (fun _ _ h => .inl h)).trans k (fun _ _ h => .inr h)
theorem from_alloc {T : Nat → Prop} {w X : World} {o : Obj} (h : Mut T (w.alloc o) X) : Mut T w X := ((Mut.refl T w).alloc o).trans h (fun _ _ h => h)
set_option maxRecDepth 100000 in
set_option maxHeartbeats 4000000 in
theorem does_1 (B : Nat → Prop) (b r : Nat) (k : ByteArray) (v : Int) (l : List (KV Int)) (w : World) (h : St B b r l w) (hk : k.size ≤ 9223372036854775807) (hn : l.length + 1 ≤ 8796093022208) :
    Calls Try.prog 17 #[.pointer (some ⟨b, 0, none⟩), .pointer (some ⟨r, 0, none⟩), .agg #[.int .i64 1, .string k, .int .i64 v]] w (DoesTo B b r (putK k v l) w) := by
  have hb0 : Below w.heap.size w (w.alloc (.cells #[.int .i64 1, .string k, .int .i64 v] 43)) := (Below.refl _ _).alloc (Nat.le_refl _) _
  have h0 := h.below hb0
  have hA : (w.alloc (.cells #[.int .i64 1, .string k, .int .i64 v] 43)).heap[w.heap.size]? = some (.cells #[.int .i64 1, .string k, .int .i64 v] 43 (0, 0)) := heap_alloc_new w _
  obtain ⟨hne, hok, hM, hR⟩ := id h0
  have hMl := hM.2.1
  have hbl : b < w.heap.size := h.2.2.1.2.1 b h.2.2.1.1
  have hrl : r < w.heap.size := h.2.2.2.2.1 r h.2.2.2.1
  have hBb := hM.1
  have hBr := hR.1
  have hrs := h.rises
  have HA := Lib.hid hA
  have hP := srtI.put_any B b k v l _ hM (by omega)
  have HR := Lib.hid hR
  have HOK := Lib.hid hok
  have HRS := Lib.hid hrs
  have HKO := Lib.hid (hok.put hk v)
  have HMT : Hid (∀ W, Mut (fun x => x = b) (w.alloc (.cells #[.int .i64 1, .string k, .int .i64 v] 43)) W → Calls Try.prog 34 #[.pointer (some ⟨r, 0, none⟩), .string k, .int .i64 v] W (PutR B r k v l W)) :=
    Lib.hid (fun W hW => refM.put_r B r k v l W (hR.mut hW (fun g e => by rw [e]; exact ⟨hBb, hne⟩)) hk hok hrs hn)
  generalize hv0 : getK 0 k l = v0 at *
  generalize hh : hasK k l = hb at *
  have HV0 := Lib.hid hv0
  have HHH := Lib.hid hh
  clear hA h h0 hM hR hok hrs hb0 hMl hv0 hh
  have hq1 : (v0 == v0) = true := beq_t rfl
  have hq2 : (hb == hb) = true := by simp
  go_enter Try.func17, Try.ntmps17
  go_wp2_with (first
    | (go_at_call 24; refine hP.mono ?_; rintro e w1 ⟨rfl, hM1, hm1⟩; rw [HV0.out, HHH.out]; have a1 := hm1.blk HA.out (by omega); have k1 := cell_of_blk a1 1; have k2 := cell_of_blk a1 2; have HM1 := Lib.hid hM1; have Hm1 := Lib.hid hm1; have hP2 := HMT.out w1 hm1; clear hM1 hm1 a1)
    | (go_at_call 34; refine hP2.mono ?_; rintro e w2 ⟨rfl, hR2, hm2⟩; rw [HV0.out, HHH.out]; have HR2 := Lib.hid hR2; have Hm2 := Lib.hid hm2; clear hR2 hm2))
  go_ret
  exact ⟨ret1 (vbool (by first | rfl | simp)), ⟨hne, HKO.out, HM1.out.mut Hm2.out (fun g e => by rw [e]; exact ⟨hBr, fun h => hne h.symm⟩), HR2.out⟩, from_alloc (both_mut Hm1.out Hm2.out)⟩
set_option maxRecDepth 100000 in
set_option maxHeartbeats 4000000 in
theorem does_3 (B : Nat → Prop) (b r : Nat) (k : ByteArray) (v : Int) (l : List (KV Int)) (w : World) (h : St B b r l w) (hk : k.size ≤ 9223372036854775807) (hn : l.length + 1 ≤ 8796093022208) :
    Calls Try.prog 17 #[.pointer (some ⟨b, 0, none⟩), .pointer (some ⟨r, 0, none⟩), .agg #[.int .i64 3, .string k, .int .i64 v]] w (DoesTo B b r (delK k l) w) := by
  have hb0 : Below w.heap.size w (w.alloc (.cells #[.int .i64 3, .string k, .int .i64 v] 43)) := (Below.refl _ _).alloc (Nat.le_refl _) _
  have h0 := h.below hb0
  have hA : (w.alloc (.cells #[.int .i64 3, .string k, .int .i64 v] 43)).heap[w.heap.size]? = some (.cells #[.int .i64 3, .string k, .int .i64 v] 43 (0, 0)) := heap_alloc_new w _
  obtain ⟨hne, hok, hM, hR⟩ := id h0
  have hMl := hM.2.1
  have hbl : b < w.heap.size := h.2.2.1.2.1 b h.2.2.1.1
  have hrl : r < w.heap.size := h.2.2.2.2.1 r h.2.2.2.1
  have hBb := hM.1
  have hBr := hR.1
  have hrs := h.rises
  have HA := Lib.hid hA
  have hP := srtI.del_any B b k l _ hM (by omega)
  have HKO := Lib.hid (hok.del k)
  have HMT : Hid (∀ W, Mut (fun x => x = b) (w.alloc (.cells #[.int .i64 3, .string k, .int .i64 v] 43)) W → Calls Try.prog 36 #[.pointer (some ⟨r, 0, none⟩), .string k] W (DelR B r k l W)) :=
    Lib.hid (fun W hW => refM.del_r B r k l W (hR.mut hW (fun g e => by rw [e]; exact ⟨hBb, hne⟩)) hk hok (by omega))
  generalize hv0 : getK 0 k l = v0 at *
  generalize hh : hasK k l = hb at *
  have HV0 := Lib.hid hv0
  have HHH := Lib.hid hh
  clear hA h h0 hM hR hok hrs hb0 hMl hv0 hh
  have hq1 : (v0 == v0) = true := beq_t rfl
  have hq2 : (hb == hb) = true := by simp
  go_enter Try.func17, Try.ntmps17
  go_wp2_with (first
    | (go_at_call 25; refine hP.mono ?_; rintro e w1 ⟨rfl, hM1, hm1⟩; rw [HV0.out, HHH.out]; have a1 := hm1.blk HA.out (by omega); have k1 := cell_of_blk a1 1; have HM1 := Lib.hid hM1; have Hm1 := Lib.hid hm1; have hP2 := HMT.out w1 hm1; clear hM1 hm1 a1)
    | (go_at_call 36; refine hP2.mono ?_; rintro e w2 ⟨rfl, hR2, hm2⟩; rw [HV0.out, HHH.out]; have HR2 := Lib.hid hR2; have Hm2 := Lib.hid hm2; clear hR2 hm2))
  go_ret
  exact ⟨ret1 (vbool (by first | rfl | simp)), ⟨hne, HKO.out, HM1.out.mut Hm2.out (fun g e => by rw [e]; exact ⟨hBr, fun h => hne h.symm⟩), HR2.out⟩, from_alloc (both_mut Hm1.out Hm2.out)⟩
set_option maxRecDepth 100000 in
set_option maxHeartbeats 4000000 in
theorem does_2 (B : Nat → Prop) (b r : Nat) (k : ByteArray) (v : Int) (l : List (KV Int)) (w : World) (h : St B b r l w) (hk : k.size ≤ 9223372036854775807) (hn : l.length + 1 ≤ 8796093022208) :
    Calls Try.prog 17 #[.pointer (some ⟨b, 0, none⟩), .pointer (some ⟨r, 0, none⟩), .agg #[.int .i64 2, .string k, .int .i64 v]] w (DoesTo B b r (l) w) := by
  have hb0 : Below w.heap.size w (w.alloc (.cells #[.int .i64 2, .string k, .int .i64 v] 43)) := (Below.refl _ _).alloc (Nat.le_refl _) _
  have h0 := h.below hb0
  have hA : (w.alloc (.cells #[.int .i64 2, .string k, .int .i64 v] 43)).heap[w.heap.size]? = some (.cells #[.int .i64 2, .string k, .int .i64 v] 43 (0, 0)) := heap_alloc_new w _
  obtain ⟨hne, hok, hM, hR⟩ := id h0
  have hMl := hM.2.1
  have hbl : b < w.heap.size := h.2.2.1.2.1 b h.2.2.1.1
  have hrl : r < w.heap.size := h.2.2.2.2.1 r h.2.2.2.1
  have hBb := hM.1
  have hBr := hR.1
  have hrs := h.rises
  have HA := Lib.hid hA
  obtain ⟨A, c, hH, hPR, _⟩ := h0.holds
  have hP := srtI.get_any _ _ A _ c k l _ hH (by omega) hPR hrs
  have HST := Lib.hid h0
  have HMT : Hid (∀ W, Below (w.alloc (.cells #[.int .i64 2, .string k, .int .i64 v] 43)).heap.size (w.alloc (.cells #[.int .i64 2, .string k, .int .i64 v] 43)) W → Calls Try.prog 35 #[.pointer (some ⟨r, 0, none⟩), .string k] W fun e w' => e = .returned (.tuple #[.int .i64 (getK 0 k l), .bool (hasK k l)]) ∧ Below W.heap.size W w') :=
    Lib.hid (fun W hW => refM.get_r B r k l W (hR.below hW) hk hok (by omega))
  generalize hv0 : getK 0 k l = v0 at *
  generalize hh : hasK k l = hb at *
  have HB0 := Lib.hid hb0
  clear hA h h0 hM hR hok hrs hb0 hMl hH hPR hv0 hh
  have hq1 : (v0 == v0) = true := beq_t rfl
  have hq2 : (hb == hb) = true := by simp
  go_enter Try.func17, Try.ntmps17
  go_wp2_with (first
    | (go_at_call 26; refine hP.mono ?_; rintro e w1 ⟨rfl, hb1⟩; have k1 := cell_of_blk (block_below hb1 HA.out) 1; have HB1 := Lib.hid hb1; have hP2 := HMT.out w1 hb1; clear hb1)
    | (go_at_call 35; refine hP2.mono ?_; rintro e w2 ⟨rfl, hb2⟩; have HB2 := Lib.hid (below2 HB1.out hb2); clear hb2))
  go_ret
  exact ⟨ret1 (vbool (by first | rfl | simp)), HST.out.below HB2.out, Mut.of_below (below2 HB0.out HB2.out) _⟩
set_option maxRecDepth 100000 in
set_option maxHeartbeats 4000000 in
theorem does_0 (B : Nat → Prop) (b r : Nat) (kind : Int) (h1 : kind ≠ 1) (h2 : kind ≠ 2) (h3 : kind ≠ 3) (h4 : kind ≠ 4) (h5 : kind ≠ 5) (h6 : kind ≠ 6) (h7 : kind ≠ 7) (k : ByteArray) (v : Int) (l : List (KV Int)) (w : World) (h : St B b r l w) (hk : k.size ≤ 9223372036854775807) (hn : l.length + 1 ≤ 8796093022208) :
    Calls Try.prog 17 #[.pointer (some ⟨b, 0, none⟩), .pointer (some ⟨r, 0, none⟩), .agg #[.int .i64 kind, .string k, .int .i64 v]] w (DoesTo B b r (l) w) := by
  have q1 := beq_f h1
  have q2 := beq_f h2
  have q3 := beq_f h3
  have q4 := beq_f h4
  have q5 := beq_f h5
  have q6 := beq_f h6
  have q7 := beq_f h7
  clear h1 h2 h3 h4 h5 h6 h7
  have hb0 : Below w.heap.size w (w.alloc (.cells #[.int .i64 kind, .string k, .int .i64 v] 43)) := (Below.refl _ _).alloc (Nat.le_refl _) _
  have h0 := h.below hb0
  have hA : (w.alloc (.cells #[.int .i64 kind, .string k, .int .i64 v] 43)).heap[w.heap.size]? = some (.cells #[.int .i64 kind, .string k, .int .i64 v] 43 (0, 0)) := heap_alloc_new w _
  obtain ⟨hne, hok, hM, hR⟩ := id h0
  have hMl := hM.2.1
  have hbl : b < w.heap.size := h.2.2.1.2.1 b h.2.2.1.1
  have hrl : r < w.heap.size := h.2.2.2.2.1 r h.2.2.2.1
  have hBb := hM.1
  have hBr := hR.1
  have hrs := h.rises
  have HA := Lib.hid hA
  have HST := Lib.hid h0
  have HB0 := Lib.hid hb0
  clear hA h h0 hM hR hok hrs hb0 hMl
  go_enter Try.func17, Try.ntmps17
  go_wp2
  go_ret
  exact ⟨rfl, HST.out, Mut.of_below HB0.out _⟩
set_option maxRecDepth 100000 in
set_option maxHeartbeats 4000000 in
theorem does_4 (B : Nat → Prop) (b r : Nat) (k : ByteArray) (v : Int) (l : List (KV Int)) (w : World) (h : St B b r l w) (hk : k.size ≤ 9223372036854775807) (hn : l.length + 1 ≤ 8796093022208) :
    Calls Try.prog 17 #[.pointer (some ⟨b, 0, none⟩), .pointer (some ⟨r, 0, none⟩), .agg #[.int .i64 4, .string k, .int .i64 v]] w (DoesTo B b r (l) w) := by
  have hb0 : Below w.heap.size w (w.alloc (.cells #[.int .i64 4, .string k, .int .i64 v] 43)) := (Below.refl _ _).alloc (Nat.le_refl _) _
  have h0 := h.below hb0
  have hA : (w.alloc (.cells #[.int .i64 4, .string k, .int .i64 v] 43)).heap[w.heap.size]? = some (.cells #[.int .i64 4, .string k, .int .i64 v] 43 (0, 0)) := heap_alloc_new w _
  obtain ⟨hne, hok, hM, hR⟩ := id h0
  have hMl := hM.2.1
  have hbl : b < w.heap.size := h.2.2.1.2.1 b h.2.2.1.1
  have hrl : r < w.heap.size := h.2.2.2.2.1 r h.2.2.2.1
  have hBb := hM.1
  have hBr := hR.1
  have hrs := h.rises
  have HA := Lib.hid hA
  obtain ⟨A, c, hH, hPR, _⟩ := h0.holds
  have hP := ranged_any _ _ A _ c 4 v k l _ hH hPR hrs (by omega)
  have HST := Lib.hid h0
  have HMT : Hid (∀ W, Below (w.alloc (.cells #[.int .i64 4, .string k, .int .i64 v] 43)).heap.size (w.alloc (.cells #[.int .i64 4, .string k, .int .i64 v] 43)) W → Calls Try.prog 21 #[.pointer (some ⟨r, 0, none⟩), .int .i64 1, .string k] W (RangedTo (rangeK 4 k l) W)) :=
    Lib.hid (fun W hW => range_any B r 4 k l W (hR.below hW) hk hok (by omega) hrs _ (by omega))
  have hL2 := rangeK_len 4 k l
  generalize rangeK 4 k l = L2 at *
  generalize hL1 : mostK v L2 = L1 at *
  have HL1 := Lib.hid hL1
  have HB0 := Lib.hid hb0
  clear hA h h0 hM hR hok hrs hb0 hMl hH hPR hL1
  go_enter Try.func17, Try.ntmps17
  go_wp2_with (first
    | (go_at_call 19; refine hP.mono ?_; rintro e w1 ⟨kv, vv, rfl, ok1, oi1, hb1⟩; obtain ⟨A1, c1, rfl, R1⟩ := rows_of ok1; obtain ⟨A2, c2, rfl, R2⟩ := rows_of oi1; have k0 := cell_of_blk (block_below hb1 HA.out) 0; have k1 := cell_of_blk (block_below hb1 HA.out) 1; have HB1 := Lib.hid hb1; have HR1 := Lib.hid R1; have HR2 := Lib.hid R2; have hP2 := HMT.out w1 hb1; clear hb1 ok1 oi1 R1 R2)
    | (go_at_call 21; refine hP2.mono ?_; rintro e w2 ⟨kv, vv, rfl, ok2, oi2, hb2⟩; obtain ⟨A3, c3, rfl, R3⟩ := rows_of ok2; obtain ⟨A4, c4, rfl, R4⟩ := rows_of oi2; have HB2 := Lib.hid (below2 HB1.out hb2); have k2 := cell_of_blk (block_below (below2 HB1.out hb2) HA.out) 2; have hal := alike_true A1 A2 A3 A4 c1 c2 c3 c4 _ _ v L1 L2 w2 HL1.out.symm (by omega) rfl rfl (HR1.out.below hb2) (HR2.out.below hb2) R3 R4; clear hb2 ok2 oi2 R3 R4 k0 k1)
    | (go_at_call 20; refine hal.mono ?_; rintro e w3 ⟨rfl, hb3⟩; have HB3 := Lib.hid (below2 HB2.out hb3); clear hb3 k2))
  go_ret
  exact ⟨rfl, HST.out.below HB3.out, Mut.of_below (below2 HB0.out HB3.out) _⟩
set_option maxRecDepth 100000 in
set_option maxHeartbeats 4000000 in
theorem does_5 (B : Nat → Prop) (b r : Nat) (k : ByteArray) (v : Int) (l : List (KV Int)) (w : World) (h : St B b r l w) (hk : k.size ≤ 9223372036854775807) (hn : l.length + 1 ≤ 8796093022208) :
    Calls Try.prog 17 #[.pointer (some ⟨b, 0, none⟩), .pointer (some ⟨r, 0, none⟩), .agg #[.int .i64 5, .string k, .int .i64 v]] w (DoesTo B b r (l) w) := by
  have hb0 : Below w.heap.size w (w.alloc (.cells #[.int .i64 5, .string k, .int .i64 v] 43)) := (Below.refl _ _).alloc (Nat.le_refl _) _
  have h0 := h.below hb0
  have hA : (w.alloc (.cells #[.int .i64 5, .string k, .int .i64 v] 43)).heap[w.heap.size]? = some (.cells #[.int .i64 5, .string k, .int .i64 v] 43 (0, 0)) := heap_alloc_new w _
  obtain ⟨hne, hok, hM, hR⟩ := id h0
  have hMl := hM.2.1
  have hbl : b < w.heap.size := h.2.2.1.2.1 b h.2.2.1.1
  have hrl : r < w.heap.size := h.2.2.2.2.1 r h.2.2.2.1
  have hBb := hM.1
  have hBr := hR.1
  have hrs := h.rises
  have HA := Lib.hid hA
  obtain ⟨A, c, hH, hPR, _⟩ := h0.holds
  have hP := ranged_any _ _ A _ c 5 v k l _ hH hPR hrs (by omega)
  have HST := Lib.hid h0
  have HMT : Hid (∀ W, Below (w.alloc (.cells #[.int .i64 5, .string k, .int .i64 v] 43)).heap.size (w.alloc (.cells #[.int .i64 5, .string k, .int .i64 v] 43)) W → Calls Try.prog 21 #[.pointer (some ⟨r, 0, none⟩), .int .i64 2, .string k] W (RangedTo (rangeK 5 k l) W)) :=
    Lib.hid (fun W hW => range_any B r 5 k l W (hR.below hW) hk hok (by omega) hrs _ (by omega))
  have hL2 := rangeK_len 5 k l
  generalize rangeK 5 k l = L2 at *
  generalize hL1 : mostK v L2 = L1 at *
  have HL1 := Lib.hid hL1
  have HB0 := Lib.hid hb0
  clear hA h h0 hM hR hok hrs hb0 hMl hH hPR hL1
  go_enter Try.func17, Try.ntmps17
  go_wp2_with (first
    | (go_at_call 19; refine hP.mono ?_; rintro e w1 ⟨kv, vv, rfl, ok1, oi1, hb1⟩; obtain ⟨A1, c1, rfl, R1⟩ := rows_of ok1; obtain ⟨A2, c2, rfl, R2⟩ := rows_of oi1; have k0 := cell_of_blk (block_below hb1 HA.out) 0; have k1 := cell_of_blk (block_below hb1 HA.out) 1; have HB1 := Lib.hid hb1; have HR1 := Lib.hid R1; have HR2 := Lib.hid R2; have hP2 := HMT.out w1 hb1; clear hb1 ok1 oi1 R1 R2)
    | (go_at_call 21; refine hP2.mono ?_; rintro e w2 ⟨kv, vv, rfl, ok2, oi2, hb2⟩; obtain ⟨A3, c3, rfl, R3⟩ := rows_of ok2; obtain ⟨A4, c4, rfl, R4⟩ := rows_of oi2; have HB2 := Lib.hid (below2 HB1.out hb2); have k2 := cell_of_blk (block_below (below2 HB1.out hb2) HA.out) 2; have hal := alike_true A1 A2 A3 A4 c1 c2 c3 c4 _ _ v L1 L2 w2 HL1.out.symm (by omega) rfl rfl (HR1.out.below hb2) (HR2.out.below hb2) R3 R4; clear hb2 ok2 oi2 R3 R4 k0 k1)
    | (go_at_call 20; refine hal.mono ?_; rintro e w3 ⟨rfl, hb3⟩; have HB3 := Lib.hid (below2 HB2.out hb3); clear hb3 k2))
  go_ret
  exact ⟨rfl, HST.out.below HB3.out, Mut.of_below (below2 HB0.out HB3.out) _⟩
set_option maxRecDepth 100000 in
set_option maxHeartbeats 4000000 in
theorem does_6 (B : Nat → Prop) (b r : Nat) (k : ByteArray) (v : Int) (l : List (KV Int)) (w : World) (h : St B b r l w) (hk : k.size ≤ 9223372036854775807) (hn : l.length + 1 ≤ 8796093022208) :
    Calls Try.prog 17 #[.pointer (some ⟨b, 0, none⟩), .pointer (some ⟨r, 0, none⟩), .agg #[.int .i64 6, .string k, .int .i64 v]] w (DoesTo B b r (l) w) := by
  have hb0 : Below w.heap.size w (w.alloc (.cells #[.int .i64 6, .string k, .int .i64 v] 43)) := (Below.refl _ _).alloc (Nat.le_refl _) _
  have h0 := h.below hb0
  have hA : (w.alloc (.cells #[.int .i64 6, .string k, .int .i64 v] 43)).heap[w.heap.size]? = some (.cells #[.int .i64 6, .string k, .int .i64 v] 43 (0, 0)) := heap_alloc_new w _
  obtain ⟨hne, hok, hM, hR⟩ := id h0
  have hMl := hM.2.1
  have hbl : b < w.heap.size := h.2.2.1.2.1 b h.2.2.1.1
  have hrl : r < w.heap.size := h.2.2.2.2.1 r h.2.2.2.1
  have hBb := hM.1
  have hBr := hR.1
  have hrs := h.rises
  have HA := Lib.hid hA
  obtain ⟨A, c, hH, hPR, _⟩ := h0.holds
  have hP := ranged_any _ _ A _ c 6 v k l _ hH hPR hrs (by omega)
  have HST := Lib.hid h0
  have HMT : Hid (∀ W, Below (w.alloc (.cells #[.int .i64 6, .string k, .int .i64 v] 43)).heap.size (w.alloc (.cells #[.int .i64 6, .string k, .int .i64 v] 43)) W → Calls Try.prog 21 #[.pointer (some ⟨r, 0, none⟩), .int .i64 3, .string k] W (RangedTo (rangeK 6 k l) W)) :=
    Lib.hid (fun W hW => range_any B r 6 k l W (hR.below hW) hk hok (by omega) hrs _ (by omega))
  have hL2 := rangeK_len 6 k l
  generalize rangeK 6 k l = L2 at *
  generalize hL1 : mostK v L2 = L1 at *
  have HL1 := Lib.hid hL1
  have HB0 := Lib.hid hb0
  clear hA h h0 hM hR hok hrs hb0 hMl hH hPR hL1
  go_enter Try.func17, Try.ntmps17
  go_wp2_with (first
    | (go_at_call 19; refine hP.mono ?_; rintro e w1 ⟨kv, vv, rfl, ok1, oi1, hb1⟩; obtain ⟨A1, c1, rfl, R1⟩ := rows_of ok1; obtain ⟨A2, c2, rfl, R2⟩ := rows_of oi1; have k0 := cell_of_blk (block_below hb1 HA.out) 0; have k1 := cell_of_blk (block_below hb1 HA.out) 1; have HB1 := Lib.hid hb1; have HR1 := Lib.hid R1; have HR2 := Lib.hid R2; have hP2 := HMT.out w1 hb1; clear hb1 ok1 oi1 R1 R2)
    | (go_at_call 21; refine hP2.mono ?_; rintro e w2 ⟨kv, vv, rfl, ok2, oi2, hb2⟩; obtain ⟨A3, c3, rfl, R3⟩ := rows_of ok2; obtain ⟨A4, c4, rfl, R4⟩ := rows_of oi2; have HB2 := Lib.hid (below2 HB1.out hb2); have k2 := cell_of_blk (block_below (below2 HB1.out hb2) HA.out) 2; have hal := alike_true A1 A2 A3 A4 c1 c2 c3 c4 _ _ v L1 L2 w2 HL1.out.symm (by omega) rfl rfl (HR1.out.below hb2) (HR2.out.below hb2) R3 R4; clear hb2 ok2 oi2 R3 R4 k0 k1)
    | (go_at_call 20; refine hal.mono ?_; rintro e w3 ⟨rfl, hb3⟩; have HB3 := Lib.hid (below2 HB2.out hb3); clear hb3 k2))
  go_ret
  exact ⟨rfl, HST.out.below HB3.out, Mut.of_below (below2 HB0.out HB3.out) _⟩
set_option maxRecDepth 100000 in
set_option maxHeartbeats 4000000 in
theorem does_7 (B : Nat → Prop) (b r : Nat) (k : ByteArray) (v : Int) (l : List (KV Int)) (w : World) (h : St B b r l w) (hk : k.size ≤ 9223372036854775807) (hn : l.length + 1 ≤ 8796093022208) :
    Calls Try.prog 17 #[.pointer (some ⟨b, 0, none⟩), .pointer (some ⟨r, 0, none⟩), .agg #[.int .i64 7, .string k, .int .i64 v]] w (DoesTo B b r (l) w) := by
  have hb0 : Below w.heap.size w (w.alloc (.cells #[.int .i64 7, .string k, .int .i64 v] 43)) := (Below.refl _ _).alloc (Nat.le_refl _) _
  have h0 := h.below hb0
  have hA : (w.alloc (.cells #[.int .i64 7, .string k, .int .i64 v] 43)).heap[w.heap.size]? = some (.cells #[.int .i64 7, .string k, .int .i64 v] 43 (0, 0)) := heap_alloc_new w _
  obtain ⟨hne, hok, hM, hR⟩ := id h0
  have hMl := hM.2.1
  have hbl : b < w.heap.size := h.2.2.1.2.1 b h.2.2.1.1
  have hrl : r < w.heap.size := h.2.2.2.2.1 r h.2.2.2.1
  have hBb := hM.1
  have hBr := hR.1
  have hrs := h.rises
  have HA := Lib.hid hA
  obtain ⟨A, c, hH, hPR, _⟩ := h0.holds
  have hP := ranged_any _ _ A _ c 7 v k l _ hH hPR hrs (by omega)
  have HST := Lib.hid h0
  have HMT : Hid (∀ W, Below (w.alloc (.cells #[.int .i64 7, .string k, .int .i64 v] 43)).heap.size (w.alloc (.cells #[.int .i64 7, .string k, .int .i64 v] 43)) W → Calls Try.prog 21 #[.pointer (some ⟨r, 0, none⟩), .int .i64 4, .string k] W (RangedTo (rangeK 7 k l) W)) :=
    Lib.hid (fun W hW => range_any B r 7 k l W (hR.below hW) hk hok (by omega) hrs _ (by omega))
  have hL2 := rangeK_len 7 k l
  generalize rangeK 7 k l = L2 at *
  generalize hL1 : mostK v L2 = L1 at *
  have HL1 := Lib.hid hL1
  have HB0 := Lib.hid hb0
  clear hA h h0 hM hR hok hrs hb0 hMl hH hPR hL1
  go_enter Try.func17, Try.ntmps17
  go_wp2_with (first
    | (go_at_call 19; refine hP.mono ?_; rintro e w1 ⟨kv, vv, rfl, ok1, oi1, hb1⟩; obtain ⟨A1, c1, rfl, R1⟩ := rows_of ok1; obtain ⟨A2, c2, rfl, R2⟩ := rows_of oi1; have k0 := cell_of_blk (block_below hb1 HA.out) 0; have k1 := cell_of_blk (block_below hb1 HA.out) 1; have HB1 := Lib.hid hb1; have HR1 := Lib.hid R1; have HR2 := Lib.hid R2; have hP2 := HMT.out w1 hb1; clear hb1 ok1 oi1 R1 R2)
    | (go_at_call 21; refine hP2.mono ?_; rintro e w2 ⟨kv, vv, rfl, ok2, oi2, hb2⟩; obtain ⟨A3, c3, rfl, R3⟩ := rows_of ok2; obtain ⟨A4, c4, rfl, R4⟩ := rows_of oi2; have HB2 := Lib.hid (below2 HB1.out hb2); have k2 := cell_of_blk (block_below (below2 HB1.out hb2) HA.out) 2; have hal := alike_true A1 A2 A3 A4 c1 c2 c3 c4 _ _ v L1 L2 w2 HL1.out.symm (by omega) rfl rfl (HR1.out.below hb2) (HR2.out.below hb2) R3 R4; clear hb2 ok2 oi2 R3 R4 k0 k1)
    | (go_at_call 20; refine hal.mono ?_; rintro e w3 ⟨rfl, hb3⟩; have HB3 := Lib.hid (below2 HB2.out hb3); clear hb3 k2))
  go_ret
  exact ⟨rfl, HST.out.below HB3.out, Mut.of_below (below2 HB0.out HB3.out) _⟩
theorem does_any (B : Nat → Prop) (b r : Nat) (kind : Int) (k : ByteArray) (v : Int) (l : List (KV Int)) (w : World) (h : St B b r l w) (hk : k.size ≤ 9223372036854775807) (hn : l.length + 1 ≤ 8796093022208) :
    Calls Try.prog 17 #[.pointer (some ⟨b, 0, none⟩), .pointer (some ⟨r, 0, none⟩), .agg #[.int .i64 kind, .string k, .int .i64 v]] w (DoesTo B b r (doK kind k v l) w) := by
  unfold doK
  by_cases h1 : kind = 1
  · subst h1; exact does_1 B b r k v l w h hk hn
  · rw [if_neg h1]
    by_cases h3 : kind = 3
    · subst h3; exact does_3 B b r k v l w h hk hn
    · rw [if_neg h3]
      by_cases h2 : kind = 2
      · subst h2; exact does_2 B b r k v l w h hk hn
      · by_cases h4 : kind = 4
        · subst h4; exact does_4 B b r k v l w h hk hn
        · by_cases h5 : kind = 5
          · subst h5; exact does_5 B b r k v l w h hk hn
          · by_cases h6 : kind = 6
            · subst h6; exact does_6 B b r k v l w h hk hn
            · by_cases h7 : kind = 7
              · subst h7; exact does_7 B b r k v l w h hk hn
              · exact does_0 B b r kind h1 h2 h3 h4 h5 h6 h7 k v l w h hk hn
end Go.Proofs.Ytncgcjfpoableaa
