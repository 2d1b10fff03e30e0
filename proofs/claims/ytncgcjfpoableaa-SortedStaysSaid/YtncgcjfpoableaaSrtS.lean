/-
  The law's shown; a new map and a new reference's map; many acts.
-/
import Derived.Test.YtncgcjfpoableaaSrtZ
import Derived.Test.YtncgcjfpoableaaSrtO
set_option linter.unusedVariables false
set_option linter.unusedSimpArgs false
namespace Go.Proofs.Ytncgcjfpoableaa
open Go Go.RowKit Go.Proofs.Base
open Go.Proofs.Ytncgcjfpoableaa.srtI (MapP PutTo DelTo Holds PRow)
open Go.Proofs.Ytncgcjfpoableaa.refM (RMapP)
theorem new_map (w : World) (B : Nat → Prop) (hB : B w.heap.size) (hlt : ∀ x, B x → x < w.heap.size + 1) : MapP (w.alloc (.cells #[.slice none 0 0] 70)) B w.heap.size [] :=
  ⟨hB, fun x hx => by rw [World.size_alloc]; exact hlt x hx, none, 0, heap_alloc_new w _, ⟨rfl, Row.nil _ _ _⟩, Rises.nil⟩
abbrev sa : ByteArray := ⟨#[97]⟩
abbrev sb : ByteArray := ⟨#[98]⟩
theorem sg1 : getK (0 : Int) sb [] = 0 := by decide +kernel
theorem sg2 : hasK sb ([] : List (KV Int)) = false := by decide +kernel
theorem sg3 : getK (0 : Int) sa [(sb, 1)] = 0 := by decide +kernel
theorem sg4 : hasK sa [((sb, 1) : KV Int)] = false := by decide +kernel
theorem sh1 : putK sb (1 : Int) [] = [(sb, 1)] := by decide +kernel
theorem sh2 : putK sa (2 : Int) [(sb, 1)] = [(sa, 2), (sb, 1)] := by decide +kernel
theorem sh3 : getK (0 : Int) sb [(sa, 2), (sb, 1)] = 1 := by decide +kernel
theorem sh4 : hasK sb [((sa, 2) : KV Int), (sb, 1)] = true := by decide +kernel
theorem sh5 : putK sb (3 : Int) [(sa, 2), (sb, 1)] = [(sa, 2), (sb, 3)] := by decide +kernel
theorem sh6 : getK (0 : Int) sa [(sa, 2), (sb, 3)] = 2 := by decide +kernel
theorem sh7 : hasK sa [((sa, 2) : KV Int), (sb, 3)] = true := by decide +kernel
theorem sh8 : delK sa [((sa, 2) : KV Int), (sb, 3)] = [(sb, 3)] := by decide +kernel
set_option maxHeartbeats 1000000 in
theorem shown_true (w : World) : Calls Try.prog 10 #[] w fun e w' => e = .returned (.bool true) ∧ Below w.heap.size w w' := by
  have hN := srtI.new_any w
  have HM0 := Lib.hid (new_map w (fun x => x = w.heap.size) rfl (fun x hx => by omega))
  have h1 : ∀ W, MapP W (fun x => x = w.heap.size) w.heap.size [] → Calls Try.prog 24 #[.pointer (some ⟨w.heap.size, 0, none⟩), .string sb, .int .i64 1] W fun e w' => e = .returned (.tuple #[.int .i64 0, .bool false]) ∧ MapP w' (fun x => x = w.heap.size) w.heap.size [(sb, 1)] ∧ Mut (fun x => x = w.heap.size) W w' :=
    fun W h => (srtI.put_any (fun x => x = w.heap.size) w.heap.size sb 1 [] W h (by decide)).mono (fun e w' ⟨he, hm, hu⟩ => ⟨by rw [he, sg1, sg2], by rw [← sh1]; exact hm, hu⟩)
  have h2 : ∀ W, MapP W (fun x => x = w.heap.size) w.heap.size [(sb, 1)] → Calls Try.prog 24 #[.pointer (some ⟨w.heap.size, 0, none⟩), .string sa, .int .i64 2] W fun e w' => e = .returned (.tuple #[.int .i64 0, .bool false]) ∧ MapP w' (fun x => x = w.heap.size) w.heap.size [(sa, 2), (sb, 1)] ∧ Mut (fun x => x = w.heap.size) W w' :=
    fun W h => (srtI.put_any (fun x => x = w.heap.size) w.heap.size sa 2 [(sb, 1)] W h (by decide)).mono (fun e w' ⟨he, hm, hu⟩ => ⟨by rw [he, sg3, sg4], by rw [← sh2]; exact hm, hu⟩)
  have h3 : ∀ W, MapP W (fun x => x = w.heap.size) w.heap.size [(sa, 2), (sb, 1)] → Calls Try.prog 24 #[.pointer (some ⟨w.heap.size, 0, none⟩), .string sb, .int .i64 3] W fun e w' => e = .returned (.tuple #[.int .i64 1, .bool true]) ∧ MapP w' (fun x => x = w.heap.size) w.heap.size [(sa, 2), (sb, 3)] ∧ Mut (fun x => x = w.heap.size) W w' :=
    fun W h => (srtI.put_any (fun x => x = w.heap.size) w.heap.size sb 3 [(sa, 2), (sb, 1)] W h (by decide)).mono (fun e w' ⟨he, hm, hu⟩ => ⟨by rw [he, sh3, sh4], by rw [← sh5]; exact hm, hu⟩)
  have h4 : ∀ W, MapP W (fun x => x = w.heap.size) w.heap.size [(sa, 2), (sb, 3)] → Calls Try.prog 25 #[.pointer (some ⟨w.heap.size, 0, none⟩), .string sa] W fun e w' => e = .returned (.tuple #[.int .i64 2, .bool true]) ∧ MapP w' (fun x => x = w.heap.size) w.heap.size [(sb, 3)] ∧ Mut (fun x => x = w.heap.size) W w' :=
    fun W h => (srtI.del_any (fun x => x = w.heap.size) w.heap.size sa [(sa, 2), (sb, 3)] W h (by decide)).mono (fun e w' ⟨he, hm, hu⟩ => ⟨by rw [he, sh6, sh7], by rw [← sh8]; exact hm, hu⟩)
  have H1 := Lib.hid h1
  have H2 := Lib.hid h2
  have H3 := Lib.hid h3
  have H4 := Lib.hid h4
  clear h1 h2 h3 h4
  go_enter Try.func10, Try.ntmps10
  go_wp2_with (go_at_call 16; refine hN.mono ?_; rintro e w0 ⟨rfl, rfl⟩)
  refine (H1.out _ HM0.out).mono ?_
  rintro e w1 ⟨rfl, hM1, hm1⟩
  have HM1 := Lib.hid hM1
  have Hm1 := Lib.hid hm1
  clear hM1 hm1
  go_wp2_with fail
  go_at_call 24
  refine (H2.out _ HM1.out).mono ?_
  rintro e w2 ⟨rfl, hM2, hm2⟩
  have HM2 := Lib.hid hM2
  have Hm2 := Lib.hid (Hm1.out.trans hm2 (fun _ _ h => h))
  clear hM2 hm2
  go_wp2_with fail
  go_at_call 24
  refine (H3.out _ HM2.out).mono ?_
  rintro e w3 ⟨rfl, hM3, hm3⟩
  have HM3 := Lib.hid hM3
  have Hm3 := Lib.hid (Hm2.out.trans hm3 (fun _ _ h => h))
  clear hM3 hm3
  go_wp2_with fail
  go_at_call 25
  refine (H4.out _ HM3.out).mono ?_
  rintro e w4 ⟨rfl, hM4, hm4⟩
  have HM4 := Lib.hid hM4
  have Hm4 := Lib.hid (Hm3.out.trans hm4 (fun _ _ h => h))
  clear hM4 hm4
  obtain ⟨_, _, A, c, hb, _⟩ := id HM4.out
  have hL := srtI.len_any (some ⟨w.heap.size, 0, none⟩) A 1 c w4 (.inr ⟨_, rfl, cell_of_blk hb 0⟩)
  have HB : Hid (Below w.heap.size w w4) := Lib.hid (srtI.below_of_mut (below_alloc (Below.refl _ _) _) Hm4.out (fun b h => by omega))
  clear hb
  go_wp2_with (go_at_call 18; refine hL.mono ?_; rintro e w5 ⟨rfl, rfl⟩)
  go_ret
  exact ⟨rfl, HB.out⟩
/-- many acts -/
def runK (l : List (KV Int)) (xs : List GAct) : List (KV Int) := xs.foldl (fun l a => doK a.kind a.k a.v l) l
theorem runK_snoc (l : List (KV Int)) (xs : List GAct) (a : GAct) : runK l (xs ++ [a]) = doK a.kind a.k a.v (runK l xs) := by simp [runK]
theorem runK_len (l : List (KV Int)) (xs : List GAct) : (runK l xs).length ≤ l.length + xs.length := by
  induction xs generalizing l with
  | nil => simp [runK]
  | cons a xs ih =>
    have h1 := ih (doK a.kind a.k a.v l)
    have h2 := doK_len a.kind a.k a.v l
    show (runK (doK a.kind a.k a.v l) xs).length ≤ _
    rw [List.length_cons]
    omega
theorem runK_take_len (l : List (KV Int)) (xs : List GAct) (j : Nat) : (runK l (xs.take j)).length ≤ l.length + j := by
  have h1 := runK_len l (xs.take j)
  have h2 := List.length_take_le j xs
  omega
theorem runK_take (l : List (KV Int)) (xs : List GAct) {j : Nat} (h : j < xs.length) : runK l (xs.take (j + 1)) = doK xs[j].kind xs[j].k xs[j].v (runK l (xs.take j)) := by
  rw [List.take_succ_eq_append_getElem h, runK_snoc]
/-- a new map and a new reference's map -/
def startW (w : World) : World := (w.alloc (.cells #[.slice none 0 0] 70)).alloc (.cells #[.slice none 0 0, .slice none 0 0] 40)
theorem start_below (w : World) : Below w.heap.size w (startW w) := below_alloc (below_alloc (Below.refl _ _) _) _
theorem start_st (w : World) : St (fun x => x = w.heap.size ∨ x = w.heap.size + 1) w.heap.size (w.heap.size + 1) [] (startW w) := by
  have h1 := new_map w (fun x => x = w.heap.size) rfl (fun x hx => by omega)
  have hs : (startW w).heap.size = w.heap.size + 2 := by simp [startW]
  have hr := heap_alloc_new (w.alloc (.cells #[.slice none 0 0] 70)) (.cells #[.slice none 0 0, .slice none 0 0] 40)
  rw [World.size_alloc] at hr
  have hb := block_below (below_alloc (Below.refl _ _) (.cells #[.slice none 0 0, .slice none 0 0] 40)) (heap_alloc_new w (.cells #[.slice none 0 0] 70))
  exact ⟨by omega, KeysOk.nil, ⟨.inl rfl, fun x hx => by omega, none, 0, hb, ⟨rfl, Row.nil _ _ _⟩, Rises.nil⟩, ⟨.inr rfl, fun x hx => by omega, none, 0, none, 0, hr, Row.nil _ _ _, Row.nil _ _ _⟩⟩
end Go.Proofs.Ytncgcjfpoableaa
