/-
  The reference's map: Del, Put.
-/
import Derived.Test.YtncgcjfpoableaaSrtV
set_option linter.unusedVariables false
set_option linter.unusedSimpArgs false
namespace Go.Proofs.Ytncgcjfpoableaa.refM
open Go Go.RowKit Go.Proofs.Base Go.Proofs.Ytncgcjfpoableaa
theorem own_open {w : World} {base e size n : Nat} {v : Value} {xs : List Value} (h : w.ownsRow base e size v n xs) : ∃ A c, v = .slice A n c := by
  obtain ⟨A, c, hv, _⟩ := (Row.of_own h).open_
  exact ⟨A, c, hv⟩
theorem own_grow {w X Y : World} {base e size n : Nat} {v : Value} {xs : List Value} (h : X.ownsRow base e size v n xs) (hB : Below base w X) (hb : base ≤ X.heap.size) (hg : X.grownBy Y v.ownBlock) : Below base w Y :=
  hB.grown hg hb (fun k hk => (own_type h hk).1)
theorem ref_end {B : Nat → Prop} {w w5 w6 : World} {r n ni c5 c6 : Nat} {kv vv vi : Value} {A5 A6 : Option Addr} {m : List (KV Int)} {xs : List Value} (hb : w.heap[r]? = some (.cells #[kv, vv] 40 (0, 0))) (hBr : B r) (hBl : ∀ x, B x → x < w.heap.size) (hB : Below w.heap.size w w5)
    (ok : w5.ownsRow w.heap.size 9 1 (.slice A5 n c5) n (keysV m)) (oi : w5.ownsRow w.heap.size 3 1 vi ni xs)
    (hg : (w5.setCell ⟨r, 0, none⟩ (.slice A5 n c5)).grownBy w6 vi.ownBlock) (oi6 : w6.ownsRow w.heap.size 3 1 (.slice A6 n c6) n (intsV m)) (hn : n = m.length) :
    RMapP (w6.setCell ⟨r, 1, none⟩ (.slice A6 n c6)) B r m ∧ Mut (fun x => x = r) w (w6.setCell ⟨r, 1, none⟩ (.slice A6 n c6)) := by
  have hlt := lt_of_blk hb
  have far : ∀ {X : World} {e : Nat} {v : Value} {k : Nat} {ys : List Value}, X.ownsRow w.heap.size e 1 v k ys → ∀ b, v.ownBlock = some b → ¬ b = r := fun h b hb e => by have := (own_type h hb).1; omega
  have s5 : Mut (fun x => x = r) w5 (w5.setCell ⟨r, 0, none⟩ (.slice A5 n c5)) := (Mut.refl (fun x => x = r) w5).setCell (p := ⟨r, 0, none⟩) (fun _ => rfl) _
  have ok1 := own_mut ok s5 (far ok)
  have oi1 := own_mut oi s5 (far oi)
  have M5 : Mut (fun x => x = r) w (w5.setCell ⟨r, 0, none⟩ (.slice A5 n c5)) := (Mut.of_below hB (fun x => x = r)).setCell (p := ⟨r, 0, none⟩) (fun _ => rfl) _
  have g6 : Mut (fun b => vi.ownBlock = some b) (w5.setCell ⟨r, 0, none⟩ (.slice A5 n c5)) w6 := Mut.grown hg (fun b h => h)
  have ok2 := own_mut ok1 g6 (fun b h1 h2 => own_ne oi1 ok1 (by decide) h2 h1)
  have M6 : Mut (fun x => x = r) w w6 := mut_grown M5 hg (fun b h => (own_type oi1 h).1)
  have b5 := set_blk (block_below hB hb) (o := 0) (.slice A5 n c5)
  have b6 : w6.heap[r]? = some (.cells #[.slice A5 n c5, vv] 40 (0, 0)) := (g6.blk b5 (fun h => far oi1 r h rfl))
  have s6 : Mut (fun x => x = r) w6 (w6.setCell ⟨r, 1, none⟩ (.slice A6 n c6)) := (Mut.refl (fun x => x = r) w6).setCell (p := ⟨r, 1, none⟩) (fun _ => rfl) _
  have ok3 := own_mut ok2 s6 (far ok2)
  have oi3 := own_mut oi6 s6 (far oi6)
  have b7 := set_blk b6 (o := 1) (.slice A6 n c6)
  subst hn
  have M7 := M6.setCell (p := ⟨r, 1, none⟩) (fun _ => rfl) (.slice A6 m.length c6)
  refine ⟨⟨hBr, fun x hx => Nat.lt_of_lt_of_le (hBl x hx) M7.size, A5, c5, A6, c6, b7, (Row.of_own ok3).weaken (fun b _ h hx => ?_), (Row.of_own oi3).weaken (fun b _ h hx => ?_)⟩, M7⟩
  · have := h.1; have := hBl b hx; omega
  · have := h.1; have := hBl b hx; omega
theorem keysV_take (l : List (KV Int)) (i : Nat) : (keysV l).take (i * 1) = keysV (l.take i) := by simp [keysV, List.map_take]
theorem keysV_drop (l : List (KV Int)) (i : Nat) : (keysV l).drop (i * 1) = keysV (l.drop i) := by simp [keysV, List.map_drop]
theorem intsV_take (l : List (KV Int)) (i : Nat) : (intsV l).take (i * 1) = intsV (l.take i) := by simp [intsV, List.map_take]
theorem intsV_drop (l : List (KV Int)) (i : Nat) : (intsV l).drop (i * 1) = intsV (l.drop i) := by simp [intsV, List.map_drop]
theorem keysV_app (a b : List (KV Int)) : keysV a ++ keysV b = keysV (a ++ b) := by simp [keysV]
theorem intsV_app (a b : List (KV Int)) : intsV a ++ intsV b = intsV (a ++ b) := by simp [intsV]
/-- what Del leaves -/
def DelR (B : Nat → Prop) (r : Nat) (k : ByteArray) (l : List (KV Int)) (w : World) (e : Ending) (w' : World) : Prop :=
  e = .returned (.tuple #[.int .i64 (getK 0 k l), .bool (hasK k l)]) ∧ RMapP w' B r (delK k l) ∧ Mut (fun x => x = r) w w'
theorem del_no (B : Nat → Prop) (r : Nat) (k : ByteArray) (l : List (KV Int)) (w : World) (h : RMapP w B r l) (hk : k.size ≤ 9223372036854775807) (ho : KeysOk l) (hn : l.length ≤ 8796093022208) (hh : hasK k l = false) :
    Calls Try.prog 36 #[.pointer (some ⟨r, 0, none⟩), .string k] w (DelR B r k l w) := by
  have h1 := get_r B r k l w h hk ho hn
  rw [hh] at h1
  have HH := Lib.hid hh
  have HG := Lib.hid (getK_no (d := (0 : Int)) hh)
  have HD := Lib.hid (delK_no hh)
  have HR := Lib.hid h
  clear hh h ho
  go_enter Try.func36, Try.ntmps36
  go_wp2_with (go_at_call 35; refine h1.mono ?_; rintro e w1 ⟨rfl, hb1⟩; have HB := Lib.hid hb1; clear hb1)
  go_ret2
  exact ⟨by rw [HG.out, HH.out]; exact ret2 rfl rfl, by rw [HD.out]; exact HR.out.below HB.out, Mut.of_below HB.out _⟩

set_option maxRecDepth 100000 in
set_option maxHeartbeats 4000000 in
theorem del_yes (B : Nat → Prop) (r : Nat) (k : ByteArray) (l : List (KV Int)) (w : World) (h : RMapP w B r l) (hk : k.size ≤ 9223372036854775807) (ho : KeysOk l) (hn : l.length ≤ 8796093022208) (hh : hasK k l = true) :
    Calls Try.prog 36 #[.pointer (some ⟨r, 0, none⟩), .string k] w (DelR B r k l w) := by
  have h1 := get_r B r k l w h hk ho hn
  have h2 := fun W (hW : Below w.heap.size w W) => find_r B r k l W (h.below hW) hk ho hn
  rw [hh] at h1
  obtain ⟨hBr, hBl, A, c, A', c', hb, hK, hV⟩ := h
  obtain ⟨_, _, e, hnc, hcm⟩ := id hK.open_
  injection e with e1 _ e2
  subst e1 e2
  obtain ⟨_, _, e, hnc', hcm'⟩ := id hV.open_
  injection e with e1 _ e2
  subst e1 e2
  obtain ⟨hi, -⟩ := getK_of (d := (0 : Int)) hh
  have hP := delK_yes hh
  have HH := Lib.hid hh
  generalize idxK k l = i at *
  generalize hv0 : getK 0 k l = v0 at *
  have HV0 := Lib.hid hv0
  have HKT := Lib.hid (hK.take i (Nat.le_of_lt hi))
  have HVT := Lib.hid (hV.take i (Nat.le_of_lt hi))
  obtain ⟨A2, hA2, hKd⟩ := hK.drop' (i + 1) hi
  obtain ⟨A2', hA2', hVd⟩ := hV.drop' (i + 1) hi
  rw [keysV_take] at HKT
  rw [intsV_take] at HVT
  rw [keysV_drop] at hKd
  rw [intsV_drop] at hVd
  have HKD := Lib.hid hKd
  have HVD := Lib.hid hVd
  have HB := Lib.hid hb
  have HBr := Lib.hid hBr
  have HBl := Lib.hid hBl
  have H2 := Lib.hid h2
  have HP := Lib.hid hP
  have hlt := lt_of_blk hb
  have hq1 : ∀ w, (Instr.slice 22 (.slice A l.length c) none (some (.int .i64 (i : Int))) none).run Try.prog w = .ok (.slice A i c) w := run_upto eS A _ c i (by omega)
  have hq2 : ∀ w, (Instr.slice 22 (.slice A l.length c) (some (.int .i64 ((i : Int) + 1))) none none).run Try.prog w = .ok (.slice A2 (l.length - (i + 1)) (c - (i + 1))) w := run_from eS A A2 _ c (i + 1) _ (by push_cast; rfl) hi hA2
  have hq3 : ∀ w, (Instr.slice 38 (.slice A' l.length c') none (some (.int .i64 (i : Int))) none).run Try.prog w = .ok (.slice A' i c') w := run_upto eI A' _ c' i (by omega)
  have hq4 : ∀ w, (Instr.slice 38 (.slice A' l.length c') (some (.int .i64 ((i : Int) + 1))) none none).run Try.prog w = .ok (.slice A2' (l.length - (i + 1)) (c' - (i + 1))) w := run_from eI A' A2' _ c' (i + 1) _ (by push_cast; rfl) hi hA2'
  clear hb hK hV hh hv0 ho hKd hVd hA2 hA2' h2 hP hBr hBl
  go_enter Try.func36, Try.ntmps36
  go_wp2_with (first
    | (go_at_call 35; refine h1.mono ?_; rintro e w1 ⟨rfl, hb1⟩; have HB1 := Lib.hid hb1; clear hb1)
    | (go_at_call 49; refine (H2.out _ HB1.out).mono ?_; rintro e w2 ⟨rfl, hb2⟩; have hbb2 := below2 HB1.out hb2; have d2 := cell_of_blk (block_below (below_alloc hbb2 (.cells #[] 9)) HB.out) 0; have HB2 := Lib.hid hbb2; clear hb2 hbb2)
    | (at_builtin; refine wp_app_row eS (by decide) rfl (.tmp 22) (.tmp 28) rfl w.heap.size _ 0 [] rfl (World.ownsRow_made w2 #[] 0 HB2.out.size (Nat.zero_le _) (by simp)) (fun g => ¬ B g) A i c _ rfl (HKT.out.below (below_alloc HB2.out _)) (keysV_one _) (by omega) (by omega) (below_alloc HB2.out _).size ?_; intro v3 w3 own3 hg3; rw [Nat.zero_add, List.nil_append] at own3; have hbb3 := own_grow (World.ownsRow_made (e := 9) (size := 1) w2 #[] 0 HB2.out.size (Nat.zero_le _) (by simp)) (below_alloc HB2.out _) (below_alloc HB2.out _).size hg3; have d3 := cell_of_blk (block_below (below_alloc hbb3 (.cells #[] 3)) HB.out) 1; have HB3 := Lib.hid hbb3; have HO3 := Lib.hid own3; clear hbb3 hg3 own3 d2)
    | (at_builtin; refine wp_app_row eI (by decide) rfl (.tmp 30) (.tmp 36) rfl w.heap.size _ 0 [] rfl (World.ownsRow_made w3 #[] 0 HB3.out.size (Nat.zero_le _) (by simp)) (fun g => ¬ B g) A' i c' _ rfl (HVT.out.below (below_alloc HB3.out _)) (intsV_one _) (by omega) (by omega) (below_alloc HB3.out _).size ?_; intro v4 w4 own4 hg4; rw [Nat.zero_add, List.nil_append] at own4; have hbb4 := own_grow (World.ownsRow_made (e := 3) (size := 1) w3 #[] 0 HB3.out.size (Nat.zero_le _) (by simp)) (below_alloc HB3.out _) (below_alloc HB3.out _).size hg4; have d4 := cell_of_blk (block_below hbb4 HB.out) 0; have HO3' := Lib.hid (own_mut (HO3.out.alloc (.cells #[] 3)) (Mut.grown (T := fun b => b = w3.heap.size) hg4 (fun b h => by injection h with h; exact h.symm)) (fun b hb h => by obtain ⟨_, cs, h5⟩ := own_type HO3.out hb; have := lt_of_blk h5; omega)); have HB4 := Lib.hid hbb4; have HO4 := Lib.hid own4; clear hbb4 hg4 own4 d3)
    | (at_builtin; refine wp_app_row eS (by decide) rfl (.tmp 39) (.tmp 46) rfl w.heap.size _ i _ rfl HO3'.out (fun g => ¬ B g) A2 _ _ _ rfl (HKD.out.below HB4.out) (keysV_one _) (by omega) (by omega) HB4.out.size ?_; intro v5 w5 own5 hg5; obtain ⟨A5, c5, rfl⟩ := own_open own5; rw [keysV_app, ← HP.out] at own5; have hbb5 := own_grow HO3'.out HB4.out HB4.out.size hg5; have d5 := cell_of_blk (block_below hbb5 HB.out) 0; have f5 := frozen_of_blk (block_below hbb5 HB.out) 0; have d51 := cell_of_blk (block_below hbb5 HB.out) 1; have f51 := frozen_of_blk (block_below hbb5 HB.out) 1; have HO4' := Lib.hid (own_mut HO4.out (Mut.grown hg5 (fun b h => h)) (fun b hb h => own_ne HO3'.out HO4.out (by decide) h hb)); have HB5 := Lib.hid hbb5; have HO5 := Lib.hid own5; clear hbb5 hg5 own5 d4)
    | (at_builtin; refine wp_app_row eI (by decide) rfl (.tmp 51) (.tmp 58) rfl w.heap.size _ i _ rfl (own_mut HO4'.out ((Mut.refl (fun x => x = r) w5).setCell (p := ⟨r, 0, none⟩) (fun _ => rfl) _) (fun b h e => by have := (own_type HO4'.out h).1; omega)) (fun g => ¬ B g) A2' _ _ _ rfl (HVD.out.mut ((Mut.of_below HB5.out (fun x => x = r)).setCell (p := ⟨r, 0, none⟩) (fun _ => rfl) _) (fun b _ h e => h (by rw [e]; exact HBr.out))) (intsV_one _) (by omega) (by omega) ((Mut.of_below HB5.out (fun x => x = r)).setCell (p := ⟨r, 0, none⟩) (fun _ => rfl) _).size ?_; intro v6 w6 own6 hg6; obtain ⟨A6, c6, rfl⟩ := own_open own6; rw [intsV_app, ← HP.out] at own6; have b6 := (Mut.grown (T := fun b => v4.ownBlock = some b) hg6 (fun b h => h)).blk (set_blk (block_below HB5.out HB.out) (o := 0) (.slice A5 (i + (l.length - (i + 1))) c5)) (fun h => by have := (own_type HO4'.out h).1; omega); have d6 := cell_of_blk b6 1; have f6 := frozen_of_blk b6 1; have HG6 := Lib.hid hg6; have HO6 := Lib.hid own6; clear hg6 own6 b6 d5 f5 d51 f51))
  go_ret2
  have hlen : i + (l.length - (i + 1)) = (delK k l).length := by rw [HP.out, List.length_append, List.length_take, List.length_drop]; omega
  obtain ⟨q1, q2⟩ := ref_end HB.out HBr.out HBl.out HB5.out HO5.out HO4'.out HG6.out HO6.out hlen
  exact ⟨by rw [HV0.out, HH.out]; exact ret2 rfl rfl, q1, q2⟩
theorem del_r (B : Nat → Prop) (r : Nat) (k : ByteArray) (l : List (KV Int)) (w : World) (h : RMapP w B r l) (hk : k.size ≤ 9223372036854775807) (ho : KeysOk l) (hn : l.length ≤ 8796093022208) :
    Calls Try.prog 36 #[.pointer (some ⟨r, 0, none⟩), .string k] w (DelR B r k l w) := by
  cases hh : hasK k l with
  | false => exact del_no B r k l w h hk ho hn hh
  | true => exact del_yes B r k l w h hk ho hn hh
/-- what Put leaves -/
def PutR (B : Nat → Prop) (r : Nat) (k : ByteArray) (v : Int) (l : List (KV Int)) (w : World) (e : Ending) (w' : World) : Prop :=
  e = .returned (.tuple #[.int .i64 (getK 0 k l), .bool (hasK k l)]) ∧ RMapP w' B r (putK k v l) ∧ Mut (fun x => x = r) w w'
set_option maxRecDepth 100000 in
set_option maxHeartbeats 4000000 in
theorem put_r (B : Nat → Prop) (r : Nat) (k : ByteArray) (v : Int) (l : List (KV Int)) (w : World) (h : RMapP w B r l) (hk : k.size ≤ 9223372036854775807) (ho : KeysOk l) (hs : Rises l) (hn : l.length + 1 ≤ 8796093022208) :
    Calls Try.prog 34 #[.pointer (some ⟨r, 0, none⟩), .string k, .int .i64 v] w (PutR B r k v l w) := by
  have h1 := del_r B r k l w h hk ho (by omega)
  have hP := put_del v hs (k := k)
  have ho2 := ho.del k
  have hln : (delK k l).length + 1 ≤ 8796093022208 := by have := delK_len (k := k) (l := l); omega
  have hidx := idxK_le k (delK k l)
  have HQ := Lib.hid hP
  unfold DelR at h1
  unfold PutR
  generalize hv0 : getK 0 k l = v0 at *
  have HV0 := Lib.hid hv0
  generalize hasK k l = hh at *
  generalize putK k v l = lp at *
  clear h hs ho hP hv0
  generalize delK k l = d at *
  go_enter Try.func34, Try.ntmps34
  go_wp2_with fail
  go_at_call 36
  refine h1.mono ?_
  rintro e w1 ⟨rfl, h, hm1⟩
  have HM1 := Lib.hid hm1
  have h2 := find_r B r k d w1 h hk ho2 (by omega)
  obtain ⟨hBr, hBl, A, c, A', c', hb, hK, hV⟩ := h
  obtain ⟨_, _, e, hnc, hcm⟩ := id hK.open_
  injection e with e1 _ e2
  subst e1 e2
  obtain ⟨_, _, e, hnc', hcm'⟩ := id hV.open_
  injection e with e1 _ e2
  subst e1 e2
  generalize idxK k d = i at *
  have HKT := Lib.hid (hK.take i hidx)
  have HVT := Lib.hid (hV.take i hidx)
  obtain ⟨A2, hA2, hKd⟩ := hK.drop' i hidx
  obtain ⟨A2', hA2', hVd⟩ := hV.drop' i hidx
  rw [keysV_take] at HKT
  rw [intsV_take] at HVT
  rw [keysV_drop] at hKd
  rw [intsV_drop] at hVd
  have HKD := Lib.hid hKd
  have HVD := Lib.hid hVd
  have HB := Lib.hid hb
  have HBr := Lib.hid hBr
  have HBl := Lib.hid hBl
  have hlt := lt_of_blk hb
  have hq1 : ∀ w, (Instr.slice 22 (.slice A d.length c) none (some (.int .i64 (i : Int))) none).run Try.prog w = .ok (.slice A i c) w := run_upto eS A _ c i (by omega)
  have hq2 : ∀ w, (Instr.slice 22 (.slice A d.length c) (some (.int .i64 (i : Int))) none none).run Try.prog w = .ok (.slice A2 (d.length - i) (c - i)) w := run_from eS A A2 _ c i _ rfl hidx hA2
  have hq3 : ∀ w, (Instr.slice 38 (.slice A' d.length c') none (some (.int .i64 (i : Int))) none).run Try.prog w = .ok (.slice A' i c') w := run_upto eI A' _ c' i (by omega)
  have hq4 : ∀ w, (Instr.slice 38 (.slice A' d.length c') (some (.int .i64 (i : Int))) none none).run Try.prog w = .ok (.slice A2' (d.length - i) (c' - i)) w := run_from eI A' A2' _ c' i _ rfl hidx hA2'
  clear hb hK hV hKd hVd hA2 hA2' ho2 hm1 h1 hBr hBl
  go_wp2_with (first
    | (go_at_call 49; refine h2.mono ?_; rintro e w2 ⟨rfl, hb2⟩; have d2 := cell_of_blk (block_below (below_alloc hb2 (.cells #[] 9)) HB.out) 0; have HB2 := Lib.hid hb2; clear hb2)
    | (at_builtin; refine wp_app_row eS (by decide) rfl (.tmp 22) (.tmp 28) rfl w1.heap.size _ 0 [] rfl (World.ownsRow_made w2 #[] 0 HB2.out.size (Nat.zero_le _) (by simp)) (fun g => ¬ B g) A i c _ rfl (HKT.out.below (below_alloc HB2.out _)) (keysV_one _) (by omega) (by omega) (below_alloc HB2.out _).size ?_; intro v3 w3 own3 hg3; rw [Nat.zero_add, List.nil_append] at own3; have hbb3 := own_grow (World.ownsRow_made (e := 9) (size := 1) w2 #[] 0 HB2.out.size (Nat.zero_le _) (by simp)) (below_alloc HB2.out _) (below_alloc HB2.out _).size hg3; have d3 := cell_of_blk (block_below (below_alloc hbb3 (.cells #[] 3)) HB.out) 1; have HB3 := Lib.hid hbb3; have HO3 := Lib.hid own3; clear hbb3 hg3 own3 d2)
    | (at_builtin; refine wp_app_row eI (by decide) rfl (.tmp 30) (.tmp 36) rfl w1.heap.size _ 0 [] rfl (World.ownsRow_made w3 #[] 0 HB3.out.size (Nat.zero_le _) (by simp)) (fun g => ¬ B g) A' i c' _ rfl (HVT.out.below (below_alloc HB3.out _)) (intsV_one _) (by omega) (by omega) (below_alloc HB3.out _).size ?_; intro v4 w4 own4 hg4; rw [Nat.zero_add, List.nil_append] at own4; have hbb4 := own_grow (World.ownsRow_made (e := 3) (size := 1) w3 #[] 0 HB3.out.size (Nat.zero_le _) (by simp)) (below_alloc HB3.out _) (below_alloc HB3.out _).size hg4; have HO3' := Lib.hid (own_mut (HO3.out.alloc (.cells #[] 3)) (Mut.grown (T := fun b => b = w3.heap.size) hg4 (fun b h => by injection h with h; exact h.symm)) (fun b hb h => by obtain ⟨_, cs, h5⟩ := own_type HO3.out hb; have := lt_of_blk h5; omega)); have HB4 := Lib.hid hbb4; have HO4 := Lib.hid own4; clear hbb4 hg4 own4 d3)
    | (at_builtin; refine wp_app_row eS (by decide) rfl (.tmp 38) (.tmp 40) rfl w1.heap.size _ i _ rfl (HO3'.out.alloc _) (fun g => g = w4.heap.size) _ 1 1 _ rfl (Row.new w4 1 1 (keysV [((k, v) : KV Int)]) _ rfl (by simp [maxLen])) (keysV_one _) (by omega) (by omega) (below_alloc HB4.out _).size ?_; intro v5 w5 own5 hg5; rw [keysV_app] at own5; have hbb5 := own_grow (HO3'.out.alloc (.cells (keysV [((k, v) : KV Int)]).toArray 9)) (below_alloc HB4.out _) (below_alloc HB4.out _).size hg5; have HO4' := Lib.hid (own_mut (HO4.out.alloc (.cells (keysV [((k, v) : KV Int)]).toArray 9)) (Mut.grown hg5 (fun b h => h)) (fun b hb h => own_ne (HO3'.out.alloc (.cells (keysV [((k, v) : KV Int)]).toArray 9)) (HO4.out.alloc (.cells (keysV [((k, v) : KV Int)]).toArray 9)) (by decide) h hb)); have HB5 := Lib.hid hbb5; have HO5 := Lib.hid own5; clear hbb5 hg5 own5)
    | (at_builtin; refine wp_app_row eI (by decide) rfl (.tmp 42) (.tmp 44) rfl w1.heap.size _ i _ rfl (HO4'.out.alloc _) (fun g => g = w5.heap.size) _ 1 1 _ rfl (Row.new w5 1 1 (intsV [((k, v) : KV Int)]) _ rfl (by simp [maxLen])) (intsV_one _) (by omega) (by omega) (below_alloc HB5.out _).size ?_; intro v6 w6 own6 hg6; rw [intsV_app] at own6; have hbb6 := own_grow (HO4'.out.alloc (.cells (intsV [((k, v) : KV Int)]).toArray 3)) (below_alloc HB5.out _) (below_alloc HB5.out _).size hg6; have HO5' := Lib.hid (own_mut (HO5.out.alloc (.cells (intsV [((k, v) : KV Int)]).toArray 3)) (Mut.grown hg6 (fun b h => h)) (fun b hb h => own_ne (HO4'.out.alloc (.cells (intsV [((k, v) : KV Int)]).toArray 3)) (HO5.out.alloc (.cells (intsV [((k, v) : KV Int)]).toArray 3)) (by decide) h hb)); have d6 := cell_of_blk (block_below hbb6 HB.out) 0; have HB6 := Lib.hid hbb6; have HO6 := Lib.hid own6; clear hbb6 hg6 own6)
    | (at_builtin; refine wp_app_row eS (by decide) rfl (.tmp 47) (.tmp 53) rfl w1.heap.size _ (i + 1) _ rfl HO5'.out (fun g => ¬ B g) A2 _ _ _ rfl (HKD.out.below HB6.out) (keysV_one _) (by omega) (by omega) HB6.out.size ?_; intro v7 w7 own7 hg7; obtain ⟨A7, c7, rfl⟩ := own_open own7; rw [keysV_app] at own7; have hbb7 := own_grow HO5'.out HB6.out HB6.out.size hg7; have d7 := cell_of_blk (block_below hbb7 HB.out) 0; have f7 := frozen_of_blk (block_below hbb7 HB.out) 0; have d71 := cell_of_blk (block_below hbb7 HB.out) 1; have f71 := frozen_of_blk (block_below hbb7 HB.out) 1; have HO6' := Lib.hid (own_mut HO6.out (Mut.grown hg7 (fun b h => h)) (fun b hb h => own_ne HO5'.out HO6.out (by decide) h hb)); have HB7 := Lib.hid hbb7; have HO7 := Lib.hid own7; clear hbb7 hg7 own7 d6)
    | (at_builtin; refine wp_app_row eI (by decide) rfl (.tmp 58) (.tmp 64) rfl w1.heap.size _ (i + 1) _ rfl (own_mut HO6'.out ((Mut.refl (fun x => x = r) w7).setCell (p := ⟨r, 0, none⟩) (fun _ => rfl) _) (fun b h e => by have := (own_type HO6'.out h).1; omega)) (fun g => ¬ B g) A2' _ _ _ rfl (HVD.out.mut ((Mut.of_below HB7.out (fun x => x = r)).setCell (p := ⟨r, 0, none⟩) (fun _ => rfl) _) (fun b _ h e => h (by rw [e]; exact HBr.out))) (intsV_one _) (by omega) (by omega) ((Mut.of_below HB7.out (fun x => x = r)).setCell (p := ⟨r, 0, none⟩) (fun _ => rfl) _).size ?_; intro v8 w8 own8 hg8; obtain ⟨A8, c8, rfl⟩ := own_open own8; rw [intsV_app] at own8; have b8 := (Mut.grown (T := fun b => v6.ownBlock = some b) hg8 (fun b h => h)).blk (set_blk (block_below HB7.out HB.out) (o := 0) (.slice A7 (i + 1 + (d.length - i)) c7)) (fun h => by have := (own_type HO6'.out h).1; omega); have d8 := cell_of_blk b8 1; have f8 := frozen_of_blk b8 1; have HG8 := Lib.hid hg8; have HO8 := Lib.hid own8; clear hg8 own8 b8 d7 f7 d71 f71))
  go_ret2
  have ho7 := HO7.out
  have ho8 := HO8.out
  rw [HQ.out] at ho7 ho8
  have hlen : i + 1 + (d.length - i) = lp.length := by rw [← HQ.out, List.length_append, List.length_append, List.length_take, List.length_drop]; simp; omega
  obtain ⟨q1, q2⟩ := ref_end HB.out HBr.out HBl.out HB7.out ho7 HO6'.out HG8.out ho8 hlen
  exact ⟨ret2 rfl rfl, q1, HM1.out.trans q2 (fun _ _ h => h)⟩
end Go.Proofs.Ytncgcjfpoableaa.refM
