/-
  Merged from ValE, RecA, RecB, RecC, RecD, Take, TakeB, TakeC, TakeD, TakeE, TakeF, TakeT, Ref01, Gen.
-/
import Derived.Test.YtcfdbdmefdffdaaValD
/-
  The walk of value.TakeVars.
-/
set_option linter.unusedVariables false
set_option linter.unusedSimpArgs false
namespace Go.Proofs.Ytcfdbdmefdffdaa
open Go Go.RowKit Go.Proofs.Base
open Go.Sort (grow)
theorem elVar : ElemT Try.prog 23 52 4 48 := .of Try.underlying23 (z := .agg #[.string ⟨#[]⟩, .int .i64 0, .int .i64 0, .string ⟨#[]⟩]) (by kernel_rfl) rfl
theorem mutGrown {w w1 : World} {g : Nat} (h : Mut (fun b => b = g) w w1) : w.grownBy w1 (some g) := ⟨h.os, h.tape, h.output, h.size, fun k hk hn => h.block k hk (fun e => hn (by rw [e]))⟩
theorem own_mut {w w1 : World} {g base : Nat} {e : TypeId} {sz n : Nat} {v : Value} {xs : List Value} (h : w.ownsRow base e sz v n xs) (hm : Mut (fun b => b = g) w w1) (hg : g < base) : w1.ownsRow base e sz v n xs :=
  h.kept (mutGrown hm) (by
    cases hv : v.ownBlock with
    | none => exact .inl rfl
    | some k => exact .inr (fun he => by have := (h.lt k hv).1; injection he with he; omega))
theorem takeFin_some (l : List GVar) (s : ByteArray) (e : Nat) : takeFin (some l, s, e) = if e = 0 ∧ rightV l = true then (some l, s, e) else (none, s, e) := rfl
def TakeVarsPost (w : World) (g : Nat) (r : Option (List GVar) × ByteArray × Nat) (e : Ending) (w' : World) : Prop :=
  ∃ v, e = .returned (.tuple #[v, .bool r.1.isSome]) ∧ Row w' (fun b => w.heap.size ≤ b) 4 (r.1.getD []).length v (varCells (r.1.getD [])) ∧ Rdr w' g r.2.1 r.2.2 ∧ Mut (fun b => b = g) w w'
set_option maxRecDepth 100000 in
set_option maxHeartbeats 2000000 in
theorem val_TakeVars (g : Nat) (s : ByteArray) (e0 : Nat) (w : World) (hr : Rdr w g s e0) (hs : s.size ≤ 140737488351232) :
    Calls Try.prog 30 #[.pointer (some ⟨g, 0, none⟩)] w (TakeVarsPost w g (takeVars s e0)) := by
  have hg := hr.facts.2.2.2.2
  have hu := rdUint_size s e0
  by_cases h16 : 16 < (rdUint s e0).1
  · have hv : takeVars s e0 = (none, (rdUint s e0).2) := by unfold takeVars; rw [if_pos h16]
    have HV := Lib.hid hv
    have h16' : (16 : Int) < ((rdUint s e0).1 : Int) := by omega
    clear hv h16
    go_enter Try.func30, Try.ntmps30
    go_wp2_with (go_at_call 27; refine (rd_Uint g s e0 _ hr (by omega)).mono ?_; rintro e w1 ⟨rfl, hq1, hm1⟩)
    go_ret2
    rw [HV.out]
    exact ⟨_, rfl, Row.nil _ _ _, hq1, hm1⟩
  · have hv : takeVars s e0 = takeFin (takeGo (rdUint s e0).1 (rdUint s e0).2.1 (rdUint s e0).2.2 []) := by unfold takeVars; rw [if_neg h16]
    have h16' : ((rdUint s e0).1 : Int) ≤ 16 := by omega
    have HV := Lib.hid hv
    clear hv
    go_enter Try.func30, Try.ntmps30
    go_wp2_with (go_at_call 27; refine (rd_Uint g s e0 _ hr (by omega)).mono ?_; rintro e w1 ⟨rfl, hq1, hm1⟩)
    generalize rdUint s e0 = q at *
    obtain ⟨n, s1, e1⟩ := q
    clear hr
    go_loopw [5, 6, 7, 8, 14] (fun v _ _ _ i wr => ∃ (k m : Nat) (acc : List GVar) (s2 : ByteArray) (e2 : Nat), i = .int .u64 k ∧ k + m = n ∧ acc.length = k ∧ wr.ownsRow w.heap.size 52 4 v acc.length (varCells acc) ∧ Rdr wr g s2 e2 ∧ s2.size ≤ s.size ∧ Mut (fun b => b = g) w wr ∧ Hid (∀ x ∈ acc, x.wf) ∧ Hid (takeVars s e0 = takeFin (takeGo m s2 e2 acc))) (fun _ _ _ _ i _ => n - (intOf i).toNat)
    case atStart => exact ⟨0, n, [], s1, e1, rfl, by omega, rfl, own_nil _ _ _ _, hq1, hu, hm1, Lib.hid (fun x hx => by cases hx), HV⟩
    case round =>
      clear hq1 hm1 HV
      obtain ⟨k, m, acc, s2, e2, rfl, hkm, hacc, hown, hq, hs2, hm, HW, HV⟩ := hrel
      cases m with
      | zero =>
        have Hkm := Lib.hid hkm
        have hkn : ¬ k < n := by omega
        have Hacc := Lib.hid hacc
        have HQ := Lib.hid hq
        have hv := HV.out
        unfold takeGo at hv
        rw [takeFin_some] at hv
        have HVV := Lib.hid hv
        have hrow := (Row.of_own hown).weaken (S' := fun b => w.heap.size ≤ b) (fun _ _ h => h.1)
        have HRow := Lib.hid hrow
        have HR2 := Lib.hid (val_Right (fun b => w.heap.size ≤ b) acc acc.length _ wr rfl hrow HW.out)
        clear hkm hacc HV hv hown hrow
        by_cases h2 : e2 = 0
        · have h2b := bne_f (a := (e2 : Int)) (b := 0) (by omega)
          by_cases hri : rightV acc = true
          · have hf : takeVars s e0 = (some acc, s2, e2) := by rw [HVV.out, if_pos ⟨h2, hri⟩]
            have HF := Lib.hid hf
            have hR2 := HR2.out
            simp only [hri] at hR2
            have HR3 := Lib.hid hR2
            have HM := Lib.hid hm
            clear hf hri hR2 h2 hm
            go_wp2_with (first | (go_at_call 65; refine (rd_Err g s2 e2 _ HQ.out).mono ?_; rintro e w' ⟨rfl, rfl⟩) | (go_at_call 20; refine HR3.out.mono ?_; rintro e w3 ⟨rfl, hb3⟩))
            go_ret2
            rw [HF.out]
            exact ⟨_, rfl, HRow.out.below hb3, block_below hb3 HQ.out, HM.out.trans (Mut.of_below hb3 (fun _ => False)) (fun _ _ h => h.elim)⟩
          · have hri : rightV acc = false := by simpa using hri
            have hf : takeVars s e0 = (none, s2, e2) := by rw [HVV.out, if_neg (by simp [hri])]
            have HF := Lib.hid hf
            have hR2 := HR2.out
            simp only [hri] at hR2
            have HR3 := Lib.hid hR2
            have HM := Lib.hid hm
            clear hf hri hR2 h2 hm
            go_wp2_with (first | (go_at_call 65; refine (rd_Err g s2 e2 _ HQ.out).mono ?_; rintro e w' ⟨rfl, rfl⟩) | (go_at_call 20; refine HR3.out.mono ?_; rintro e w3 ⟨rfl, hb3⟩))
            go_ret2
            rw [HF.out]
            exact ⟨_, rfl, Row.nil _ _ _, block_below hb3 HQ.out, HM.out.trans (Mut.of_below hb3 (fun _ => False)) (fun _ _ h => h.elim)⟩
        · have h2b := bne_t (a := (e2 : Int)) (b := 0) (by omega)
          have hf : takeVars s e0 = (none, s2, e2) := by rw [HVV.out, if_neg (by simp [h2])]
          have HF := Lib.hid hf
          have HM := Lib.hid hm
          clear hf h2 hm
          go_wp2_with (go_at_call 65; refine (rd_Err g s2 e2 _ HQ.out).mono ?_; rintro e w' ⟨rfl, rfl⟩)
          go_ret2
          rw [HF.out]
          exact ⟨_, rfl, Row.nil _ _ _, HQ.out, HM.out⟩
      | succ m =>
        have hkn : k < n := by omega
        have hv := HV.out
        unfold takeGo at hv
        have hsz := rdText_size 32 s2 e2
        have hrs := rdText_res 32 s2 e2
        have hT := rd_Text g s2 e2 32 wr hq (by omega) (by omega) (by omega)
        have HT := Lib.hid hT
        generalize rdText 32 s2 e2 = q at *
        obtain ⟨nm, s3, e3⟩ := q
        have HV2 := Lib.hid hv
        have Hkm := Lib.hid hkm
        have Hacc := Lib.hid hacc
        have HM := Lib.hid hm
        have HO := Lib.hid hown
        clear hT HV hv hkm hacc hm hq hown
        go_wp2_with (go_at_call 29; refine HT.out.mono ?_; rintro e w3 ⟨rfl, hq3, hm3⟩)
        refine (val_Take g s3 e3 w3 hq3 (by omega)).mono ?_
        rintro e w4 ⟨rfl, hq4, hm4⟩
        have hwf := takeV_wf (s := s3) (e := e3) (by omega)
        have hz4 := takeRaw_size s3 e3
        have ho4 := own_mut (own_mut HO.out hm3 hg) hm4 hg
        have HO4 := Lib.hid ho4
        have hM4 : Mut (fun b => b = g) w w4 := (HM.out.trans hm3 (fun _ _ h => h)).trans hm4 (fun _ _ h => h)
        have HM4 := Lib.hid hM4
        have HQ4 := Lib.hid hq4
        have hv5 := HV2.out
        have hw4 : w.heap.size ≤ w4.heap.size := hM4.size
        clear HV2 HM HO hq3 hq4 hm3 hm4 HT ho4 hM4
        generalize takeRaw s3 e3 = raw at *
        obtain ⟨rv, s4, e4⟩ := raw
        generalize takeV s3 e3 = tv at *
        by_cases hok : takeOk s3 e3 = true
        · rw [if_pos hok] at hv5
          simp only [hok]
          have HV5 := Lib.hid hv5
          have HW5 : Hid (∀ x ∈ acc ++ [(⟨nm, tv⟩ : GVar)], x.wf) := Lib.hid (fun x hx => by
            rcases List.mem_append.1 hx with h | h
            · exact HW.out x h
            · rw [List.mem_singleton.1 h]; exact ⟨Nat.le_trans hrs (Nat.le_trans hs2 hs), hwf⟩)
          clear hv5 hok hwf HW
          have hb4 : Below w.heap.size (w4.alloc (.cells #[.int .i64 tv.k, .int .i64 tv.n, .string tv.s] 50)) (w4.alloc (.cells #[.int .i64 tv.k, .int .i64 tv.n, .string tv.s] 50)) := Below.refl _ _
          have ho5 := HO4.out.alloc (.cells #[.int .i64 tv.k, .int .i64 tv.n, .string tv.s] 50)
          have hsz5 : w.heap.size ≤ (w4.alloc (.cells #[.int .i64 tv.k, .int .i64 tv.n, .string tv.s] 50)).heap.size := by simp; omega
          have ha16 : acc.length ≤ 16 := by have := Hacc.out; omega
          have HB4 := Lib.hid hb4
          have HO5 := Lib.hid ho5
          have HS5 := Lib.hid hsz5
          clear hb4 ho5 hsz5
          go_wp2_with (at_builtin; refine wp_app elVar (by decide) rfl (.tmp 25) (.tmp 29) rfl w.heap.size _ acc.length (varCells acc) [_, _, _, _] rfl (by rw [World.size_alloc]; rfl) rfl (by simp [Value.oneCell']) HO5.out HB4.out HS5.out (by omega) (by omega) ?_; intro v1 w5 HO6 HB6 hg6 hat6)
          go_roundw
          case rel =>
            have hl5 := Hkm.out
            have hc : varCells acc ++ [.string nm, .int .i64 tv.k, .int .i64 tv.n, .string tv.s] = varCells (acc ++ [(⟨nm, tv⟩ : GVar)]) := by rw [varCells_append]; rfl
            rw [hc] at HO6
            have hgr := (World.grownBy_alloc w4 (.cells #[.int .i64 tv.k, .int .i64 tv.n, .string tv.s] 50) u5.ownBlock).trans ((World.grownBy_alloc _ _ _).trans hg6)
            have hbl : ∀ b, b < w4.heap.size → u5.ownBlock = some b → w.heap.size ≤ b := fun b _ hb => (HO4.out.lt b hb).1
            refine ⟨k + 1, m, acc ++ [⟨nm, tv⟩], s4, e4, by go_num, by omega, by rw [List.length_append, Hacc.out]; rfl, by rw [List.length_append]; exact HO6, ?_, Nat.le_trans hz4 (Nat.le_trans hsz hs2), ?_, HW5, HV5⟩
            · refine Mut.blk (T := fun b => u5.ownBlock = some b) (Mut.grown hgr (fun b h => h)) HQ4.out (fun h => ?_)
              have := (HO4.out.lt g h).1
              omega
            · exact HM4.out.trans (Mut.grown (T := fun b => u5.ownBlock = some b) hgr (fun b h => h)) (fun b hb h => absurd hb (by have := (HO4.out.lt b h).1; omega))
          case measure => have := Hkm.out; simp [intOf]; omega
        · have hok : takeOk s3 e3 = false := by simpa using hok
          rw [if_neg (by simp [hok])] at hv5
          simp only [hok]
          have HV5 := Lib.hid hv5
          clear hv5 hok
          go_wp2_with fail
          go_ret2
          rw [HV5.out]
          exact ⟨_, rfl, Row.nil _ _ _, HQ4.out.alloc _, HM4.out.alloc _⟩
end Go.Proofs.Ytcfdbdmefdffdaa
/-
  The walks of rec: text, and what it is made of.
-/
set_option linter.unusedVariables false
set_option linter.unusedSimpArgs false
namespace Go.Proofs.Ytcfdbdmefdffdaa
open Go Go.RowKit Go.Proofs.Base
open Go.Sort (grow)
set_option maxRecDepth 100000 in
set_option maxHeartbeats 1000000 in
theorem rec_text1 (B : Nat) (r : GRec) (vv : Value) (w : World) (hw : r.wf) (hb : w.heap[B]? = some (.cells #[.int .i64 r.cls, .int .i64 r.kind, .int .u64 r.frm, .int .i64 r.time, .int .u64 r.key, .int .u64 r.key2, .int .u64 r.key3, .int .i64 r.n, .int .i64 r.m, .string r.a, .string r.b, .string r.c, vv] 25 (0, 0))) :
    Calls Try.prog 38 #[.pointer (some ⟨B, 0, none⟩)] w fun e w' => e = .returned (.string (recPiece r 0)) ∧ Below w.heap.size w w' := by
  obtain ⟨h1, h2, h3, h4, h5, h6, h7, h8, h9, h10, h11, h12, h13⟩ := hw
  have k2 := cell_regrown (cell_of_blk hb 2)
  have k3 := cell_regrown (cell_of_blk hb 3)
  have c0 := fun d os => Calls.regrown_of (wire_Uint r.frm (grow (redrawn w d) os) h3.1 h3.2)
  have c1 := fun d os => Calls.regrown_of (wire_Int r.time (grow (redrawn w d) os) h4.1 h4.2)
  have hz : ¬ 9223372036854775807 < (uintB r.frm.toNat).size + (intB r.time).size := by have := uintB_size (u64_toNat h3); have := intB_size h4.1 h4.2; omega
  have HB := Lib.hid hb
  clear hb h1 h2 h3 h4 h5 h6 h7 h8 h9 h10 h11 h12 h13
  go_enter Try.func38, Try.ntmps38
  go_wp2_with fail
  refine wp_region_quiet_below (by kernel_rfl) (by kernel_rfl) ?_
  repeat (first | go_big_quiet_step (first | with_reducible exact c0 _ _ | with_reducible exact c1 _ _) | quiet_step (first | with_reducible exact c0 _ _ | with_reducible exact c1 _ _))
  refine wpQuiet_nil ?_
  intro _ hw'
  obtain ⟨⟨dq, osq⟩, hw''⟩ := hw'
  subst hw''
  go_wp2_with fail
  go_ret
  exact ⟨rfl, below_regrown w dq osq⟩
set_option maxRecDepth 100000 in
set_option maxHeartbeats 1000000 in
theorem rec_text2 (B : Nat) (r : GRec) (vv : Value) (w : World) (hw : r.wf) (hb : w.heap[B]? = some (.cells #[.int .i64 r.cls, .int .i64 r.kind, .int .u64 r.frm, .int .i64 r.time, .int .u64 r.key, .int .u64 r.key2, .int .u64 r.key3, .int .i64 r.n, .int .i64 r.m, .string r.a, .string r.b, .string r.c, vv] 25 (0, 0))) :
    Calls Try.prog 41 #[.pointer (some ⟨B, 0, none⟩)] w fun e w' => e = .returned (.string (recPiece r 1)) ∧ Below w.heap.size w w' := by
  obtain ⟨h1, h2, h3, h4, h5, h6, h7, h8, h9, h10, h11, h12, h13⟩ := hw
  have k4 := cell_regrown (cell_of_blk hb 4)
  have k5 := cell_regrown (cell_of_blk hb 5)
  have k6 := cell_regrown (cell_of_blk hb 6)
  have c0 := fun d os => Calls.regrown_of (wire_Uint r.key (grow (redrawn w d) os) h5.1 h5.2)
  have c1 := fun d os => Calls.regrown_of (wire_Uint r.key2 (grow (redrawn w d) os) h6.1 h6.2)
  have c2 := fun d os => Calls.regrown_of (wire_Uint r.key3 (grow (redrawn w d) os) h7.1 h7.2)
  have hz : ¬ 9223372036854775807 < (uintB r.key.toNat).size + (uintB r.key2.toNat).size := by have := uintB_size (u64_toNat h5); have := uintB_size (u64_toNat h6); omega
  have hz2 : ¬ 9223372036854775807 < (uintB r.key.toNat).size + (uintB r.key2.toNat).size + (uintB r.key3.toNat).size := by have := uintB_size (u64_toNat h5); have := uintB_size (u64_toNat h6); have := uintB_size (u64_toNat h7); omega
  have HB := Lib.hid hb
  clear hb h1 h2 h3 h4 h5 h6 h7 h8 h9 h10 h11 h12 h13
  go_enter Try.func41, Try.ntmps41
  go_wp2_with fail
  refine wp_region_quiet_below (by kernel_rfl) (by kernel_rfl) ?_
  repeat (first | go_big_quiet_step (first | with_reducible exact c0 _ _ | with_reducible exact c1 _ _ | with_reducible exact c2 _ _) | quiet_step (first | with_reducible exact c0 _ _ | with_reducible exact c1 _ _ | with_reducible exact c2 _ _))
  refine wpQuiet_nil ?_
  intro _ hw'
  obtain ⟨⟨dq, osq⟩, hw''⟩ := hw'
  subst hw''
  go_wp2_with fail
  go_ret
  exact ⟨rfl, below_regrown w dq osq⟩
set_option maxRecDepth 100000 in
set_option maxHeartbeats 1000000 in
theorem rec_text3 (B : Nat) (r : GRec) (vv : Value) (w : World) (hw : r.wf) (hb : w.heap[B]? = some (.cells #[.int .i64 r.cls, .int .i64 r.kind, .int .u64 r.frm, .int .i64 r.time, .int .u64 r.key, .int .u64 r.key2, .int .u64 r.key3, .int .i64 r.n, .int .i64 r.m, .string r.a, .string r.b, .string r.c, vv] 25 (0, 0))) :
    Calls Try.prog 42 #[.pointer (some ⟨B, 0, none⟩)] w fun e w' => e = .returned (.string (recPiece r 2)) ∧ Below w.heap.size w w' := by
  obtain ⟨h1, h2, h3, h4, h5, h6, h7, h8, h9, h10, h11, h12, h13⟩ := hw
  have k7 := cell_regrown (cell_of_blk hb 7)
  have k8 := cell_regrown (cell_of_blk hb 8)
  have c0 := fun d os => Calls.regrown_of (wire_Int r.n (grow (redrawn w d) os) h8.1 h8.2)
  have c1 := fun d os => Calls.regrown_of (wire_Int r.m (grow (redrawn w d) os) h9.1 h9.2)
  have hz : ¬ 9223372036854775807 < (intB r.n).size + (intB r.m).size := by have := intB_size h8.1 h8.2; have := intB_size h9.1 h9.2; omega
  have HB := Lib.hid hb
  clear hb h1 h2 h3 h4 h5 h6 h7 h8 h9 h10 h11 h12 h13
  go_enter Try.func42, Try.ntmps42
  go_wp2_with fail
  refine wp_region_quiet_below (by kernel_rfl) (by kernel_rfl) ?_
  repeat (first | go_big_quiet_step (first | with_reducible exact c0 _ _ | with_reducible exact c1 _ _) | quiet_step (first | with_reducible exact c0 _ _ | with_reducible exact c1 _ _))
  refine wpQuiet_nil ?_
  intro _ hw'
  obtain ⟨⟨dq, osq⟩, hw''⟩ := hw'
  subst hw''
  go_wp2_with fail
  go_ret
  exact ⟨rfl, below_regrown w dq osq⟩
set_option maxRecDepth 100000 in
set_option maxHeartbeats 1000000 in
theorem rec_text4 (B : Nat) (r : GRec) (vv : Value) (w : World) (hw : r.wf) (hb : w.heap[B]? = some (.cells #[.int .i64 r.cls, .int .i64 r.kind, .int .u64 r.frm, .int .i64 r.time, .int .u64 r.key, .int .u64 r.key2, .int .u64 r.key3, .int .i64 r.n, .int .i64 r.m, .string r.a, .string r.b, .string r.c, vv] 25 (0, 0))) :
    Calls Try.prog 43 #[.pointer (some ⟨B, 0, none⟩)] w fun e w' => e = .returned (.string (recPiece r 3)) ∧ Below w.heap.size w w' := by
  obtain ⟨h1, h2, h3, h4, h5, h6, h7, h8, h9, h10, h11, h12, h13⟩ := hw
  have k9 := cell_regrown (cell_of_blk hb 9)
  have k10 := cell_regrown (cell_of_blk hb 10)
  have k11 := cell_regrown (cell_of_blk hb 11)
  have c0 := fun d os => Calls.regrown_of (wire_Text r.a (grow (redrawn w d) os) h10)
  have c1 := fun d os => Calls.regrown_of (wire_Text r.b (grow (redrawn w d) os) h11)
  have c2 := fun d os => Calls.regrown_of (wire_Text r.c (grow (redrawn w d) os) h12)
  have hz : ¬ 9223372036854775807 < (textB r.a).size + (textB r.b).size := by have := textB_size h10; have := textB_size h11; unfold okS at h10 h11; omega
  have hz2 : ¬ 9223372036854775807 < (textB r.a).size + (textB r.b).size + (textB r.c).size := by have := textB_size h10; have := textB_size h11; have := textB_size h12; unfold okS at h10 h11 h12; omega
  have HB := Lib.hid hb
  clear hb h1 h2 h3 h4 h5 h6 h7 h8 h9 h10 h11 h12 h13
  go_enter Try.func43, Try.ntmps43
  go_wp2_with fail
  refine wp_region_quiet_below (by kernel_rfl) (by kernel_rfl) ?_
  repeat (first | go_big_quiet_step (first | with_reducible exact c0 _ _ | with_reducible exact c1 _ _ | with_reducible exact c2 _ _) | quiet_step (first | with_reducible exact c0 _ _ | with_reducible exact c1 _ _ | with_reducible exact c2 _ _))
  refine wpQuiet_nil ?_
  intro _ hw'
  obtain ⟨⟨dq, osq⟩, hw''⟩ := hw'
  subst hw''
  go_wp2_with fail
  go_ret
  exact ⟨rfl, below_regrown w dq osq⟩
set_option maxRecDepth 100000 in
set_option maxHeartbeats 1000000 in
theorem rec_text5 (B : Nat) (r : GRec) (vv : Value) (S : Nat → Prop) (w : World) (hrow : Row w S 4 r.vars.length vv (varCells r.vars)) (hw : r.wf) (hb : w.heap[B]? = some (.cells #[.int .i64 r.cls, .int .i64 r.kind, .int .u64 r.frm, .int .i64 r.time, .int .u64 r.key, .int .u64 r.key2, .int .u64 r.key3, .int .i64 r.n, .int .i64 r.m, .string r.a, .string r.b, .string r.c, vv] 25 (0, 0))) :
    Calls Try.prog 45 #[.pointer (some ⟨B, 0, none⟩)] w fun e w' => e = .returned (.string (recPiece r 4)) ∧ Below w.heap.size w w' := by
  obtain ⟨h1, h2, h3, h4, h5, h6, h7, h8, h9, h10, h11, h12, h13⟩ := hw
  have kb := cell_of_blk hb 12
  have HC := Lib.hid (val_VarsBytes S r.vars r.vars.length vv w rfl hrow h13)
  obtain ⟨A, c, rfl, _, _⟩ := hrow.open_
  clear hrow hb
  go_enter Try.func45, Try.ntmps45
  go_wp2_with (go_at_call 46; refine HC.out.mono ?_; rintro e w1 ⟨rfl, hb1⟩)
  go_ret
  exact ⟨rfl, hb1⟩
end Go.Proofs.Ytcfdbdmefdffdaa
/-
  The walk of rec.text.
-/
set_option linter.unusedVariables false
set_option linter.unusedSimpArgs false
namespace Go.Proofs.Ytcfdbdmefdffdaa
open Go Go.RowKit Go.Proofs.Base
open Go.Sort (grow)
theorem blk_new (w : World) (o : Obj) {n : Nat} (h : n = w.heap.size) : (w.alloc o).heap[n]? = some o := by
  subst h
  show (w.heap.push o)[w.heap.size]? = some o
  exact Array.getElem?_push_size
theorem blk_old {w : World} {b : Nat} {o' : Obj} (o : Obj) (h : w.heap[b]? = some o') : (w.alloc o).heap[b]? = some o' := by
  have := lt_of_blk h
  simp only [World.alloc]
  rw [Array.getElem?_push_lt this, ← h, Array.getElem?_eq_getElem this]
set_option maxRecDepth 100000 in
set_option maxHeartbeats 1000000 in
theorem rec_text (r : GRec) (vv : Value) (S : Nat → Prop) (w : World) (hrow : Row w S 4 r.vars.length vv (varCells r.vars)) (hw : r.wf) :
    Calls Try.prog 17 #[.agg #[.int .i64 r.cls, .int .i64 r.kind, .int .u64 r.frm, .int .i64 r.time, .int .u64 r.key, .int .u64 r.key2, .int .u64 r.key3, .int .i64 r.n, .int .i64 r.m, .string r.a, .string r.b, .string r.c, vv]] w fun e w' => e = .returned (.string (recText r)) ∧ Below w.heap.size w w' := by
  have hcv : ∀ W : World, (convert 67 9 (.slice (some ⟨W.heap.size, 0, none⟩) 2 2)).run Try.prog (W.alloc (.cells #[.int .u8 (r.cls % 256), .int .u8 (r.kind % 256)] 5)) = .ok (.string (recHead r)) (W.alloc (.cells #[.int .u8 (r.cls % 256), .int .u8 (r.kind % 256)] 5)) := fun W => by
    have h := lit_string (P := Try.prog) Try.underlying67 Try.underlying5 Try.underlying9 W [(r.cls % 256).toNat, (r.kind % 256).toNat] 2 rfl (by omega)
    have e1 : (nums8 [(r.cls % 256).toNat, (r.kind % 256).toNat]).toArray = #[.int .u8 (r.cls % 256), .int .u8 (r.kind % 256)] := by simp [nums8]; omega
    rwa [e1] at h
  have hcv := hcv (w.alloc (.cells #[.int .i64 r.cls, .int .i64 r.kind, .int .u64 r.frm, .int .i64 r.time, .int .u64 r.key, .int .u64 r.key2, .int .u64 r.key3, .int .i64 r.n, .int .i64 r.m, .string r.a, .string r.b, .string r.c, vv] 25))
  rw [World.size_alloc] at hcv
  have HW := Lib.hid hw
  have HR := Lib.hid hrow
  clear hw hrow
  go_enter Try.func17, Try.ntmps17
  go_wp2_with fail
  generalize hW0 : (World.alloc (World.alloc (World.alloc w _) _) _) = W0
  have hs0 : W0.heap.size = w.heap.size + 3 := by rw [← hW0]; simp
  have hb0 : Below w.heap.size w W0 := by rw [← hW0]; exact (((Below.refl _ _).alloc (Nat.le_refl _) _).alloc (by simp) _).alloc (by simp; omega) _
  have hB0 : W0.heap[w.heap.size]? = some (.cells #[.int .i64 r.cls, .int .i64 r.kind, .int .u64 r.frm, .int .i64 r.time, .int .u64 r.key, .int .u64 r.key2, .int .u64 r.key3, .int .i64 r.n, .int .i64 r.m, .string r.a, .string r.b, .string r.c, vv] 25 (0, 0)) := by rw [← hW0]; exact blk_old _ (blk_old _ (blk_new _ _ rfl))
  have hA0 : W0.heap[w.heap.size + 1 + 1]? = some (.cells #[.func (.func 38) #[] #[.pointer (some ⟨w.heap.size, 0, none⟩)], .func (.func 41) #[] #[.pointer (some ⟨w.heap.size, 0, none⟩)], .func (.func 42) #[] #[.pointer (some ⟨w.heap.size, 0, none⟩)], .func (.func 43) #[] #[.pointer (some ⟨w.heap.size, 0, none⟩)], .func (.func 45) #[] #[.pointer (some ⟨w.heap.size, 0, none⟩)]] 70 (0, 0)) := by rw [← hW0]; exact blk_new _ _ (by simp)
  have HHB := Lib.hid hb0
  have HHS := Lib.hid hs0
  have HBB := Lib.hid hB0
  have HAA := Lib.hid hA0
  clear hb0 hs0 hB0 hA0 hW0 hcv
  go_loopw [3, 5, 21] (fun a _ i wr => ∃ k : Nat, k ≤ 5 ∧ i = .int .i64 k ∧ a = .string (recAcc r k) ∧ Below W0.heap.size W0 wr) (fun _ _ i _ => 5 - (intOf i).toNat)
  case atStart => exact ⟨0, by omega, rfl, rfl, Below.refl _ _⟩
  case round =>
    obtain ⟨k, hk, rfl, rfl, hb⟩ := hrel
    have HBw := Lib.hid (block_below hb HBB.out)
    have hA := block_below hb HAA.out
    have HRw := Lib.hid ((HR.out.below HHB.out).below hb)
    have HBl := Lib.hid hb
    clear hb
    have h6 : k = 0 ∨ k = 1 ∨ k = 2 ∨ k = 3 ∨ k = 4 ∨ k = 5 := by omega
    rcases h6 with rfl | rfl | rfl | rfl | rfl | rfl
    · have ha := (cell_of_blk hA 0).trans (rfl : _ = some (Value.func (.func 38) #[] #[.pointer (some ⟨w.heap.size, 0, none⟩)]))
      have hz : ¬ 9223372036854775807 < (recAcc r 0).size + (recPiece r 0).size := by have := recAcc_size HW.out 0; have := recPiece_size HW.out 0; omega
      clear hA hk
      go_wp2_with (go_at_call 38; refine (rec_text1 w.heap.size r vv wr HW.out HBw.out).mono ?_; rintro e w1 ⟨rfl, hb1⟩)
      go_roundw
      case rel => exact ⟨1, by omega, by go_num, rfl, below2 HBl.out hb1⟩
      case measure => simp [intOf]
    · have ha := (cell_of_blk hA 1).trans (rfl : _ = some (Value.func (.func 41) #[] #[.pointer (some ⟨w.heap.size, 0, none⟩)]))
      have hz : ¬ 9223372036854775807 < (recAcc r 1).size + (recPiece r 1).size := by have := recAcc_size HW.out 1; have := recPiece_size HW.out 1; omega
      clear hA hk
      go_wp2_with (go_at_call 41; refine (rec_text2 w.heap.size r vv wr HW.out HBw.out).mono ?_; rintro e w1 ⟨rfl, hb1⟩)
      go_roundw
      case rel => exact ⟨2, by omega, by go_num, rfl, below2 HBl.out hb1⟩
      case measure => simp [intOf]
    · have ha := (cell_of_blk hA 2).trans (rfl : _ = some (Value.func (.func 42) #[] #[.pointer (some ⟨w.heap.size, 0, none⟩)]))
      have hz : ¬ 9223372036854775807 < (recAcc r 2).size + (recPiece r 2).size := by have := recAcc_size HW.out 2; have := recPiece_size HW.out 2; omega
      clear hA hk
      go_wp2_with (go_at_call 42; refine (rec_text3 w.heap.size r vv wr HW.out HBw.out).mono ?_; rintro e w1 ⟨rfl, hb1⟩)
      go_roundw
      case rel => exact ⟨3, by omega, by go_num, rfl, below2 HBl.out hb1⟩
      case measure => simp [intOf]
    · have ha := (cell_of_blk hA 3).trans (rfl : _ = some (Value.func (.func 43) #[] #[.pointer (some ⟨w.heap.size, 0, none⟩)]))
      have hz : ¬ 9223372036854775807 < (recAcc r 3).size + (recPiece r 3).size := by have := recAcc_size HW.out 3; have := recPiece_size HW.out 3; omega
      clear hA hk
      go_wp2_with (go_at_call 43; refine (rec_text4 w.heap.size r vv wr HW.out HBw.out).mono ?_; rintro e w1 ⟨rfl, hb1⟩)
      go_roundw
      case rel => exact ⟨4, by omega, by go_num, rfl, below2 HBl.out hb1⟩
      case measure => simp [intOf]
    · have ha := (cell_of_blk hA 4).trans (rfl : _ = some (Value.func (.func 45) #[] #[.pointer (some ⟨w.heap.size, 0, none⟩)]))
      have hz : ¬ 9223372036854775807 < (recAcc r 4).size + (recPiece r 4).size := by have := recAcc_size HW.out 4; have := recPiece_size HW.out 4; omega
      clear hA hk
      go_wp2_with (go_at_call 45; refine (rec_text5 w.heap.size r vv S wr HRw.out HW.out HBw.out).mono ?_; rintro e w1 ⟨rfl, hb1⟩)
      go_roundw
      case rel => exact ⟨5, by omega, by go_num, rfl, below2 HBl.out hb1⟩
      case measure => simp [intOf]
    · clear hA hk
      go_wp2_with fail
      go_ret
      exact ⟨rfl, below2 HHB.out HBl.out⟩
end Go.Proofs.Ytcfdbdmefdffdaa
/-
  The walks of rec.most, May and Bytes.
-/
set_option linter.unusedVariables false
set_option linter.unusedSimpArgs false
namespace Go.Proofs.Ytcfdbdmefdffdaa
open Go Go.RowKit Go.Proofs.Base
open Go.Sort (grow)
set_option maxRecDepth 100000 in
set_option maxHeartbeats 1000000 in
theorem rec_most (r : GRec) (vv : Value) (w : World) :
    Calls Try.prog 19 #[.agg #[.int .i64 r.cls, .int .i64 r.kind, .int .u64 r.frm, .int .i64 r.time, .int .u64 r.key, .int .u64 r.key2, .int .u64 r.key3, .int .i64 r.n, .int .i64 r.m, .string r.a, .string r.b, .string r.c, vv]] w fun e w' => e = .returned (.tuple #[.int .i64 (kindsM r.cls), .int .i64 (aMost r.cls r.kind), .int .i64 (bMost r.cls r.kind)]) ∧ Below w.heap.size w w' := by
  unfold kindsM aMost bMost
  have hbb : Below w.heap.size w (w.alloc (.cells #[.int .i64 r.cls, .int .i64 r.kind, .int .u64 r.frm, .int .i64 r.time, .int .u64 r.key, .int .u64 r.key2, .int .u64 r.key3, .int .i64 r.n, .int .i64 r.m, .string r.a, .string r.b, .string r.c, vv] 25)) := (Below.refl _ _).alloc (Nat.le_refl _) _
  have HB := Lib.hid hbb
  clear hbb
  by_cases h2 : r.cls = 2
  · have h1 : r.cls ≠ 1 := by omega
    have b2 := beq_t h2
    by_cases hk : r.kind = 1
    · have bk := beq_t hk
      rw [if_pos h2, if_neg (fun h => h1 h.1), if_pos ⟨h2, hk⟩]
      clear h1 h2 hk
      go_enter Try.func19, Try.ntmps19
      go_wp2_with fail
      go_ret3
      exact ⟨rfl, HB.out⟩
    · have bk := beq_f hk
      rw [if_pos h2, if_neg (fun h => h1 h.1), if_neg (fun h => hk h.2)]
      clear h1 h2 hk
      go_enter Try.func19, Try.ntmps19
      go_wp2_with fail
      go_ret3
      exact ⟨rfl, HB.out⟩
  · have b2 := beq_f h2
    by_cases h1 : r.cls = 1
    · have b1 := beq_t h1
      by_cases hk : r.kind = 1
      · have bk := beq_t hk
        rw [if_neg h2, if_pos ⟨h1, hk⟩, if_neg (fun h => h2 h.1)]
        clear h1 h2 hk
        go_enter Try.func19, Try.ntmps19
        go_wp2_with fail
        go_ret3
        exact ⟨rfl, HB.out⟩
      · have bk := beq_f hk
        rw [if_neg h2, if_neg (fun h => hk h.2), if_neg (fun h => h2 h.1)]
        clear h1 h2 hk
        go_enter Try.func19, Try.ntmps19
        go_wp2_with fail
        go_ret3
        exact ⟨rfl, HB.out⟩
    · have b1 := beq_f h1
      rw [if_neg h2, if_neg (fun h => h1 h.1), if_neg (fun h => h2 h.1)]
      clear h1 h2
      go_enter Try.func19, Try.ntmps19
      go_wp2_with fail
      go_ret3
      exact ⟨rfl, HB.out⟩
end Go.Proofs.Ytcfdbdmefdffdaa
/-
  The walks of rec.May and Bytes. Printed by genmay.py.
-/
set_option linter.unusedVariables false
set_option linter.unusedSimpArgs false
namespace Go.Proofs.Ytcfdbdmefdffdaa
open Go Go.RowKit Go.Proofs.Base
open Go.Sort (grow)
theorem iff_bne {a b : Int} : ((a == 1) != (b == 0)) = decide (¬ (a = 1 ↔ b = 0)) := by
  rw [Bool.eq_iff_iff, bne_iff_ne, decide_eq_true_iff]
  by_cases h : a = 1
  · by_cases k : b = 0
    · simp [beq_t h, beq_t k, h, k]
    · simp [beq_t h, beq_f k, h, k]
  · by_cases k : b = 0
    · simp [beq_f h, beq_t k, h, k]
    · simp [beq_f h, beq_f k, h, k]
set_option maxRecDepth 100000 in
set_option maxHeartbeats 4000000 in
theorem rec_May (r : GRec) (vv : Value) (S : Nat → Prop) (w : World) (hrow : Row w S 4 r.vars.length vv (varCells r.vars)) (hw : r.wf) :
    Calls Try.prog 11 #[.agg #[.int .i64 r.cls, .int .i64 r.kind, .int .u64 r.frm, .int .i64 r.time, .int .u64 r.key, .int .u64 r.key2, .int .u64 r.key3, .int .i64 r.n, .int .i64 r.m, .string r.a, .string r.b, .string r.c, vv]] w fun e w' => e = .returned (.bool (recMay r)) ∧ Below w.heap.size w w' := by
  have HW := Lib.hid hw
  have HR := Lib.hid hrow
  have hbb : Below w.heap.size w (w.alloc (.cells #[.int .i64 r.cls, .int .i64 r.kind, .int .u64 r.frm, .int .i64 r.time, .int .u64 r.key, .int .u64 r.key2, .int .u64 r.key3, .int .i64 r.n, .int .i64 r.m, .string r.a, .string r.b, .string r.c, vv] 25)) := (Below.refl _ _).alloc (Nat.le_refl _) _
  have HB := Lib.hid hbb
  have hiff := @iff_bne r.cls r.frm
  clear hbb hw hrow
  by_cases c0 : r.cls < 1
  · have f0 : decide (r.cls < 1) = true := by exact decide_eq_true c0
    have hv : recMay r = false := decide_eq_false (fun h => by obtain ⟨p0, p1, p2, p3, p4, p5, p6, p7, p8, p9, p10, p11⟩ := h; clear p4; omega)
    have HV := Lib.hid hv
    clear hv c0
    go_enter Try.func11, Try.ntmps11
    go_wp2_with ((go_at_call 19; refine (rec_most r vv _).mono ?_; rintro e w1 ⟨rfl, hb1⟩; have hB1 := block_below hb1 (blk_new w _ rfl); have k01 := (cell_of_blk hB1 0).trans (rfl : _ = some (Value.int .i64 r.cls)); have k11 := (cell_of_blk hB1 1).trans (rfl : _ = some (Value.int .i64 r.kind)); have k21 := (cell_of_blk hB1 2).trans (rfl : _ = some (Value.int .u64 r.frm)); have k31 := (cell_of_blk hB1 3).trans (rfl : _ = some (Value.int .i64 r.time)); have k41 := (cell_of_blk hB1 4).trans (rfl : _ = some (Value.int .u64 r.key)); have k51 := (cell_of_blk hB1 5).trans (rfl : _ = some (Value.int .u64 r.key2)); have k61 := (cell_of_blk hB1 6).trans (rfl : _ = some (Value.int .u64 r.key3)); have k71 := (cell_of_blk hB1 7).trans (rfl : _ = some (Value.int .i64 r.n)); have k81 := (cell_of_blk hB1 8).trans (rfl : _ = some (Value.int .i64 r.m)); have k91 := (cell_of_blk hB1 9).trans (rfl : _ = some (Value.string r.a)); have k101 := (cell_of_blk hB1 10).trans (rfl : _ = some (Value.string r.b)); have k111 := (cell_of_blk hB1 11).trans (rfl : _ = some (Value.string r.c)); have k121 := (cell_of_blk hB1 12).trans (rfl : _ = some vv)))
    go_ret
    exact ⟨by rw [HV.out]; rfl, below2 HB.out hb1⟩
  have f0 : decide (r.cls < 1) = false := by exact decide_eq_false c0
  by_cases c1 : (3 : Int) < r.cls
  · have f1 : decide ((3 : Int) < r.cls) = true := by exact decide_eq_true c1
    have hv : recMay r = false := decide_eq_false (fun h => by obtain ⟨p0, p1, p2, p3, p4, p5, p6, p7, p8, p9, p10, p11⟩ := h; clear p4; omega)
    have HV := Lib.hid hv
    clear hv c0 c1
    go_enter Try.func11, Try.ntmps11
    go_wp2_with ((go_at_call 19; refine (rec_most r vv _).mono ?_; rintro e w1 ⟨rfl, hb1⟩; have hB1 := block_below hb1 (blk_new w _ rfl); have k01 := (cell_of_blk hB1 0).trans (rfl : _ = some (Value.int .i64 r.cls)); have k11 := (cell_of_blk hB1 1).trans (rfl : _ = some (Value.int .i64 r.kind)); have k21 := (cell_of_blk hB1 2).trans (rfl : _ = some (Value.int .u64 r.frm)); have k31 := (cell_of_blk hB1 3).trans (rfl : _ = some (Value.int .i64 r.time)); have k41 := (cell_of_blk hB1 4).trans (rfl : _ = some (Value.int .u64 r.key)); have k51 := (cell_of_blk hB1 5).trans (rfl : _ = some (Value.int .u64 r.key2)); have k61 := (cell_of_blk hB1 6).trans (rfl : _ = some (Value.int .u64 r.key3)); have k71 := (cell_of_blk hB1 7).trans (rfl : _ = some (Value.int .i64 r.n)); have k81 := (cell_of_blk hB1 8).trans (rfl : _ = some (Value.int .i64 r.m)); have k91 := (cell_of_blk hB1 9).trans (rfl : _ = some (Value.string r.a)); have k101 := (cell_of_blk hB1 10).trans (rfl : _ = some (Value.string r.b)); have k111 := (cell_of_blk hB1 11).trans (rfl : _ = some (Value.string r.c)); have k121 := (cell_of_blk hB1 12).trans (rfl : _ = some vv)))
    go_ret
    exact ⟨by rw [HV.out]; rfl, below2 HB.out hb1⟩
  have f1 : decide ((3 : Int) < r.cls) = false := by exact decide_eq_false c1
  by_cases c2 : r.kind < 1
  · have f2 : decide (r.kind < 1) = true := by exact decide_eq_true c2
    have hv : recMay r = false := decide_eq_false (fun h => by obtain ⟨p0, p1, p2, p3, p4, p5, p6, p7, p8, p9, p10, p11⟩ := h; clear p4; omega)
    have HV := Lib.hid hv
    clear hv c0 c1 c2
    go_enter Try.func11, Try.ntmps11
    go_wp2_with ((go_at_call 19; refine (rec_most r vv _).mono ?_; rintro e w1 ⟨rfl, hb1⟩; have hB1 := block_below hb1 (blk_new w _ rfl); have k01 := (cell_of_blk hB1 0).trans (rfl : _ = some (Value.int .i64 r.cls)); have k11 := (cell_of_blk hB1 1).trans (rfl : _ = some (Value.int .i64 r.kind)); have k21 := (cell_of_blk hB1 2).trans (rfl : _ = some (Value.int .u64 r.frm)); have k31 := (cell_of_blk hB1 3).trans (rfl : _ = some (Value.int .i64 r.time)); have k41 := (cell_of_blk hB1 4).trans (rfl : _ = some (Value.int .u64 r.key)); have k51 := (cell_of_blk hB1 5).trans (rfl : _ = some (Value.int .u64 r.key2)); have k61 := (cell_of_blk hB1 6).trans (rfl : _ = some (Value.int .u64 r.key3)); have k71 := (cell_of_blk hB1 7).trans (rfl : _ = some (Value.int .i64 r.n)); have k81 := (cell_of_blk hB1 8).trans (rfl : _ = some (Value.int .i64 r.m)); have k91 := (cell_of_blk hB1 9).trans (rfl : _ = some (Value.string r.a)); have k101 := (cell_of_blk hB1 10).trans (rfl : _ = some (Value.string r.b)); have k111 := (cell_of_blk hB1 11).trans (rfl : _ = some (Value.string r.c)); have k121 := (cell_of_blk hB1 12).trans (rfl : _ = some vv)))
    go_ret
    exact ⟨by rw [HV.out]; rfl, below2 HB.out hb1⟩
  have f2 : decide (r.kind < 1) = false := by exact decide_eq_false c2
  by_cases c3 : kindsM r.cls < r.kind
  · have f3 : decide (kindsM r.cls < r.kind) = true := by exact decide_eq_true c3
    have hv : recMay r = false := decide_eq_false (fun h => by obtain ⟨p0, p1, p2, p3, p4, p5, p6, p7, p8, p9, p10, p11⟩ := h; clear p4; omega)
    have HV := Lib.hid hv
    clear hv c0 c1 c2 c3
    go_enter Try.func11, Try.ntmps11
    go_wp2_with ((go_at_call 19; refine (rec_most r vv _).mono ?_; rintro e w1 ⟨rfl, hb1⟩; have hB1 := block_below hb1 (blk_new w _ rfl); have k01 := (cell_of_blk hB1 0).trans (rfl : _ = some (Value.int .i64 r.cls)); have k11 := (cell_of_blk hB1 1).trans (rfl : _ = some (Value.int .i64 r.kind)); have k21 := (cell_of_blk hB1 2).trans (rfl : _ = some (Value.int .u64 r.frm)); have k31 := (cell_of_blk hB1 3).trans (rfl : _ = some (Value.int .i64 r.time)); have k41 := (cell_of_blk hB1 4).trans (rfl : _ = some (Value.int .u64 r.key)); have k51 := (cell_of_blk hB1 5).trans (rfl : _ = some (Value.int .u64 r.key2)); have k61 := (cell_of_blk hB1 6).trans (rfl : _ = some (Value.int .u64 r.key3)); have k71 := (cell_of_blk hB1 7).trans (rfl : _ = some (Value.int .i64 r.n)); have k81 := (cell_of_blk hB1 8).trans (rfl : _ = some (Value.int .i64 r.m)); have k91 := (cell_of_blk hB1 9).trans (rfl : _ = some (Value.string r.a)); have k101 := (cell_of_blk hB1 10).trans (rfl : _ = some (Value.string r.b)); have k111 := (cell_of_blk hB1 11).trans (rfl : _ = some (Value.string r.c)); have k121 := (cell_of_blk hB1 12).trans (rfl : _ = some vv)))
    go_ret
    exact ⟨by rw [HV.out]; rfl, below2 HB.out hb1⟩
  have f3 : decide (kindsM r.cls < r.kind) = false := by exact decide_eq_false c3
  by_cases c4 : ¬ (r.cls = 1 ↔ r.frm = 0)
  · have f4 : decide (¬ (r.cls = 1 ↔ r.frm = 0)) = true := by exact decide_eq_true c4
    have hv : recMay r = false := decide_eq_false (fun h => by obtain ⟨p0, p1, p2, p3, p4, p5, p6, p7, p8, p9, p10, p11⟩ := h; exact c4 p4)
    have HV := Lib.hid hv
    clear hv c0 c1 c2 c3 c4
    rw [f4] at hiff
    have hiff2 : ¬ ((r.cls == 1) = (r.frm == 0)) := by rwa [bne_iff_ne] at hiff
    go_enter Try.func11, Try.ntmps11
    go_wp2_with ((go_at_call 19; refine (rec_most r vv _).mono ?_; rintro e w1 ⟨rfl, hb1⟩; have hB1 := block_below hb1 (blk_new w _ rfl); have k01 := (cell_of_blk hB1 0).trans (rfl : _ = some (Value.int .i64 r.cls)); have k11 := (cell_of_blk hB1 1).trans (rfl : _ = some (Value.int .i64 r.kind)); have k21 := (cell_of_blk hB1 2).trans (rfl : _ = some (Value.int .u64 r.frm)); have k31 := (cell_of_blk hB1 3).trans (rfl : _ = some (Value.int .i64 r.time)); have k41 := (cell_of_blk hB1 4).trans (rfl : _ = some (Value.int .u64 r.key)); have k51 := (cell_of_blk hB1 5).trans (rfl : _ = some (Value.int .u64 r.key2)); have k61 := (cell_of_blk hB1 6).trans (rfl : _ = some (Value.int .u64 r.key3)); have k71 := (cell_of_blk hB1 7).trans (rfl : _ = some (Value.int .i64 r.n)); have k81 := (cell_of_blk hB1 8).trans (rfl : _ = some (Value.int .i64 r.m)); have k91 := (cell_of_blk hB1 9).trans (rfl : _ = some (Value.string r.a)); have k101 := (cell_of_blk hB1 10).trans (rfl : _ = some (Value.string r.b)); have k111 := (cell_of_blk hB1 11).trans (rfl : _ = some (Value.string r.c)); have k121 := (cell_of_blk hB1 12).trans (rfl : _ = some vv)))
    go_ret
    exact ⟨by rw [HV.out]; rfl, below2 HB.out hb1⟩
  have f4 : decide (¬ (r.cls = 1 ↔ r.frm = 0)) = false := by exact decide_eq_false c4
  by_cases c5 : r.time < 0
  · have f5 : decide (r.time < 0) = true := by exact decide_eq_true c5
    have hv : recMay r = false := decide_eq_false (fun h => by obtain ⟨p0, p1, p2, p3, p4, p5, p6, p7, p8, p9, p10, p11⟩ := h; clear c4 p4; omega)
    have HV := Lib.hid hv
    clear hv c0 c1 c2 c3 c4 c5
    rw [f4] at hiff
    have hiff2 : (r.cls == 1) = (r.frm == 0) := by rwa [bne_eq_false_iff_eq] at hiff
    go_enter Try.func11, Try.ntmps11
    go_wp2_with ((go_at_call 19; refine (rec_most r vv _).mono ?_; rintro e w1 ⟨rfl, hb1⟩; have hB1 := block_below hb1 (blk_new w _ rfl); have k01 := (cell_of_blk hB1 0).trans (rfl : _ = some (Value.int .i64 r.cls)); have k11 := (cell_of_blk hB1 1).trans (rfl : _ = some (Value.int .i64 r.kind)); have k21 := (cell_of_blk hB1 2).trans (rfl : _ = some (Value.int .u64 r.frm)); have k31 := (cell_of_blk hB1 3).trans (rfl : _ = some (Value.int .i64 r.time)); have k41 := (cell_of_blk hB1 4).trans (rfl : _ = some (Value.int .u64 r.key)); have k51 := (cell_of_blk hB1 5).trans (rfl : _ = some (Value.int .u64 r.key2)); have k61 := (cell_of_blk hB1 6).trans (rfl : _ = some (Value.int .u64 r.key3)); have k71 := (cell_of_blk hB1 7).trans (rfl : _ = some (Value.int .i64 r.n)); have k81 := (cell_of_blk hB1 8).trans (rfl : _ = some (Value.int .i64 r.m)); have k91 := (cell_of_blk hB1 9).trans (rfl : _ = some (Value.string r.a)); have k101 := (cell_of_blk hB1 10).trans (rfl : _ = some (Value.string r.b)); have k111 := (cell_of_blk hB1 11).trans (rfl : _ = some (Value.string r.c)); have k121 := (cell_of_blk hB1 12).trans (rfl : _ = some vv)))
    go_ret
    exact ⟨by rw [HV.out]; rfl, below2 HB.out hb1⟩
  have f5 : decide (r.time < 0) = false := by exact decide_eq_false c5
  by_cases c6 : (1099511627776 : Int) < r.time
  · have f6 : decide ((1099511627776 : Int) < r.time) = true := by exact decide_eq_true c6
    have hv : recMay r = false := decide_eq_false (fun h => by obtain ⟨p0, p1, p2, p3, p4, p5, p6, p7, p8, p9, p10, p11⟩ := h; clear c4 p4; omega)
    have HV := Lib.hid hv
    clear hv c0 c1 c2 c3 c4 c5 c6
    rw [f4] at hiff
    have hiff2 : (r.cls == 1) = (r.frm == 0) := by rwa [bne_eq_false_iff_eq] at hiff
    go_enter Try.func11, Try.ntmps11
    go_wp2_with ((go_at_call 19; refine (rec_most r vv _).mono ?_; rintro e w1 ⟨rfl, hb1⟩; have hB1 := block_below hb1 (blk_new w _ rfl); have k01 := (cell_of_blk hB1 0).trans (rfl : _ = some (Value.int .i64 r.cls)); have k11 := (cell_of_blk hB1 1).trans (rfl : _ = some (Value.int .i64 r.kind)); have k21 := (cell_of_blk hB1 2).trans (rfl : _ = some (Value.int .u64 r.frm)); have k31 := (cell_of_blk hB1 3).trans (rfl : _ = some (Value.int .i64 r.time)); have k41 := (cell_of_blk hB1 4).trans (rfl : _ = some (Value.int .u64 r.key)); have k51 := (cell_of_blk hB1 5).trans (rfl : _ = some (Value.int .u64 r.key2)); have k61 := (cell_of_blk hB1 6).trans (rfl : _ = some (Value.int .u64 r.key3)); have k71 := (cell_of_blk hB1 7).trans (rfl : _ = some (Value.int .i64 r.n)); have k81 := (cell_of_blk hB1 8).trans (rfl : _ = some (Value.int .i64 r.m)); have k91 := (cell_of_blk hB1 9).trans (rfl : _ = some (Value.string r.a)); have k101 := (cell_of_blk hB1 10).trans (rfl : _ = some (Value.string r.b)); have k111 := (cell_of_blk hB1 11).trans (rfl : _ = some (Value.string r.c)); have k121 := (cell_of_blk hB1 12).trans (rfl : _ = some vv)))
    go_ret
    exact ⟨by rw [HV.out]; rfl, below2 HB.out hb1⟩
  have f6 : decide ((1099511627776 : Int) < r.time) = false := by exact decide_eq_false c6
  by_cases c7 : aMost r.cls r.kind < (r.a.size : Int)
  · have f7 : decide (aMost r.cls r.kind < (r.a.size : Int)) = true := by exact decide_eq_true c7
    have hv : recMay r = false := decide_eq_false (fun h => by obtain ⟨p0, p1, p2, p3, p4, p5, p6, p7, p8, p9, p10, p11⟩ := h; clear c4 p4; omega)
    have HV := Lib.hid hv
    clear hv c0 c1 c2 c3 c4 c5 c6 c7
    rw [f4] at hiff
    have hiff2 : (r.cls == 1) = (r.frm == 0) := by rwa [bne_eq_false_iff_eq] at hiff
    go_enter Try.func11, Try.ntmps11
    go_wp2_with ((go_at_call 19; refine (rec_most r vv _).mono ?_; rintro e w1 ⟨rfl, hb1⟩; have hB1 := block_below hb1 (blk_new w _ rfl); have k01 := (cell_of_blk hB1 0).trans (rfl : _ = some (Value.int .i64 r.cls)); have k11 := (cell_of_blk hB1 1).trans (rfl : _ = some (Value.int .i64 r.kind)); have k21 := (cell_of_blk hB1 2).trans (rfl : _ = some (Value.int .u64 r.frm)); have k31 := (cell_of_blk hB1 3).trans (rfl : _ = some (Value.int .i64 r.time)); have k41 := (cell_of_blk hB1 4).trans (rfl : _ = some (Value.int .u64 r.key)); have k51 := (cell_of_blk hB1 5).trans (rfl : _ = some (Value.int .u64 r.key2)); have k61 := (cell_of_blk hB1 6).trans (rfl : _ = some (Value.int .u64 r.key3)); have k71 := (cell_of_blk hB1 7).trans (rfl : _ = some (Value.int .i64 r.n)); have k81 := (cell_of_blk hB1 8).trans (rfl : _ = some (Value.int .i64 r.m)); have k91 := (cell_of_blk hB1 9).trans (rfl : _ = some (Value.string r.a)); have k101 := (cell_of_blk hB1 10).trans (rfl : _ = some (Value.string r.b)); have k111 := (cell_of_blk hB1 11).trans (rfl : _ = some (Value.string r.c)); have k121 := (cell_of_blk hB1 12).trans (rfl : _ = some vv)))
    go_ret
    exact ⟨by rw [HV.out]; rfl, below2 HB.out hb1⟩
  have f7 : decide (aMost r.cls r.kind < (r.a.size : Int)) = false := by exact decide_eq_false c7
  by_cases c8 : bMost r.cls r.kind < (r.b.size : Int)
  · have f8 : decide (bMost r.cls r.kind < (r.b.size : Int)) = true := by exact decide_eq_true c8
    have hv : recMay r = false := decide_eq_false (fun h => by obtain ⟨p0, p1, p2, p3, p4, p5, p6, p7, p8, p9, p10, p11⟩ := h; clear c4 p4; omega)
    have HV := Lib.hid hv
    clear hv c0 c1 c2 c3 c4 c5 c6 c7 c8
    rw [f4] at hiff
    have hiff2 : (r.cls == 1) = (r.frm == 0) := by rwa [bne_eq_false_iff_eq] at hiff
    go_enter Try.func11, Try.ntmps11
    go_wp2_with ((go_at_call 19; refine (rec_most r vv _).mono ?_; rintro e w1 ⟨rfl, hb1⟩; have hB1 := block_below hb1 (blk_new w _ rfl); have k01 := (cell_of_blk hB1 0).trans (rfl : _ = some (Value.int .i64 r.cls)); have k11 := (cell_of_blk hB1 1).trans (rfl : _ = some (Value.int .i64 r.kind)); have k21 := (cell_of_blk hB1 2).trans (rfl : _ = some (Value.int .u64 r.frm)); have k31 := (cell_of_blk hB1 3).trans (rfl : _ = some (Value.int .i64 r.time)); have k41 := (cell_of_blk hB1 4).trans (rfl : _ = some (Value.int .u64 r.key)); have k51 := (cell_of_blk hB1 5).trans (rfl : _ = some (Value.int .u64 r.key2)); have k61 := (cell_of_blk hB1 6).trans (rfl : _ = some (Value.int .u64 r.key3)); have k71 := (cell_of_blk hB1 7).trans (rfl : _ = some (Value.int .i64 r.n)); have k81 := (cell_of_blk hB1 8).trans (rfl : _ = some (Value.int .i64 r.m)); have k91 := (cell_of_blk hB1 9).trans (rfl : _ = some (Value.string r.a)); have k101 := (cell_of_blk hB1 10).trans (rfl : _ = some (Value.string r.b)); have k111 := (cell_of_blk hB1 11).trans (rfl : _ = some (Value.string r.c)); have k121 := (cell_of_blk hB1 12).trans (rfl : _ = some vv)))
    go_ret
    exact ⟨by rw [HV.out]; rfl, below2 HB.out hb1⟩
  have f8 : decide (bMost r.cls r.kind < (r.b.size : Int)) = false := by exact decide_eq_false c8
  by_cases c9 : (32 : Int) < (r.c.size : Int)
  · have f9 : decide ((32 : Int) < (r.c.size : Int)) = true := by exact decide_eq_true c9
    have hv : recMay r = false := decide_eq_false (fun h => by obtain ⟨p0, p1, p2, p3, p4, p5, p6, p7, p8, p9, p10, p11⟩ := h; clear c4 p4; omega)
    have HV := Lib.hid hv
    clear hv c0 c1 c2 c3 c4 c5 c6 c7 c8 c9
    rw [f4] at hiff
    have hiff2 : (r.cls == 1) = (r.frm == 0) := by rwa [bne_eq_false_iff_eq] at hiff
    go_enter Try.func11, Try.ntmps11
    go_wp2_with ((go_at_call 19; refine (rec_most r vv _).mono ?_; rintro e w1 ⟨rfl, hb1⟩; have hB1 := block_below hb1 (blk_new w _ rfl); have k01 := (cell_of_blk hB1 0).trans (rfl : _ = some (Value.int .i64 r.cls)); have k11 := (cell_of_blk hB1 1).trans (rfl : _ = some (Value.int .i64 r.kind)); have k21 := (cell_of_blk hB1 2).trans (rfl : _ = some (Value.int .u64 r.frm)); have k31 := (cell_of_blk hB1 3).trans (rfl : _ = some (Value.int .i64 r.time)); have k41 := (cell_of_blk hB1 4).trans (rfl : _ = some (Value.int .u64 r.key)); have k51 := (cell_of_blk hB1 5).trans (rfl : _ = some (Value.int .u64 r.key2)); have k61 := (cell_of_blk hB1 6).trans (rfl : _ = some (Value.int .u64 r.key3)); have k71 := (cell_of_blk hB1 7).trans (rfl : _ = some (Value.int .i64 r.n)); have k81 := (cell_of_blk hB1 8).trans (rfl : _ = some (Value.int .i64 r.m)); have k91 := (cell_of_blk hB1 9).trans (rfl : _ = some (Value.string r.a)); have k101 := (cell_of_blk hB1 10).trans (rfl : _ = some (Value.string r.b)); have k111 := (cell_of_blk hB1 11).trans (rfl : _ = some (Value.string r.c)); have k121 := (cell_of_blk hB1 12).trans (rfl : _ = some vv)))
    go_ret
    exact ⟨by rw [HV.out]; rfl, below2 HB.out hb1⟩
  have f9 : decide ((32 : Int) < (r.c.size : Int)) = false := by exact decide_eq_false c9
  by_cases c10 : rightV r.vars = false
  · have f10 : rightV r.vars = false := by exact c10
    have hv : recMay r = false := decide_eq_false (fun h => by obtain ⟨p0, p1, p2, p3, p4, p5, p6, p7, p8, p9, p10, p11⟩ := h; rw [p10] at c10; cases c10)
    have HV := Lib.hid hv
    clear hv c0 c1 c2 c3 c4 c5 c6 c7 c8 c9 c10
    rw [f4] at hiff
    have hiff2 : (r.cls == 1) = (r.frm == 0) := by rwa [bne_eq_false_iff_eq] at hiff
    go_enter Try.func11, Try.ntmps11
    go_wp2_with (first | (go_at_call 19; refine (rec_most r vv _).mono ?_; rintro e w1 ⟨rfl, hb1⟩; have hB1 := block_below hb1 (blk_new w _ rfl); have k01 := (cell_of_blk hB1 0).trans (rfl : _ = some (Value.int .i64 r.cls)); have k11 := (cell_of_blk hB1 1).trans (rfl : _ = some (Value.int .i64 r.kind)); have k21 := (cell_of_blk hB1 2).trans (rfl : _ = some (Value.int .u64 r.frm)); have k31 := (cell_of_blk hB1 3).trans (rfl : _ = some (Value.int .i64 r.time)); have k41 := (cell_of_blk hB1 4).trans (rfl : _ = some (Value.int .u64 r.key)); have k51 := (cell_of_blk hB1 5).trans (rfl : _ = some (Value.int .u64 r.key2)); have k61 := (cell_of_blk hB1 6).trans (rfl : _ = some (Value.int .u64 r.key3)); have k71 := (cell_of_blk hB1 7).trans (rfl : _ = some (Value.int .i64 r.n)); have k81 := (cell_of_blk hB1 8).trans (rfl : _ = some (Value.int .i64 r.m)); have k91 := (cell_of_blk hB1 9).trans (rfl : _ = some (Value.string r.a)); have k101 := (cell_of_blk hB1 10).trans (rfl : _ = some (Value.string r.b)); have k111 := (cell_of_blk hB1 11).trans (rfl : _ = some (Value.string r.c)); have k121 := (cell_of_blk hB1 12).trans (rfl : _ = some vv)) | (go_at_call 20; refine (val_Right S r.vars r.vars.length vv _ rfl ((HR.out.below HB.out).below hb1) (HW.out.2.2.2.2.2.2.2.2.2.2.2.2)).mono ?_; rintro e w2 ⟨rfl, hb2⟩; have hB2 := block_below hb2 hB1; have k02 := (cell_of_blk hB2 0).trans (rfl : _ = some (Value.int .i64 r.cls)); have k12 := (cell_of_blk hB2 1).trans (rfl : _ = some (Value.int .i64 r.kind)); have k22 := (cell_of_blk hB2 2).trans (rfl : _ = some (Value.int .u64 r.frm)); have k32 := (cell_of_blk hB2 3).trans (rfl : _ = some (Value.int .i64 r.time)); have k42 := (cell_of_blk hB2 4).trans (rfl : _ = some (Value.int .u64 r.key)); have k52 := (cell_of_blk hB2 5).trans (rfl : _ = some (Value.int .u64 r.key2)); have k62 := (cell_of_blk hB2 6).trans (rfl : _ = some (Value.int .u64 r.key3)); have k72 := (cell_of_blk hB2 7).trans (rfl : _ = some (Value.int .i64 r.n)); have k82 := (cell_of_blk hB2 8).trans (rfl : _ = some (Value.int .i64 r.m)); have k92 := (cell_of_blk hB2 9).trans (rfl : _ = some (Value.string r.a)); have k102 := (cell_of_blk hB2 10).trans (rfl : _ = some (Value.string r.b)); have k112 := (cell_of_blk hB2 11).trans (rfl : _ = some (Value.string r.c)); have k122 := (cell_of_blk hB2 12).trans (rfl : _ = some vv)))
    go_ret
    exact ⟨by rw [HV.out]; rfl, below2 (below2 HB.out hb1) hb2⟩
  have f10 : rightV r.vars = true := by simpa using c10
  have hv : recMay r = decide (((recText r).size : Int) ≤ 4096) := by
    refine decide_eq_decide.2 ⟨fun h => ?_, fun h => ?_⟩
    · obtain ⟨p0, p1, p2, p3, p4, p5, p6, p7, p8, p9, p10, p11⟩ := h
      clear p4 c4; omega
    · have c4' := Classical.not_not.1 c4
      clear c4 HW HR HB hiff f4
      exact ⟨by omega, by omega, by omega, by omega, c4', by omega, by omega, by omega, by omega, by omega, f10, by omega⟩
  have HV := Lib.hid hv
  clear hv c0 c1 c2 c3 c4 c5 c6 c7 c8 c9 c10
  rw [f4] at hiff
  have hiff2 : (r.cls == 1) = (r.frm == 0) := by rwa [bne_eq_false_iff_eq] at hiff
  go_enter Try.func11, Try.ntmps11
  go_wp2_with (first | (go_at_call 19; refine (rec_most r vv _).mono ?_; rintro e w1 ⟨rfl, hb1⟩; have hB1 := block_below hb1 (blk_new w _ rfl); have k01 := (cell_of_blk hB1 0).trans (rfl : _ = some (Value.int .i64 r.cls)); have k11 := (cell_of_blk hB1 1).trans (rfl : _ = some (Value.int .i64 r.kind)); have k21 := (cell_of_blk hB1 2).trans (rfl : _ = some (Value.int .u64 r.frm)); have k31 := (cell_of_blk hB1 3).trans (rfl : _ = some (Value.int .i64 r.time)); have k41 := (cell_of_blk hB1 4).trans (rfl : _ = some (Value.int .u64 r.key)); have k51 := (cell_of_blk hB1 5).trans (rfl : _ = some (Value.int .u64 r.key2)); have k61 := (cell_of_blk hB1 6).trans (rfl : _ = some (Value.int .u64 r.key3)); have k71 := (cell_of_blk hB1 7).trans (rfl : _ = some (Value.int .i64 r.n)); have k81 := (cell_of_blk hB1 8).trans (rfl : _ = some (Value.int .i64 r.m)); have k91 := (cell_of_blk hB1 9).trans (rfl : _ = some (Value.string r.a)); have k101 := (cell_of_blk hB1 10).trans (rfl : _ = some (Value.string r.b)); have k111 := (cell_of_blk hB1 11).trans (rfl : _ = some (Value.string r.c)); have k121 := (cell_of_blk hB1 12).trans (rfl : _ = some vv)) | (go_at_call 20; refine (val_Right S r.vars r.vars.length vv _ rfl ((HR.out.below HB.out).below hb1) (HW.out.2.2.2.2.2.2.2.2.2.2.2.2)).mono ?_; rintro e w2 ⟨rfl, hb2⟩; have hB2 := block_below hb2 hB1; have k02 := (cell_of_blk hB2 0).trans (rfl : _ = some (Value.int .i64 r.cls)); have k12 := (cell_of_blk hB2 1).trans (rfl : _ = some (Value.int .i64 r.kind)); have k22 := (cell_of_blk hB2 2).trans (rfl : _ = some (Value.int .u64 r.frm)); have k32 := (cell_of_blk hB2 3).trans (rfl : _ = some (Value.int .i64 r.time)); have k42 := (cell_of_blk hB2 4).trans (rfl : _ = some (Value.int .u64 r.key)); have k52 := (cell_of_blk hB2 5).trans (rfl : _ = some (Value.int .u64 r.key2)); have k62 := (cell_of_blk hB2 6).trans (rfl : _ = some (Value.int .u64 r.key3)); have k72 := (cell_of_blk hB2 7).trans (rfl : _ = some (Value.int .i64 r.n)); have k82 := (cell_of_blk hB2 8).trans (rfl : _ = some (Value.int .i64 r.m)); have k92 := (cell_of_blk hB2 9).trans (rfl : _ = some (Value.string r.a)); have k102 := (cell_of_blk hB2 10).trans (rfl : _ = some (Value.string r.b)); have k112 := (cell_of_blk hB2 11).trans (rfl : _ = some (Value.string r.c)); have k122 := (cell_of_blk hB2 12).trans (rfl : _ = some vv)) | (go_at_call 17; refine (rec_text r vv S _ (((HR.out.below HB.out).below hb1).below hb2) HW.out).mono ?_; rintro e w3 ⟨rfl, hb3⟩))
  go_ret
  exact ⟨by rw [HV.out]; rfl, below2 (below2 (below2 HB.out hb1) hb2) hb3⟩
set_option maxRecDepth 100000 in
set_option maxHeartbeats 1000000 in
theorem rec_Bytes (r : GRec) (vv : Value) (S : Nat → Prop) (w : World) (hrow : Row w S 4 r.vars.length vv (varCells r.vars)) (hw : r.wf) :
    Calls Try.prog 9 #[.agg #[.int .i64 r.cls, .int .i64 r.kind, .int .u64 r.frm, .int .i64 r.time, .int .u64 r.key, .int .u64 r.key2, .int .u64 r.key3, .int .i64 r.n, .int .i64 r.m, .string r.a, .string r.b, .string r.c, vv]] w fun e w' => e = .returned (.tuple #[.string (recB r).1, .int .i64 (recB r).2]) ∧ Below w.heap.size w w' := by
  have HW := Lib.hid hw
  have HR := Lib.hid hrow
  have hbb : Below w.heap.size w (w.alloc (.cells #[.int .i64 r.cls, .int .i64 r.kind, .int .u64 r.frm, .int .i64 r.time, .int .u64 r.key, .int .u64 r.key2, .int .u64 r.key3, .int .i64 r.n, .int .i64 r.m, .string r.a, .string r.b, .string r.c, vv] 25)) := (Below.refl _ _).alloc (Nat.le_refl _) _
  have HB := Lib.hid hbb
  have HM := Lib.hid (fun W h => rec_May r vv S W h hw)
  clear hbb hw hrow
  cases hm : recMay r
  · have hv : recB r = (⟨#[]⟩, 1) := by unfold recB; rw [hm]; rfl
    have HV := Lib.hid hv
    have HE := Lib.hid hm
    clear hm hv
    go_enter Try.func9, Try.ntmps9
    go_wp2_with (go_at_call 11; refine (HM.out _ (HR.out.below HB.out)).mono ?_; (have hE := HE.out); simp only [hE]; clear hE; rintro e w1 ⟨rfl, hb1⟩; have hB1 := block_below hb1 (blk_new w _ rfl); have k01 := (cell_of_blk hB1 0).trans (rfl : _ = some (Value.int .i64 r.cls)); have k11 := (cell_of_blk hB1 1).trans (rfl : _ = some (Value.int .i64 r.kind)); have k21 := (cell_of_blk hB1 2).trans (rfl : _ = some (Value.int .u64 r.frm)); have k31 := (cell_of_blk hB1 3).trans (rfl : _ = some (Value.int .i64 r.time)); have k41 := (cell_of_blk hB1 4).trans (rfl : _ = some (Value.int .u64 r.key)); have k51 := (cell_of_blk hB1 5).trans (rfl : _ = some (Value.int .u64 r.key2)); have k61 := (cell_of_blk hB1 6).trans (rfl : _ = some (Value.int .u64 r.key3)); have k71 := (cell_of_blk hB1 7).trans (rfl : _ = some (Value.int .i64 r.n)); have k81 := (cell_of_blk hB1 8).trans (rfl : _ = some (Value.int .i64 r.m)); have k91 := (cell_of_blk hB1 9).trans (rfl : _ = some (Value.string r.a)); have k101 := (cell_of_blk hB1 10).trans (rfl : _ = some (Value.string r.b)); have k111 := (cell_of_blk hB1 11).trans (rfl : _ = some (Value.string r.c)); have k121 := (cell_of_blk hB1 12).trans (rfl : _ = some vv))
    go_ret2
    exact ⟨by rw [HV.out]; rfl, below2 HB.out hb1⟩
  · have hv : recB r = (recText r, 0) := by unfold recB; rw [hm]; rfl
    have HV := Lib.hid hv
    have HE := Lib.hid hm
    clear hm hv
    go_enter Try.func9, Try.ntmps9
    go_wp2_with (first | (go_at_call 11; refine (HM.out _ (HR.out.below HB.out)).mono ?_; (have hE := HE.out); simp only [hE]; clear hE; rintro e w1 ⟨rfl, hb1⟩; have hB1 := block_below hb1 (blk_new w _ rfl); have k01 := (cell_of_blk hB1 0).trans (rfl : _ = some (Value.int .i64 r.cls)); have k11 := (cell_of_blk hB1 1).trans (rfl : _ = some (Value.int .i64 r.kind)); have k21 := (cell_of_blk hB1 2).trans (rfl : _ = some (Value.int .u64 r.frm)); have k31 := (cell_of_blk hB1 3).trans (rfl : _ = some (Value.int .i64 r.time)); have k41 := (cell_of_blk hB1 4).trans (rfl : _ = some (Value.int .u64 r.key)); have k51 := (cell_of_blk hB1 5).trans (rfl : _ = some (Value.int .u64 r.key2)); have k61 := (cell_of_blk hB1 6).trans (rfl : _ = some (Value.int .u64 r.key3)); have k71 := (cell_of_blk hB1 7).trans (rfl : _ = some (Value.int .i64 r.n)); have k81 := (cell_of_blk hB1 8).trans (rfl : _ = some (Value.int .i64 r.m)); have k91 := (cell_of_blk hB1 9).trans (rfl : _ = some (Value.string r.a)); have k101 := (cell_of_blk hB1 10).trans (rfl : _ = some (Value.string r.b)); have k111 := (cell_of_blk hB1 11).trans (rfl : _ = some (Value.string r.c)); have k121 := (cell_of_blk hB1 12).trans (rfl : _ = some vv)) | (go_at_call 17; refine (rec_text r vv S _ ((HR.out.below HB.out).below hb1) HW.out).mono ?_; rintro e w2 ⟨rfl, hb2⟩))
    go_ret2
    exact ⟨by rw [HV.out]; rfl, below2 (below2 HB.out hb1) hb2⟩
end Go.Proofs.Ytcfdbdmefdffdaa
/-
  rec.Take: what it takes, and its walk. Printed by gentake.py.
-/
set_option linter.unusedVariables false
set_option linter.unusedSimpArgs false
namespace Go.Proofs.Ytcfdbdmefdffdaa
open Go Go.RowKit Go.Proofs.Base
open Go.Sort (grow)
structure TakeAt (w W : World) (g b2 b5 : Nat) (s : ByteArray) (e : Nat) (cs : Array Value) : Prop where
  rdr : Rdr W g s e
  res : W.heap[b2]? = some (.cells #[.int .i64 0, .int .i64 0, .int .u64 0, .int .i64 0, .int .u64 0, .int .u64 0, .int .u64 0, .int .i64 0, .int .i64 0, .string ⟨#[]⟩, .string ⟨#[]⟩, .string ⟨#[]⟩, .slice none 0 0] 25 (0, 0))
  rcd : W.heap[b5]? = some (.cells cs 25 (0, 0))
  low : Below w.heap.size w W
  n2 : w.heap.size ≤ b2
  ng : b2 < g
  n5 : g < b5
theorem TakeAt.call {w W W' : World} {g b2 b5 : Nat} {s s' : ByteArray} {e e' : Nat} {cs : Array Value} (h : TakeAt w W g b2 b5 s e cs) (hq : Rdr W' g s' e') (hm : Mut (fun b => b = g) W W') : TakeAt w W' g b2 b5 s' e' cs :=
  ⟨hq, hm.blk h.res (by have := h.ng; omega), hm.blk h.rcd (by have := h.n5; omega), ⟨hm.os.trans h.low.os, hm.tape.trans h.low.tape, hm.output.trans h.low.output, Nat.le_trans h.low.size hm.size, fun k hk => (hm.block k (Nat.lt_of_lt_of_le hk h.low.size) (by have := h.ng; have := h.n2; omega)).trans (h.low.block k hk)⟩, h.n2, h.ng, h.n5⟩
theorem TakeAt.set {w W : World} {g b2 b5 : Nat} {s : ByteArray} {e : Nat} {cs : Array Value} (h : TakeAt w W g b2 b5 s e cs) (j : Nat) (v : Value) : TakeAt w (W.setCell ⟨b5, j, none⟩ v) g b2 b5 s e (cs.setIfInBounds j v) := by
  have h2 := h.n2; have hg := h.ng; have h5 := h.n5
  refine ⟨?_, ?_, set_blk h.rcd v, h.low.setCell (show w.heap.size ≤ b5 by omega) v, h2, hg, h5⟩
  · unfold Rdr
    rw [Below.heap_setCell _ _ _ _ (show g ≠ b5 by omega)]
    exact h.rdr
  · rw [Below.heap_setCell _ _ _ _ (show b2 ≠ b5 by omega)]
    exact h.res
theorem TakeAt.below {w W W' : World} {g b2 b5 : Nat} {s : ByteArray} {e : Nat} {cs : Array Value} (h : TakeAt w W g b2 b5 s e cs) (hb : Below W.heap.size W W') : TakeAt w W' g b2 b5 s e cs :=
  ⟨block_below hb h.rdr, block_below hb h.res, block_below hb h.rcd, below2 h.low hb, h.n2, h.ng, h.n5⟩
theorem set_blk13 {w : World} {b : Nat} {x0 x1 x2 x3 x4 x5 x6 x7 x8 x9 x10 x11 x12 : Value} {t : TypeId} {f : Nat × Nat} (h : w.heap[b]? = some (.cells #[x0, x1, x2, x3, x4, x5, x6, x7, x8, x9, x10, x11, x12] t f)) (y0 y1 y2 y3 y4 y5 y6 y7 y8 y9 y10 y11 y12 : Value) :
    (((((((((((((w.setCell ⟨b, 0, none⟩ y0).setCell ⟨b, 1, none⟩ y1).setCell ⟨b, 2, none⟩ y2).setCell ⟨b, 3, none⟩ y3).setCell ⟨b, 4, none⟩ y4).setCell ⟨b, 5, none⟩ y5).setCell ⟨b, 6, none⟩ y6).setCell ⟨b, 7, none⟩ y7).setCell ⟨b, 8, none⟩ y8).setCell ⟨b, 9, none⟩ y9).setCell ⟨b, 10, none⟩ y10).setCell ⟨b, 11, none⟩ y11).setCell ⟨b, 12, none⟩ y12).heap[b]? = some (.cells #[y0, y1, y2, y3, y4, y5, y6, y7, y8, y9, y10, y11, y12] t f) := by
  have h0 : (w.setCell ⟨b, 0, none⟩ y0).heap[b]? = some (.cells #[y0, x1, x2, x3, x4, x5, x6, x7, x8, x9, x10, x11, x12] t f) := set_blk h y0
  have h1 : ((w.setCell ⟨b, 0, none⟩ y0).setCell ⟨b, 1, none⟩ y1).heap[b]? = some (.cells #[y0, y1, x2, x3, x4, x5, x6, x7, x8, x9, x10, x11, x12] t f) := set_blk h0 y1
  have h2 : (((w.setCell ⟨b, 0, none⟩ y0).setCell ⟨b, 1, none⟩ y1).setCell ⟨b, 2, none⟩ y2).heap[b]? = some (.cells #[y0, y1, y2, x3, x4, x5, x6, x7, x8, x9, x10, x11, x12] t f) := set_blk h1 y2
  have h3 : ((((w.setCell ⟨b, 0, none⟩ y0).setCell ⟨b, 1, none⟩ y1).setCell ⟨b, 2, none⟩ y2).setCell ⟨b, 3, none⟩ y3).heap[b]? = some (.cells #[y0, y1, y2, y3, x4, x5, x6, x7, x8, x9, x10, x11, x12] t f) := set_blk h2 y3
  have h4 : (((((w.setCell ⟨b, 0, none⟩ y0).setCell ⟨b, 1, none⟩ y1).setCell ⟨b, 2, none⟩ y2).setCell ⟨b, 3, none⟩ y3).setCell ⟨b, 4, none⟩ y4).heap[b]? = some (.cells #[y0, y1, y2, y3, y4, x5, x6, x7, x8, x9, x10, x11, x12] t f) := set_blk h3 y4
  have h5 : ((((((w.setCell ⟨b, 0, none⟩ y0).setCell ⟨b, 1, none⟩ y1).setCell ⟨b, 2, none⟩ y2).setCell ⟨b, 3, none⟩ y3).setCell ⟨b, 4, none⟩ y4).setCell ⟨b, 5, none⟩ y5).heap[b]? = some (.cells #[y0, y1, y2, y3, y4, y5, x6, x7, x8, x9, x10, x11, x12] t f) := set_blk h4 y5
  have h6 : (((((((w.setCell ⟨b, 0, none⟩ y0).setCell ⟨b, 1, none⟩ y1).setCell ⟨b, 2, none⟩ y2).setCell ⟨b, 3, none⟩ y3).setCell ⟨b, 4, none⟩ y4).setCell ⟨b, 5, none⟩ y5).setCell ⟨b, 6, none⟩ y6).heap[b]? = some (.cells #[y0, y1, y2, y3, y4, y5, y6, x7, x8, x9, x10, x11, x12] t f) := set_blk h5 y6
  have h7 : ((((((((w.setCell ⟨b, 0, none⟩ y0).setCell ⟨b, 1, none⟩ y1).setCell ⟨b, 2, none⟩ y2).setCell ⟨b, 3, none⟩ y3).setCell ⟨b, 4, none⟩ y4).setCell ⟨b, 5, none⟩ y5).setCell ⟨b, 6, none⟩ y6).setCell ⟨b, 7, none⟩ y7).heap[b]? = some (.cells #[y0, y1, y2, y3, y4, y5, y6, y7, x8, x9, x10, x11, x12] t f) := set_blk h6 y7
  have h8 : (((((((((w.setCell ⟨b, 0, none⟩ y0).setCell ⟨b, 1, none⟩ y1).setCell ⟨b, 2, none⟩ y2).setCell ⟨b, 3, none⟩ y3).setCell ⟨b, 4, none⟩ y4).setCell ⟨b, 5, none⟩ y5).setCell ⟨b, 6, none⟩ y6).setCell ⟨b, 7, none⟩ y7).setCell ⟨b, 8, none⟩ y8).heap[b]? = some (.cells #[y0, y1, y2, y3, y4, y5, y6, y7, y8, x9, x10, x11, x12] t f) := set_blk h7 y8
  have h9 : ((((((((((w.setCell ⟨b, 0, none⟩ y0).setCell ⟨b, 1, none⟩ y1).setCell ⟨b, 2, none⟩ y2).setCell ⟨b, 3, none⟩ y3).setCell ⟨b, 4, none⟩ y4).setCell ⟨b, 5, none⟩ y5).setCell ⟨b, 6, none⟩ y6).setCell ⟨b, 7, none⟩ y7).setCell ⟨b, 8, none⟩ y8).setCell ⟨b, 9, none⟩ y9).heap[b]? = some (.cells #[y0, y1, y2, y3, y4, y5, y6, y7, y8, y9, x10, x11, x12] t f) := set_blk h8 y9
  have h10 : (((((((((((w.setCell ⟨b, 0, none⟩ y0).setCell ⟨b, 1, none⟩ y1).setCell ⟨b, 2, none⟩ y2).setCell ⟨b, 3, none⟩ y3).setCell ⟨b, 4, none⟩ y4).setCell ⟨b, 5, none⟩ y5).setCell ⟨b, 6, none⟩ y6).setCell ⟨b, 7, none⟩ y7).setCell ⟨b, 8, none⟩ y8).setCell ⟨b, 9, none⟩ y9).setCell ⟨b, 10, none⟩ y10).heap[b]? = some (.cells #[y0, y1, y2, y3, y4, y5, y6, y7, y8, y9, y10, x11, x12] t f) := set_blk h9 y10
  have h11 : ((((((((((((w.setCell ⟨b, 0, none⟩ y0).setCell ⟨b, 1, none⟩ y1).setCell ⟨b, 2, none⟩ y2).setCell ⟨b, 3, none⟩ y3).setCell ⟨b, 4, none⟩ y4).setCell ⟨b, 5, none⟩ y5).setCell ⟨b, 6, none⟩ y6).setCell ⟨b, 7, none⟩ y7).setCell ⟨b, 8, none⟩ y8).setCell ⟨b, 9, none⟩ y9).setCell ⟨b, 10, none⟩ y10).setCell ⟨b, 11, none⟩ y11).heap[b]? = some (.cells #[y0, y1, y2, y3, y4, y5, y6, y7, y8, y9, y10, y11, x12] t f) := set_blk h10 y11
  have h12 : (((((((((((((w.setCell ⟨b, 0, none⟩ y0).setCell ⟨b, 1, none⟩ y1).setCell ⟨b, 2, none⟩ y2).setCell ⟨b, 3, none⟩ y3).setCell ⟨b, 4, none⟩ y4).setCell ⟨b, 5, none⟩ y5).setCell ⟨b, 6, none⟩ y6).setCell ⟨b, 7, none⟩ y7).setCell ⟨b, 8, none⟩ y8).setCell ⟨b, 9, none⟩ y9).setCell ⟨b, 10, none⟩ y10).setCell ⟨b, 11, none⟩ y11).setCell ⟨b, 12, none⟩ y12).heap[b]? = some (.cells #[y0, y1, y2, y3, y4, y5, y6, y7, y8, y9, y10, y11, y12] t f) := set_blk h11 y12
  exact h12
end Go.Proofs.Ytcfdbdmefdffdaa
/-
  The walk of rec.Take. Printed by gentake.py.
-/
set_option linter.unusedVariables false
set_option linter.unusedSimpArgs false
namespace Go.Proofs.Ytcfdbdmefdffdaa
open Go Go.RowKit Go.Proofs.Base
open Go.Sort (grow)
theorem rd_Byte' (g : Nat) (s : ByteArray) (e0 : Nat) (x : Nat) (s' : ByteArray) (e' : Nat) (w : World) (hr : Rdr w g s e0) (hs : s.size ≤ 140737488351232) (h : rdByte s e0 = (x, s', e')) :
    Calls Try.prog 26 #[.pointer (some ⟨g, 0, none⟩)] w fun e w' => e = .returned (.int .u8 x) ∧ Rdr w' g s' e' ∧ Mut (fun b => b = g) w w' := by
  have hc := rd_Byte g s e0 w hr (by omega)
  rw [h] at hc
  exact hc
theorem rd_Uint' (g : Nat) (s : ByteArray) (e0 : Nat) (x : Nat) (s' : ByteArray) (e' : Nat) (w : World) (hr : Rdr w g s e0) (hs : s.size ≤ 140737488351232) (h : rdUint s e0 = (x, s', e')) :
    Calls Try.prog 27 #[.pointer (some ⟨g, 0, none⟩)] w fun e w' => e = .returned (.int .u64 x) ∧ Rdr w' g s' e' ∧ Mut (fun b => b = g) w w' := by
  have hc := rd_Uint g s e0 w hr (by omega)
  rw [h] at hc
  exact hc
theorem rd_Int' (g : Nat) (s : ByteArray) (e0 : Nat) (x : Int) (s' : ByteArray) (e' : Nat) (w : World) (hr : Rdr w g s e0) (hs : s.size ≤ 140737488351232) (h : rdInt s e0 = (x, s', e')) :
    Calls Try.prog 28 #[.pointer (some ⟨g, 0, none⟩)] w fun e w' => e = .returned (.int .i64 x) ∧ Rdr w' g s' e' ∧ Mut (fun b => b = g) w w' := by
  have hc := rd_Int g s e0 w hr (by omega)
  rw [h] at hc
  exact hc
theorem rd_Text' (g : Nat) (s : ByteArray) (e0 : Nat) (most : Int) (x s' : ByteArray) (e' : Nat) (w : World) (hr : Rdr w g s e0) (hs : s.size ≤ 140737488351232) (h0 : 0 ≤ most) (h1 : most ≤ 8192) (h : rdText most s e0 = (x, s', e')) :
    Calls Try.prog 29 #[.pointer (some ⟨g, 0, none⟩), .int .i64 most] w fun e w' => e = .returned (.string x) ∧ Rdr w' g s' e' ∧ Mut (fun b => b = g) w w' := by
  have hc := rd_Text g s e0 most w hr (by omega) (by omega) (by omega)
  rw [h] at hc
  exact hc
theorem val_TakeVars' (g : Nat) (s : ByteArray) (e0 : Nat) (ov : Option (List GVar)) (l : List GVar) (b : Bool) (s' : ByteArray) (e' : Nat) (w : World) (hr : Rdr w g s e0) (hs : s.size ≤ 140737488351232) (h : takeVars s e0 = (ov, s', e')) (hb : ov.isSome = b) (hl : ov.getD [] = l) :
    Calls Try.prog 30 #[.pointer (some ⟨g, 0, none⟩)] w fun e w' => ∃ A c, e = .returned (.tuple #[.slice A l.length c, .bool b]) ∧ Row w' (fun b => w.heap.size ≤ b) 4 l.length (.slice A l.length c) (varCells l) ∧ Rdr w' g s' e' ∧ Mut (fun b => b = g) w w' := by
  refine (val_TakeVars g s e0 w hr hs).mono ?_
  rw [h]
  subst hb hl
  rintro e w' ⟨v, rfl, hrow, hq, hm⟩
  have hrow2 := hrow
  obtain ⟨A, c, rfl, _, _⟩ := hrow2.open_
  exact ⟨A, c, rfl, hrow, hq, hm⟩
theorem rec_May' (r : GRec) (b : Bool) (vv : Value) (S : Nat → Prop) (w : World) (hrow : Row w S 4 r.vars.length vv (varCells r.vars)) (hw : r.wf) (h : recMay r = b) :
    Calls Try.prog 11 #[.agg #[.int .i64 r.cls, .int .i64 r.kind, .int .u64 r.frm, .int .i64 r.time, .int .u64 r.key, .int .u64 r.key2, .int .u64 r.key3, .int .i64 r.n, .int .i64 r.m, .string r.a, .string r.b, .string r.c, vv]] w fun e w' => e = .returned (.bool b) ∧ Below w.heap.size w w' := by
  have hc := rec_May r vv S w hrow hw
  rw [h] at hc
  exact hc
theorem rd_End' (g : Nat) (s : ByteArray) (e0 n : Nat) (w : World) (hr : Rdr w g s e0) (h : rdEnd s e0 = n) :
    Calls Try.prog 31 #[.pointer (some ⟨g, 0, none⟩)] w fun e w' => e = .returned (.int .i64 n) ∧ w = w' := by
  have hc := rd_End g s e0 w hr
  rw [h] at hc
  exact hc
theorem take_start {w W0 W1 W2 : World} {s s2 : ByteArray} {e2 : Nat} (L0 : Below w.heap.size w W0) (R0 : W0.heap[w.heap.size]? = some (.cells #[.int .i64 0, .int .i64 0, .int .u64 0, .int .i64 0, .int .u64 0, .int .u64 0, .int .u64 0, .int .i64 0, .int .i64 0, .string ⟨#[]⟩, .string ⟨#[]⟩, .string ⟨#[]⟩, .slice none 0 0] 25 (0, 0))) (hq0 : Rdr W0 (w.heap.size + 1) s 0) (hm1 : Mut (fun b => b = w.heap.size + 1) W0 W1) (hm2 : Mut (fun b => b = w.heap.size + 1) W1 W2) (hq2 : Rdr W2 (w.heap.size + 1) s2 e2) (cs : Array Value) :
    TakeAt w (W2.alloc (.cells cs 25)) (w.heap.size + 1) w.heap.size W2.heap.size s2 e2 cs := by
  have r1 := hm1.blk R0 (by omega)
  have r2 := hm2.blk r1 (by omega)
  have hg := lt_of_blk hq2
  refine ⟨hq2.alloc _, blk_old _ r2, blk_new _ _ rfl, ?_, Nat.le_refl _, by omega, hg⟩
  have h1 : Below w.heap.size W0 W1 := ⟨hm1.os, hm1.tape, hm1.output, hm1.size, fun k hk => hm1.block k (by have := L0.size; omega) (by omega)⟩
  have h2 : Below w.heap.size W1 W2 := ⟨hm2.os, hm2.tape, hm2.output, hm2.size, fun k hk => hm2.block k (by have := L0.size; have := hm1.size; omega) (by omega)⟩
  exact ((L0.trans h1).trans h2).alloc (by omega) _
theorem row_fin1 {w : World} {B n b2 : Nat} {v : Value} {cs : List Value} (h : Row w (fun b => B ≤ b) 4 n v cs) (hb : b2 < B) (j : Nat) (u : Value) : Row (w.setCell ⟨b2, j, none⟩ u) (fun b => B ≤ b) 4 n v cs :=
  h.mut (mut0 w b2 j u) (fun b _ hS => by intro he; have : B ≤ b := hS; omega)
theorem row_fin {w W : World} {g b2 b5 B n e : Nat} {s : ByteArray} {v : Value} {cs : List Value} {ct : Array Value} (T : TakeAt w W g b2 b5 s e ct) (h : Row W (fun b => B ≤ b) 4 n v cs) (hB : b5 < B) {y0 y1 y2 y3 y4 y5 y6 y7 y8 y9 y10 y11 y12 : Value} : Row (((((((((((((W.setCell ⟨b2, 0, none⟩ y0).setCell ⟨b2, 1, none⟩ y1).setCell ⟨b2, 2, none⟩ y2).setCell ⟨b2, 3, none⟩ y3).setCell ⟨b2, 4, none⟩ y4).setCell ⟨b2, 5, none⟩ y5).setCell ⟨b2, 6, none⟩ y6).setCell ⟨b2, 7, none⟩ y7).setCell ⟨b2, 8, none⟩ y8).setCell ⟨b2, 9, none⟩ y9).setCell ⟨b2, 10, none⟩ y10).setCell ⟨b2, 11, none⟩ y11).setCell ⟨b2, 12, none⟩ y12) (fun b => w.heap.size ≤ b) 4 n v cs := by
  have h2 := T.n2; have hg := T.ng; have h5 := T.n5
  have h0 := row_fin1 (row_fin1 (row_fin1 (row_fin1 (row_fin1 (row_fin1 (row_fin1 (row_fin1 (row_fin1 (row_fin1 (row_fin1 (row_fin1 (row_fin1 h (show b2 < B by omega) 0 y0) (show b2 < B by omega) 1 y1) (show b2 < B by omega) 2 y2) (show b2 < B by omega) 3 y3) (show b2 < B by omega) 4 y4) (show b2 < B by omega) 5 y5) (show b2 < B by omega) 6 y6) (show b2 < B by omega) 7 y7) (show b2 < B by omega) 8 y8) (show b2 < B by omega) 9 y9) (show b2 < B by omega) 10 y10) (show b2 < B by omega) 11 y11) (show b2 < B by omega) 12 y12
  exact h0.weaken (fun b _ hS => by have : B ≤ b := hS; omega)
theorem row_set {w : World} {B n b5 : Nat} {v : Value} {cs : List Value} (h : Row w (fun b => B ≤ b) 4 n v cs) (hb : b5 < B) (u : Value) : Row (w.setCell ⟨b5, 12, none⟩ u) (fun b => B ≤ b) 4 n v cs :=
  h.mut (mut0 w b5 12 u) (fun b _ hS => by intro he; have : B ≤ b := hS; omega)
end Go.Proofs.Ytcfdbdmefdffdaa
/-
  The walk of rec.Take. Printed by gentake.py.
-/
set_option linter.unusedVariables false
set_option linter.unusedSimpArgs false
namespace Go.Proofs.Ytcfdbdmefdffdaa
open Go Go.RowKit Go.Proofs.Base
open Go.Sort (grow)
set_option maxRecDepth 100000 in
set_option maxHeartbeats 8000000 in
theorem rec_Take_a (s : ByteArray) (w : World) (x0 : Nat) (s1 : ByteArray) (e1 : Nat) (x1 : Nat) (s2 : ByteArray) (e2 : Nat) (x2 : Nat) (s3 : ByteArray) (e3 : Nat) (x3 : Int) (s4 : ByteArray) (e4 : Nat) (x4 : Nat) (s5 : ByteArray) (e5 : Nat) (x5 : Nat) (s6 : ByteArray) (e6 : Nat) (x6 : Nat) (s7 : ByteArray) (e7 : Nat) (x7 : Int) (s8 : ByteArray) (e8 : Nat) (x8 : Int) (s9 : ByteArray) (e9 : Nat) (x9 : ByteArray) (s10 : ByteArray) (e10 : Nat) (x10 : ByteArray) (s11 : ByteArray) (e11 : Nat) (x11 : ByteArray) (s12 : ByteArray) (e12 : Nat) (s13 : ByteArray) (e13 : Nat) (hs : s.size ≤ 140737488351232) (hx0 : (x0 : Int) ≤ 255) (hx1 : (x1 : Int) ≤ 255) (h0 : rdByte s 0 = (x0, s1, e1)) (h1 : rdByte s1 e1 = (x1, s2, e2)) (h2 : rdUint s2 e2 = (x2, s3, e3)) (h3 : rdInt s3 e3 = (x3, s4, e4)) (h4 : rdUint s4 e4 = (x4, s5, e5)) (h5 : rdUint s5 e5 = (x5, s6, e6)) (h6 : rdUint s6 e6 = (x6, s7, e7)) (h7 : rdInt s7 e7 = (x7, s8, e8)) (h8 : rdInt s8 e8 = (x8, s9, e9)) (h9 : rdText 8192 s9 e9 = (x9, s10, e10)) (h10 : rdText 8192 s10 e10 = (x10, s11, e11)) (h11 : rdText 32 s11 e11 = (x11, s12, e12)) (hz1 : s1.size ≤ 140737488351232) (hz2 : s2.size ≤ 140737488351232) (hz3 : s3.size ≤ 140737488351232) (hz4 : s4.size ≤ 140737488351232) (hz5 : s5.size ≤ 140737488351232) (hz6 : s6.size ≤ 140737488351232) (hz7 : s7.size ≤ 140737488351232) (hz8 : s8.size ≤ 140737488351232) (hz9 : s9.size ≤ 140737488351232) (hz10 : s10.size ≤ 140737488351232) (hz11 : s11.size ≤ 140737488351232) (hz12 : s12.size ≤ 140737488351232) (h12 : takeVars s12 e12 = (none, s13, e13))  :
    Calls Try.prog 15 #[.string s] w fun e w' => e = .returned (.tuple #[.agg #[.int .i64 0, .int .i64 0, .int .u64 0, .int .i64 0, .int .u64 0, .int .u64 0, .int .u64 0, .int .i64 0, .int .i64 0, .string ⟨#[]⟩, .string ⟨#[]⟩, .string ⟨#[]⟩, .slice none 0 0], .int .i64 3]) ∧ Below w.heap.size w w' := by
  have HZ0 := Lib.hid hs
  have HZ1 := Lib.hid hz1
  have HZ2 := Lib.hid hz2
  have HZ3 := Lib.hid hz3
  have HZ4 := Lib.hid hz4
  have HZ5 := Lib.hid hz5
  have HZ6 := Lib.hid hz6
  have HZ7 := Lib.hid hz7
  have HZ8 := Lib.hid hz8
  have HZ9 := Lib.hid hz9
  have HZ10 := Lib.hid hz10
  have HZ11 := Lib.hid hz11
  have HZ12 := Lib.hid hz12
  have H0 := Lib.hid h0
  have H1 := Lib.hid h1
  have H2 := Lib.hid h2
  have H3 := Lib.hid h3
  have H4 := Lib.hid h4
  have H5 := Lib.hid h5
  have H6 := Lib.hid h6
  have H7 := Lib.hid h7
  have H8 := Lib.hid h8
  have H9 := Lib.hid h9
  have H10 := Lib.hid h10
  have H11 := Lib.hid h11
  have H12 := Lib.hid h12
  clear hs hz1 hz2 hz3 hz4 hz5 hz6 hz7 hz8 hz9 hz10 hz11 hz12 h0 h1 h2 h3 h4 h5 h6 h7 h8 h9 h10 h11 h12
  go_enter Try.func15, Try.ntmps15
  go_wp2_with (first | (go_at_call 25; refine (wire_Read s _).mono ?_; rintro e W0 ⟨rfl, hq0, hb0⟩; have R0 := block_below hb0 (blk_new w _ rfl); have L0 := below2 ((Below.refl _ _).alloc (Nat.le_refl _) _) hb0; rw [World.size_alloc] at hq0) | (go_at_call 26; refine (rd_Byte' (w.heap.size + 1) s 0 x0 s1 e1 _ hq0 HZ0.out H0.out).mono ?_; rintro e W1 ⟨rfl, hq1, hm1⟩; clear hb0) | (go_at_call 26; refine (rd_Byte' (w.heap.size + 1) s1 e1 x1 s2 e2 _ hq1 HZ1.out H1.out).mono ?_; rintro e W2 ⟨rfl, hq2, hm2⟩; have hg2 := lt_of_blk hq2; have T2 := Lib.hid (take_start L0 R0 hq0 hm1 hm2 hq2 #[.int .i64 (x0 : Int), .int .i64 (x1 : Int), .int .u64 0, .int .i64 0, .int .u64 0, .int .u64 0, .int .u64 0, .int .i64 0, .int .i64 0, .string ⟨#[]⟩, .string ⟨#[]⟩, .string ⟨#[]⟩, .slice none 0 0]); have n5a : w.heap.size ≠ W2.heap.size := (by have := T2.out.ng; have := T2.out.n5; omega); have n5b : W2.heap.size ≠ w.heap.size := (by have := T2.out.ng; have := T2.out.n5; omega); clear hq1 hm1 hm2 hq0 L0 R0) | (go_at_call 27; refine (rd_Uint' (w.heap.size + 1) s2 e2 x2 s3 e3 _ T2.out.rdr HZ2.out H2.out).mono ?_; rintro e W3 ⟨rfl, hq, hm⟩; have T3 : Hid (TakeAt w W3 (w.heap.size + 1) w.heap.size W2.heap.size s3 e3 #[.int .i64 (x0 : Int), .int .i64 (x1 : Int), .int .u64 0, .int .i64 0, .int .u64 0, .int .u64 0, .int .u64 0, .int .i64 0, .int .i64 0, .string ⟨#[]⟩, .string ⟨#[]⟩, .string ⟨#[]⟩, .slice none 0 0]) := Lib.hid (T2.out.call hq hm); clear hq hm T2) | (go_at_call 28; refine (rd_Int' (w.heap.size + 1) s3 e3 x3 s4 e4 _ T3.out.rdr HZ3.out H3.out).mono ?_; rintro e W4 ⟨rfl, hq, hm⟩; have T4 : Hid (TakeAt w W4 (w.heap.size + 1) w.heap.size W2.heap.size s4 e4 #[.int .i64 (x0 : Int), .int .i64 (x1 : Int), .int .u64 0, .int .i64 0, .int .u64 0, .int .u64 0, .int .u64 0, .int .i64 0, .int .i64 0, .string ⟨#[]⟩, .string ⟨#[]⟩, .string ⟨#[]⟩, .slice none 0 0]) := Lib.hid (T3.out.call hq hm); clear hq hm T3; have bb := T4.out.rcd; have c3_2 := (cell_of_blk bb 2).trans (rfl : _ = some (Value.int .u64 0)); have c3_3 := (cell_of_blk bb 3).trans (rfl : _ = some (Value.int .i64 0)); have f3_2 := frozen_of_blk bb 2; have f3_3 := frozen_of_blk bb 3; clear bb) | (go_at_call 27; refine (rd_Uint' (w.heap.size + 1) s4 e4 x4 s5 e5 _ ((T4.out.set 2 (.int .u64 x2)).set 3 (.int .i64 x3)).rdr HZ4.out H4.out).mono ?_; rintro e W5 ⟨rfl, hq, hm⟩; have T5 : Hid (TakeAt w W5 (w.heap.size + 1) w.heap.size W2.heap.size s5 e5 #[.int .i64 (x0 : Int), .int .i64 (x1 : Int), .int .u64 (x2 : Int), .int .i64 x3, .int .u64 0, .int .u64 0, .int .u64 0, .int .i64 0, .int .i64 0, .string ⟨#[]⟩, .string ⟨#[]⟩, .string ⟨#[]⟩, .slice none 0 0]) := Lib.hid (((T4.out.set 2 (.int .u64 x2)).set 3 (.int .i64 x3)).call hq hm); clear hq hm T4; clear c3_2 f3_2 c3_3 f3_3) | (go_at_call 27; refine (rd_Uint' (w.heap.size + 1) s5 e5 x5 s6 e6 _ T5.out.rdr HZ5.out H5.out).mono ?_; rintro e W6 ⟨rfl, hq, hm⟩; have T6 : Hid (TakeAt w W6 (w.heap.size + 1) w.heap.size W2.heap.size s6 e6 #[.int .i64 (x0 : Int), .int .i64 (x1 : Int), .int .u64 (x2 : Int), .int .i64 x3, .int .u64 0, .int .u64 0, .int .u64 0, .int .i64 0, .int .i64 0, .string ⟨#[]⟩, .string ⟨#[]⟩, .string ⟨#[]⟩, .slice none 0 0]) := Lib.hid (T5.out.call hq hm); clear hq hm T5) | (go_at_call 27; refine (rd_Uint' (w.heap.size + 1) s6 e6 x6 s7 e7 _ T6.out.rdr HZ6.out H6.out).mono ?_; rintro e W7 ⟨rfl, hq, hm⟩; have T7 : Hid (TakeAt w W7 (w.heap.size + 1) w.heap.size W2.heap.size s7 e7 #[.int .i64 (x0 : Int), .int .i64 (x1 : Int), .int .u64 (x2 : Int), .int .i64 x3, .int .u64 0, .int .u64 0, .int .u64 0, .int .i64 0, .int .i64 0, .string ⟨#[]⟩, .string ⟨#[]⟩, .string ⟨#[]⟩, .slice none 0 0]) := Lib.hid (T6.out.call hq hm); clear hq hm T6; have bb := T7.out.rcd; have c6_4 := (cell_of_blk bb 4).trans (rfl : _ = some (Value.int .u64 0)); have c6_5 := (cell_of_blk bb 5).trans (rfl : _ = some (Value.int .u64 0)); have c6_6 := (cell_of_blk bb 6).trans (rfl : _ = some (Value.int .u64 0)); have f6_4 := frozen_of_blk bb 4; have f6_5 := frozen_of_blk bb 5; have f6_6 := frozen_of_blk bb 6; clear bb) | (go_at_call 28; refine (rd_Int' (w.heap.size + 1) s7 e7 x7 s8 e8 _ (((T7.out.set 4 (.int .u64 x4)).set 5 (.int .u64 x5)).set 6 (.int .u64 x6)).rdr HZ7.out H7.out).mono ?_; rintro e W8 ⟨rfl, hq, hm⟩; have T8 : Hid (TakeAt w W8 (w.heap.size + 1) w.heap.size W2.heap.size s8 e8 #[.int .i64 (x0 : Int), .int .i64 (x1 : Int), .int .u64 (x2 : Int), .int .i64 x3, .int .u64 (x4 : Int), .int .u64 (x5 : Int), .int .u64 (x6 : Int), .int .i64 0, .int .i64 0, .string ⟨#[]⟩, .string ⟨#[]⟩, .string ⟨#[]⟩, .slice none 0 0]) := Lib.hid ((((T7.out.set 4 (.int .u64 x4)).set 5 (.int .u64 x5)).set 6 (.int .u64 x6)).call hq hm); clear hq hm T7; clear c6_4 f6_4 c6_5 f6_5 c6_6 f6_6) | (go_at_call 28; refine (rd_Int' (w.heap.size + 1) s8 e8 x8 s9 e9 _ T8.out.rdr HZ8.out H8.out).mono ?_; rintro e W9 ⟨rfl, hq, hm⟩; have T9 : Hid (TakeAt w W9 (w.heap.size + 1) w.heap.size W2.heap.size s9 e9 #[.int .i64 (x0 : Int), .int .i64 (x1 : Int), .int .u64 (x2 : Int), .int .i64 x3, .int .u64 (x4 : Int), .int .u64 (x5 : Int), .int .u64 (x6 : Int), .int .i64 0, .int .i64 0, .string ⟨#[]⟩, .string ⟨#[]⟩, .string ⟨#[]⟩, .slice none 0 0]) := Lib.hid (T8.out.call hq hm); clear hq hm T8; have bb := T9.out.rcd; have c8_7 := (cell_of_blk bb 7).trans (rfl : _ = some (Value.int .i64 0)); have c8_8 := (cell_of_blk bb 8).trans (rfl : _ = some (Value.int .i64 0)); have f8_7 := frozen_of_blk bb 7; have f8_8 := frozen_of_blk bb 8; clear bb) | (go_at_call 29; refine (rd_Text' (w.heap.size + 1) s9 e9 8192 x9 s10 e10 _ ((T9.out.set 7 (.int .i64 x7)).set 8 (.int .i64 x8)).rdr HZ9.out (by decide) (by decide) H9.out).mono ?_; rintro e W10 ⟨rfl, hq, hm⟩; have T10 : Hid (TakeAt w W10 (w.heap.size + 1) w.heap.size W2.heap.size s10 e10 #[.int .i64 (x0 : Int), .int .i64 (x1 : Int), .int .u64 (x2 : Int), .int .i64 x3, .int .u64 (x4 : Int), .int .u64 (x5 : Int), .int .u64 (x6 : Int), .int .i64 x7, .int .i64 x8, .string ⟨#[]⟩, .string ⟨#[]⟩, .string ⟨#[]⟩, .slice none 0 0]) := Lib.hid (((T9.out.set 7 (.int .i64 x7)).set 8 (.int .i64 x8)).call hq hm); clear hq hm T9; clear c8_7 f8_7 c8_8 f8_8) | (go_at_call 29; refine (rd_Text' (w.heap.size + 1) s10 e10 8192 x10 s11 e11 _ T10.out.rdr HZ10.out (by decide) (by decide) H10.out).mono ?_; rintro e W11 ⟨rfl, hq, hm⟩; have T11 : Hid (TakeAt w W11 (w.heap.size + 1) w.heap.size W2.heap.size s11 e11 #[.int .i64 (x0 : Int), .int .i64 (x1 : Int), .int .u64 (x2 : Int), .int .i64 x3, .int .u64 (x4 : Int), .int .u64 (x5 : Int), .int .u64 (x6 : Int), .int .i64 x7, .int .i64 x8, .string ⟨#[]⟩, .string ⟨#[]⟩, .string ⟨#[]⟩, .slice none 0 0]) := Lib.hid (T10.out.call hq hm); clear hq hm T10) | (go_at_call 29; refine (rd_Text' (w.heap.size + 1) s11 e11 32 x11 s12 e12 _ T11.out.rdr HZ11.out (by decide) (by decide) H11.out).mono ?_; rintro e W12 ⟨rfl, hq, hm⟩; have T12 : Hid (TakeAt w W12 (w.heap.size + 1) w.heap.size W2.heap.size s12 e12 #[.int .i64 (x0 : Int), .int .i64 (x1 : Int), .int .u64 (x2 : Int), .int .i64 x3, .int .u64 (x4 : Int), .int .u64 (x5 : Int), .int .u64 (x6 : Int), .int .i64 x7, .int .i64 x8, .string ⟨#[]⟩, .string ⟨#[]⟩, .string ⟨#[]⟩, .slice none 0 0]) := Lib.hid (T11.out.call hq hm); clear hq hm T11; have bb := T12.out.rcd; have c11_9 := (cell_of_blk bb 9).trans (rfl : _ = some (Value.string ⟨#[]⟩)); have c11_10 := (cell_of_blk bb 10).trans (rfl : _ = some (Value.string ⟨#[]⟩)); have c11_11 := (cell_of_blk bb 11).trans (rfl : _ = some (Value.string ⟨#[]⟩)); have f11_9 := frozen_of_blk bb 9; have f11_10 := frozen_of_blk bb 10; have f11_11 := frozen_of_blk bb 11; clear bb) | (go_at_call 30; refine (val_TakeVars' (w.heap.size + 1) s12 e12 (none) ([] : List GVar) false s13 e13 _ (((T12.out.set 9 (.string x9)).set 10 (.string x10)).set 11 (.string x11)).rdr HZ12.out H12.out rfl rfl).mono ?_; rintro e W13 ⟨A, c, rfl, hrow, hq, hm⟩; have T13 : Hid (TakeAt w W13 (w.heap.size + 1) w.heap.size W2.heap.size s13 e13 #[.int .i64 (x0 : Int), .int .i64 (x1 : Int), .int .u64 (x2 : Int), .int .i64 x3, .int .u64 (x4 : Int), .int .u64 (x5 : Int), .int .u64 (x6 : Int), .int .i64 x7, .int .i64 x8, .string x9, .string x10, .string x11, .slice none 0 0]) := Lib.hid ((((T12.out.set 9 (.string x9)).set 10 (.string x10)).set 11 (.string x11)).call hq hm); have hlt := lt_of_blk (((T12.out.set 9 (.string x9)).set 10 (.string x10)).set 11 (.string x11)).rcd; have HLT := Lib.hid hlt; have HR13 := Lib.hid (row_set (w := W13) hrow hlt (.slice A (([] : List GVar)).length c)); clear hq hm hrow hlt T12 c11_9 f11_9 c11_10 f11_10 c11_11 f11_11; have bb := T13.out.rcd; have d0 := (cell_of_blk bb 0).trans (rfl : _ = some (Value.int .i64 (x0 : Int))); have d1 := (cell_of_blk bb 1).trans (rfl : _ = some (Value.int .i64 (x1 : Int))); have d2 := (cell_of_blk bb 2).trans (rfl : _ = some (Value.int .u64 (x2 : Int))); have d3 := (cell_of_blk bb 3).trans (rfl : _ = some (Value.int .i64 x3)); have d4 := (cell_of_blk bb 4).trans (rfl : _ = some (Value.int .u64 (x4 : Int))); have d5 := (cell_of_blk bb 5).trans (rfl : _ = some (Value.int .u64 (x5 : Int))); have d6 := (cell_of_blk bb 6).trans (rfl : _ = some (Value.int .u64 (x6 : Int))); have d7 := (cell_of_blk bb 7).trans (rfl : _ = some (Value.int .i64 x7)); have d8 := (cell_of_blk bb 8).trans (rfl : _ = some (Value.int .i64 x8)); have d9 := (cell_of_blk bb 9).trans (rfl : _ = some (Value.string x9)); have d10 := (cell_of_blk bb 10).trans (rfl : _ = some (Value.string x10)); have d11 := (cell_of_blk bb 11).trans (rfl : _ = some (Value.string x11)); have d12 := (cell_of_blk bb 12).trans (rfl : _ = some (Value.slice none 0 0)); have df12 := frozen_of_blk bb 12; have br := T13.out.res; have z0 := (cell_of_blk br 0).trans (rfl : _ = some (Value.int .i64 0)); have z1 := (cell_of_blk br 1).trans (rfl : _ = some (Value.int .i64 0)); have z2 := (cell_of_blk br 2).trans (rfl : _ = some (Value.int .u64 0)); have z3 := (cell_of_blk br 3).trans (rfl : _ = some (Value.int .i64 0)); have z4 := (cell_of_blk br 4).trans (rfl : _ = some (Value.int .u64 0)); have z5 := (cell_of_blk br 5).trans (rfl : _ = some (Value.int .u64 0)); have z6 := (cell_of_blk br 6).trans (rfl : _ = some (Value.int .u64 0)); have z7 := (cell_of_blk br 7).trans (rfl : _ = some (Value.int .i64 0)); have z8 := (cell_of_blk br 8).trans (rfl : _ = some (Value.int .i64 0)); have z9 := (cell_of_blk br 9).trans (rfl : _ = some (Value.string ⟨#[]⟩)); have z10 := (cell_of_blk br 10).trans (rfl : _ = some (Value.string ⟨#[]⟩)); have z11 := (cell_of_blk br 11).trans (rfl : _ = some (Value.string ⟨#[]⟩)); have z12 := (cell_of_blk br 12).trans (rfl : _ = some (Value.slice none 0 0)); have zf0 := frozen_of_blk br 0; have zf1 := frozen_of_blk br 1; have zf2 := frozen_of_blk br 2; have zf3 := frozen_of_blk br 3; have zf4 := frozen_of_blk br 4; have zf5 := frozen_of_blk br 5; have zf6 := frozen_of_blk br 6; have zf7 := frozen_of_blk br 7; have zf8 := frozen_of_blk br 8; have zf9 := frozen_of_blk br 9; have zf10 := frozen_of_blk br 10; have zf11 := frozen_of_blk br 11; have zf12 := frozen_of_blk br 12; clear bb br))
  have hfin := set_blk13 (T13.out.set 12 (.slice A 0 c)).res (.int .i64 0) (.int .i64 0) (.int .u64 0) (.int .i64 0) (.int .u64 0) (.int .u64 0) (.int .u64 0) (.int .i64 0) (.int .i64 0) (.string ⟨#[]⟩) (.string ⟨#[]⟩) (.string ⟨#[]⟩) (.slice none 0 0)
  have hbel := ((((((((((((((T13.out.set 12 (.slice A 0 c)).low.setCell (p := ⟨w.heap.size, 0, none⟩) (Nat.le_refl _) (.int .i64 0)).setCell (p := ⟨w.heap.size, 1, none⟩) (Nat.le_refl _) (.int .i64 0)).setCell (p := ⟨w.heap.size, 2, none⟩) (Nat.le_refl _) (.int .u64 0)).setCell (p := ⟨w.heap.size, 3, none⟩) (Nat.le_refl _) (.int .i64 0)).setCell (p := ⟨w.heap.size, 4, none⟩) (Nat.le_refl _) (.int .u64 0)).setCell (p := ⟨w.heap.size, 5, none⟩) (Nat.le_refl _) (.int .u64 0)).setCell (p := ⟨w.heap.size, 6, none⟩) (Nat.le_refl _) (.int .u64 0)).setCell (p := ⟨w.heap.size, 7, none⟩) (Nat.le_refl _) (.int .i64 0)).setCell (p := ⟨w.heap.size, 8, none⟩) (Nat.le_refl _) (.int .i64 0)).setCell (p := ⟨w.heap.size, 9, none⟩) (Nat.le_refl _) (.string ⟨#[]⟩)).setCell (p := ⟨w.heap.size, 10, none⟩) (Nat.le_refl _) (.string ⟨#[]⟩)).setCell (p := ⟨w.heap.size, 11, none⟩) (Nat.le_refl _) (.string ⟨#[]⟩)).setCell (p := ⟨w.heap.size, 12, none⟩) (Nat.le_refl _) (.slice none 0 0))
  generalize ((((((((((((((W13.setCell ⟨W2.heap.size, 12, none⟩ (.slice A 0 c)).setCell ⟨w.heap.size, 0, none⟩ (.int .i64 0)).setCell ⟨w.heap.size, 1, none⟩ (.int .i64 0)).setCell ⟨w.heap.size, 2, none⟩ (.int .u64 0)).setCell ⟨w.heap.size, 3, none⟩ (.int .i64 0)).setCell ⟨w.heap.size, 4, none⟩ (.int .u64 0)).setCell ⟨w.heap.size, 5, none⟩ (.int .u64 0)).setCell ⟨w.heap.size, 6, none⟩ (.int .u64 0)).setCell ⟨w.heap.size, 7, none⟩ (.int .i64 0)).setCell ⟨w.heap.size, 8, none⟩ (.int .i64 0)).setCell ⟨w.heap.size, 9, none⟩ (.string ⟨#[]⟩)).setCell ⟨w.heap.size, 10, none⟩ (.string ⟨#[]⟩)).setCell ⟨w.heap.size, 11, none⟩ (.string ⟨#[]⟩)).setCell ⟨w.heap.size, 12, none⟩ (.slice none 0 0)) = Fw at *
  have r0 := (cell_of_blk hfin 0).trans (rfl : _ = some (Value.int .i64 0))
  have r1 := (cell_of_blk hfin 1).trans (rfl : _ = some (Value.int .i64 0))
  have r2 := (cell_of_blk hfin 2).trans (rfl : _ = some (Value.int .u64 0))
  have r3 := (cell_of_blk hfin 3).trans (rfl : _ = some (Value.int .i64 0))
  have r4 := (cell_of_blk hfin 4).trans (rfl : _ = some (Value.int .u64 0))
  have r5 := (cell_of_blk hfin 5).trans (rfl : _ = some (Value.int .u64 0))
  have r6 := (cell_of_blk hfin 6).trans (rfl : _ = some (Value.int .u64 0))
  have r7 := (cell_of_blk hfin 7).trans (rfl : _ = some (Value.int .i64 0))
  have r8 := (cell_of_blk hfin 8).trans (rfl : _ = some (Value.int .i64 0))
  have r9 := (cell_of_blk hfin 9).trans (rfl : _ = some (Value.string ⟨#[]⟩))
  have r10 := (cell_of_blk hfin 10).trans (rfl : _ = some (Value.string ⟨#[]⟩))
  have r11 := (cell_of_blk hfin 11).trans (rfl : _ = some (Value.string ⟨#[]⟩))
  have r12 := (cell_of_blk hfin 12).trans (rfl : _ = some (Value.slice none 0 0))
  clear hfin
  refine bodyPost_ret (v := .tuple #[.agg #[.int .i64 0, .int .i64 0, .int .u64 0, .int .i64 0, .int .u64 0, .int .u64 0, .int .u64 0, .int .i64 0, .int .i64 0, .string ⟨#[]⟩, .string ⟨#[]⟩, .string ⟨#[]⟩, .slice none 0 0], .int .i64 3]) (by simp [results, Try.results15, go_sem, r0, r1, r2, r3, r4, r5, r6, r7, r8, r9, r10, r11, r12]) rfl ?_
  exact ⟨rfl, hbel⟩
end Go.Proofs.Ytcfdbdmefdffdaa
/-
  The walk of rec.Take. Printed by gentake.py.
-/
set_option linter.unusedVariables false
set_option linter.unusedSimpArgs false
namespace Go.Proofs.Ytcfdbdmefdffdaa
open Go Go.RowKit Go.Proofs.Base
open Go.Sort (grow)
set_option maxRecDepth 100000 in
set_option maxHeartbeats 8000000 in
theorem rec_Take_b (s : ByteArray) (w : World) (x0 : Nat) (s1 : ByteArray) (e1 : Nat) (x1 : Nat) (s2 : ByteArray) (e2 : Nat) (x2 : Nat) (s3 : ByteArray) (e3 : Nat) (x3 : Int) (s4 : ByteArray) (e4 : Nat) (x4 : Nat) (s5 : ByteArray) (e5 : Nat) (x5 : Nat) (s6 : ByteArray) (e6 : Nat) (x6 : Nat) (s7 : ByteArray) (e7 : Nat) (x7 : Int) (s8 : ByteArray) (e8 : Nat) (x8 : Int) (s9 : ByteArray) (e9 : Nat) (x9 : ByteArray) (s10 : ByteArray) (e10 : Nat) (x10 : ByteArray) (s11 : ByteArray) (e11 : Nat) (x11 : ByteArray) (s12 : ByteArray) (e12 : Nat) (l : List GVar) (s13 : ByteArray) (e13 : Nat) (hs : s.size ≤ 140737488351232) (hx0 : (x0 : Int) ≤ 255) (hx1 : (x1 : Int) ≤ 255) (h0 : rdByte s 0 = (x0, s1, e1)) (h1 : rdByte s1 e1 = (x1, s2, e2)) (h2 : rdUint s2 e2 = (x2, s3, e3)) (h3 : rdInt s3 e3 = (x3, s4, e4)) (h4 : rdUint s4 e4 = (x4, s5, e5)) (h5 : rdUint s5 e5 = (x5, s6, e6)) (h6 : rdUint s6 e6 = (x6, s7, e7)) (h7 : rdInt s7 e7 = (x7, s8, e8)) (h8 : rdInt s8 e8 = (x8, s9, e9)) (h9 : rdText 8192 s9 e9 = (x9, s10, e10)) (h10 : rdText 8192 s10 e10 = (x10, s11, e11)) (h11 : rdText 32 s11 e11 = (x11, s12, e12)) (hz1 : s1.size ≤ 140737488351232) (hz2 : s2.size ≤ 140737488351232) (hz3 : s3.size ≤ 140737488351232) (hz4 : s4.size ≤ 140737488351232) (hz5 : s5.size ≤ 140737488351232) (hz6 : s6.size ≤ 140737488351232) (hz7 : s7.size ≤ 140737488351232) (hz8 : s8.size ≤ 140737488351232) (hz9 : s9.size ≤ 140737488351232) (hz10 : s10.size ≤ 140737488351232) (hz11 : s11.size ≤ 140737488351232) (hz12 : s12.size ≤ 140737488351232) (h12 : takeVars s12 e12 = (some l, s13, e13)) (en : Nat) (h13 : rdEnd s13 e13 = en) (hen : en ≠ 0) :
    Calls Try.prog 15 #[.string s] w fun e w' => e = .returned (.tuple #[.agg #[.int .i64 0, .int .i64 0, .int .u64 0, .int .i64 0, .int .u64 0, .int .u64 0, .int .u64 0, .int .i64 0, .int .i64 0, .string ⟨#[]⟩, .string ⟨#[]⟩, .string ⟨#[]⟩, .slice none 0 0], .int .i64 3]) ∧ Below w.heap.size w w' := by
  have HZ0 := Lib.hid hs
  have HZ1 := Lib.hid hz1
  have HZ2 := Lib.hid hz2
  have HZ3 := Lib.hid hz3
  have HZ4 := Lib.hid hz4
  have HZ5 := Lib.hid hz5
  have HZ6 := Lib.hid hz6
  have HZ7 := Lib.hid hz7
  have HZ8 := Lib.hid hz8
  have HZ9 := Lib.hid hz9
  have HZ10 := Lib.hid hz10
  have HZ11 := Lib.hid hz11
  have HZ12 := Lib.hid hz12
  have H0 := Lib.hid h0
  have H1 := Lib.hid h1
  have H2 := Lib.hid h2
  have H3 := Lib.hid h3
  have H4 := Lib.hid h4
  have H5 := Lib.hid h5
  have H6 := Lib.hid h6
  have H7 := Lib.hid h7
  have H8 := Lib.hid h8
  have H9 := Lib.hid h9
  have H10 := Lib.hid h10
  have H11 := Lib.hid h11
  have H12 := Lib.hid h12
  clear hs hz1 hz2 hz3 hz4 hz5 hz6 hz7 hz8 hz9 hz10 hz11 hz12 h0 h1 h2 h3 h4 h5 h6 h7 h8 h9 h10 h11 h12
  have H13 := Lib.hid h13
  have g13 := bne_t (a := (en : Int)) (b := 0) (by omega)
  clear h13 hen
  go_enter Try.func15, Try.ntmps15
  go_wp2_with (first | (go_at_call 25; refine (wire_Read s _).mono ?_; rintro e W0 ⟨rfl, hq0, hb0⟩; have R0 := block_below hb0 (blk_new w _ rfl); have L0 := below2 ((Below.refl _ _).alloc (Nat.le_refl _) _) hb0; rw [World.size_alloc] at hq0) | (go_at_call 26; refine (rd_Byte' (w.heap.size + 1) s 0 x0 s1 e1 _ hq0 HZ0.out H0.out).mono ?_; rintro e W1 ⟨rfl, hq1, hm1⟩; clear hb0) | (go_at_call 26; refine (rd_Byte' (w.heap.size + 1) s1 e1 x1 s2 e2 _ hq1 HZ1.out H1.out).mono ?_; rintro e W2 ⟨rfl, hq2, hm2⟩; have hg2 := lt_of_blk hq2; have T2 := Lib.hid (take_start L0 R0 hq0 hm1 hm2 hq2 #[.int .i64 (x0 : Int), .int .i64 (x1 : Int), .int .u64 0, .int .i64 0, .int .u64 0, .int .u64 0, .int .u64 0, .int .i64 0, .int .i64 0, .string ⟨#[]⟩, .string ⟨#[]⟩, .string ⟨#[]⟩, .slice none 0 0]); have n5a : w.heap.size ≠ W2.heap.size := (by have := T2.out.ng; have := T2.out.n5; omega); have n5b : W2.heap.size ≠ w.heap.size := (by have := T2.out.ng; have := T2.out.n5; omega); clear hq1 hm1 hm2 hq0 L0 R0) | (go_at_call 27; refine (rd_Uint' (w.heap.size + 1) s2 e2 x2 s3 e3 _ T2.out.rdr HZ2.out H2.out).mono ?_; rintro e W3 ⟨rfl, hq, hm⟩; have T3 : Hid (TakeAt w W3 (w.heap.size + 1) w.heap.size W2.heap.size s3 e3 #[.int .i64 (x0 : Int), .int .i64 (x1 : Int), .int .u64 0, .int .i64 0, .int .u64 0, .int .u64 0, .int .u64 0, .int .i64 0, .int .i64 0, .string ⟨#[]⟩, .string ⟨#[]⟩, .string ⟨#[]⟩, .slice none 0 0]) := Lib.hid (T2.out.call hq hm); clear hq hm T2) | (go_at_call 28; refine (rd_Int' (w.heap.size + 1) s3 e3 x3 s4 e4 _ T3.out.rdr HZ3.out H3.out).mono ?_; rintro e W4 ⟨rfl, hq, hm⟩; have T4 : Hid (TakeAt w W4 (w.heap.size + 1) w.heap.size W2.heap.size s4 e4 #[.int .i64 (x0 : Int), .int .i64 (x1 : Int), .int .u64 0, .int .i64 0, .int .u64 0, .int .u64 0, .int .u64 0, .int .i64 0, .int .i64 0, .string ⟨#[]⟩, .string ⟨#[]⟩, .string ⟨#[]⟩, .slice none 0 0]) := Lib.hid (T3.out.call hq hm); clear hq hm T3; have bb := T4.out.rcd; have c3_2 := (cell_of_blk bb 2).trans (rfl : _ = some (Value.int .u64 0)); have c3_3 := (cell_of_blk bb 3).trans (rfl : _ = some (Value.int .i64 0)); have f3_2 := frozen_of_blk bb 2; have f3_3 := frozen_of_blk bb 3; clear bb) | (go_at_call 27; refine (rd_Uint' (w.heap.size + 1) s4 e4 x4 s5 e5 _ ((T4.out.set 2 (.int .u64 x2)).set 3 (.int .i64 x3)).rdr HZ4.out H4.out).mono ?_; rintro e W5 ⟨rfl, hq, hm⟩; have T5 : Hid (TakeAt w W5 (w.heap.size + 1) w.heap.size W2.heap.size s5 e5 #[.int .i64 (x0 : Int), .int .i64 (x1 : Int), .int .u64 (x2 : Int), .int .i64 x3, .int .u64 0, .int .u64 0, .int .u64 0, .int .i64 0, .int .i64 0, .string ⟨#[]⟩, .string ⟨#[]⟩, .string ⟨#[]⟩, .slice none 0 0]) := Lib.hid (((T4.out.set 2 (.int .u64 x2)).set 3 (.int .i64 x3)).call hq hm); clear hq hm T4; clear c3_2 f3_2 c3_3 f3_3) | (go_at_call 27; refine (rd_Uint' (w.heap.size + 1) s5 e5 x5 s6 e6 _ T5.out.rdr HZ5.out H5.out).mono ?_; rintro e W6 ⟨rfl, hq, hm⟩; have T6 : Hid (TakeAt w W6 (w.heap.size + 1) w.heap.size W2.heap.size s6 e6 #[.int .i64 (x0 : Int), .int .i64 (x1 : Int), .int .u64 (x2 : Int), .int .i64 x3, .int .u64 0, .int .u64 0, .int .u64 0, .int .i64 0, .int .i64 0, .string ⟨#[]⟩, .string ⟨#[]⟩, .string ⟨#[]⟩, .slice none 0 0]) := Lib.hid (T5.out.call hq hm); clear hq hm T5) | (go_at_call 27; refine (rd_Uint' (w.heap.size + 1) s6 e6 x6 s7 e7 _ T6.out.rdr HZ6.out H6.out).mono ?_; rintro e W7 ⟨rfl, hq, hm⟩; have T7 : Hid (TakeAt w W7 (w.heap.size + 1) w.heap.size W2.heap.size s7 e7 #[.int .i64 (x0 : Int), .int .i64 (x1 : Int), .int .u64 (x2 : Int), .int .i64 x3, .int .u64 0, .int .u64 0, .int .u64 0, .int .i64 0, .int .i64 0, .string ⟨#[]⟩, .string ⟨#[]⟩, .string ⟨#[]⟩, .slice none 0 0]) := Lib.hid (T6.out.call hq hm); clear hq hm T6; have bb := T7.out.rcd; have c6_4 := (cell_of_blk bb 4).trans (rfl : _ = some (Value.int .u64 0)); have c6_5 := (cell_of_blk bb 5).trans (rfl : _ = some (Value.int .u64 0)); have c6_6 := (cell_of_blk bb 6).trans (rfl : _ = some (Value.int .u64 0)); have f6_4 := frozen_of_blk bb 4; have f6_5 := frozen_of_blk bb 5; have f6_6 := frozen_of_blk bb 6; clear bb) | (go_at_call 28; refine (rd_Int' (w.heap.size + 1) s7 e7 x7 s8 e8 _ (((T7.out.set 4 (.int .u64 x4)).set 5 (.int .u64 x5)).set 6 (.int .u64 x6)).rdr HZ7.out H7.out).mono ?_; rintro e W8 ⟨rfl, hq, hm⟩; have T8 : Hid (TakeAt w W8 (w.heap.size + 1) w.heap.size W2.heap.size s8 e8 #[.int .i64 (x0 : Int), .int .i64 (x1 : Int), .int .u64 (x2 : Int), .int .i64 x3, .int .u64 (x4 : Int), .int .u64 (x5 : Int), .int .u64 (x6 : Int), .int .i64 0, .int .i64 0, .string ⟨#[]⟩, .string ⟨#[]⟩, .string ⟨#[]⟩, .slice none 0 0]) := Lib.hid ((((T7.out.set 4 (.int .u64 x4)).set 5 (.int .u64 x5)).set 6 (.int .u64 x6)).call hq hm); clear hq hm T7; clear c6_4 f6_4 c6_5 f6_5 c6_6 f6_6) | (go_at_call 28; refine (rd_Int' (w.heap.size + 1) s8 e8 x8 s9 e9 _ T8.out.rdr HZ8.out H8.out).mono ?_; rintro e W9 ⟨rfl, hq, hm⟩; have T9 : Hid (TakeAt w W9 (w.heap.size + 1) w.heap.size W2.heap.size s9 e9 #[.int .i64 (x0 : Int), .int .i64 (x1 : Int), .int .u64 (x2 : Int), .int .i64 x3, .int .u64 (x4 : Int), .int .u64 (x5 : Int), .int .u64 (x6 : Int), .int .i64 0, .int .i64 0, .string ⟨#[]⟩, .string ⟨#[]⟩, .string ⟨#[]⟩, .slice none 0 0]) := Lib.hid (T8.out.call hq hm); clear hq hm T8; have bb := T9.out.rcd; have c8_7 := (cell_of_blk bb 7).trans (rfl : _ = some (Value.int .i64 0)); have c8_8 := (cell_of_blk bb 8).trans (rfl : _ = some (Value.int .i64 0)); have f8_7 := frozen_of_blk bb 7; have f8_8 := frozen_of_blk bb 8; clear bb) | (go_at_call 29; refine (rd_Text' (w.heap.size + 1) s9 e9 8192 x9 s10 e10 _ ((T9.out.set 7 (.int .i64 x7)).set 8 (.int .i64 x8)).rdr HZ9.out (by decide) (by decide) H9.out).mono ?_; rintro e W10 ⟨rfl, hq, hm⟩; have T10 : Hid (TakeAt w W10 (w.heap.size + 1) w.heap.size W2.heap.size s10 e10 #[.int .i64 (x0 : Int), .int .i64 (x1 : Int), .int .u64 (x2 : Int), .int .i64 x3, .int .u64 (x4 : Int), .int .u64 (x5 : Int), .int .u64 (x6 : Int), .int .i64 x7, .int .i64 x8, .string ⟨#[]⟩, .string ⟨#[]⟩, .string ⟨#[]⟩, .slice none 0 0]) := Lib.hid (((T9.out.set 7 (.int .i64 x7)).set 8 (.int .i64 x8)).call hq hm); clear hq hm T9; clear c8_7 f8_7 c8_8 f8_8) | (go_at_call 29; refine (rd_Text' (w.heap.size + 1) s10 e10 8192 x10 s11 e11 _ T10.out.rdr HZ10.out (by decide) (by decide) H10.out).mono ?_; rintro e W11 ⟨rfl, hq, hm⟩; have T11 : Hid (TakeAt w W11 (w.heap.size + 1) w.heap.size W2.heap.size s11 e11 #[.int .i64 (x0 : Int), .int .i64 (x1 : Int), .int .u64 (x2 : Int), .int .i64 x3, .int .u64 (x4 : Int), .int .u64 (x5 : Int), .int .u64 (x6 : Int), .int .i64 x7, .int .i64 x8, .string ⟨#[]⟩, .string ⟨#[]⟩, .string ⟨#[]⟩, .slice none 0 0]) := Lib.hid (T10.out.call hq hm); clear hq hm T10) | (go_at_call 29; refine (rd_Text' (w.heap.size + 1) s11 e11 32 x11 s12 e12 _ T11.out.rdr HZ11.out (by decide) (by decide) H11.out).mono ?_; rintro e W12 ⟨rfl, hq, hm⟩; have T12 : Hid (TakeAt w W12 (w.heap.size + 1) w.heap.size W2.heap.size s12 e12 #[.int .i64 (x0 : Int), .int .i64 (x1 : Int), .int .u64 (x2 : Int), .int .i64 x3, .int .u64 (x4 : Int), .int .u64 (x5 : Int), .int .u64 (x6 : Int), .int .i64 x7, .int .i64 x8, .string ⟨#[]⟩, .string ⟨#[]⟩, .string ⟨#[]⟩, .slice none 0 0]) := Lib.hid (T11.out.call hq hm); clear hq hm T11; have bb := T12.out.rcd; have c11_9 := (cell_of_blk bb 9).trans (rfl : _ = some (Value.string ⟨#[]⟩)); have c11_10 := (cell_of_blk bb 10).trans (rfl : _ = some (Value.string ⟨#[]⟩)); have c11_11 := (cell_of_blk bb 11).trans (rfl : _ = some (Value.string ⟨#[]⟩)); have f11_9 := frozen_of_blk bb 9; have f11_10 := frozen_of_blk bb 10; have f11_11 := frozen_of_blk bb 11; clear bb) | (go_at_call 30; refine (val_TakeVars' (w.heap.size + 1) s12 e12 (some l) l true s13 e13 _ (((T12.out.set 9 (.string x9)).set 10 (.string x10)).set 11 (.string x11)).rdr HZ12.out H12.out rfl rfl).mono ?_; rintro e W13 ⟨A, c, rfl, hrow, hq, hm⟩; have T13 : Hid (TakeAt w W13 (w.heap.size + 1) w.heap.size W2.heap.size s13 e13 #[.int .i64 (x0 : Int), .int .i64 (x1 : Int), .int .u64 (x2 : Int), .int .i64 x3, .int .u64 (x4 : Int), .int .u64 (x5 : Int), .int .u64 (x6 : Int), .int .i64 x7, .int .i64 x8, .string x9, .string x10, .string x11, .slice none 0 0]) := Lib.hid ((((T12.out.set 9 (.string x9)).set 10 (.string x10)).set 11 (.string x11)).call hq hm); have hlt := lt_of_blk (((T12.out.set 9 (.string x9)).set 10 (.string x10)).set 11 (.string x11)).rcd; have HLT := Lib.hid hlt; have HR13 := Lib.hid (row_set (w := W13) hrow hlt (.slice A (l).length c)); clear hq hm hrow hlt T12 c11_9 f11_9 c11_10 f11_10 c11_11 f11_11; have bb := T13.out.rcd; have d0 := (cell_of_blk bb 0).trans (rfl : _ = some (Value.int .i64 (x0 : Int))); have d1 := (cell_of_blk bb 1).trans (rfl : _ = some (Value.int .i64 (x1 : Int))); have d2 := (cell_of_blk bb 2).trans (rfl : _ = some (Value.int .u64 (x2 : Int))); have d3 := (cell_of_blk bb 3).trans (rfl : _ = some (Value.int .i64 x3)); have d4 := (cell_of_blk bb 4).trans (rfl : _ = some (Value.int .u64 (x4 : Int))); have d5 := (cell_of_blk bb 5).trans (rfl : _ = some (Value.int .u64 (x5 : Int))); have d6 := (cell_of_blk bb 6).trans (rfl : _ = some (Value.int .u64 (x6 : Int))); have d7 := (cell_of_blk bb 7).trans (rfl : _ = some (Value.int .i64 x7)); have d8 := (cell_of_blk bb 8).trans (rfl : _ = some (Value.int .i64 x8)); have d9 := (cell_of_blk bb 9).trans (rfl : _ = some (Value.string x9)); have d10 := (cell_of_blk bb 10).trans (rfl : _ = some (Value.string x10)); have d11 := (cell_of_blk bb 11).trans (rfl : _ = some (Value.string x11)); have d12 := (cell_of_blk bb 12).trans (rfl : _ = some (Value.slice none 0 0)); have df12 := frozen_of_blk bb 12; have br := T13.out.res; have z0 := (cell_of_blk br 0).trans (rfl : _ = some (Value.int .i64 0)); have z1 := (cell_of_blk br 1).trans (rfl : _ = some (Value.int .i64 0)); have z2 := (cell_of_blk br 2).trans (rfl : _ = some (Value.int .u64 0)); have z3 := (cell_of_blk br 3).trans (rfl : _ = some (Value.int .i64 0)); have z4 := (cell_of_blk br 4).trans (rfl : _ = some (Value.int .u64 0)); have z5 := (cell_of_blk br 5).trans (rfl : _ = some (Value.int .u64 0)); have z6 := (cell_of_blk br 6).trans (rfl : _ = some (Value.int .u64 0)); have z7 := (cell_of_blk br 7).trans (rfl : _ = some (Value.int .i64 0)); have z8 := (cell_of_blk br 8).trans (rfl : _ = some (Value.int .i64 0)); have z9 := (cell_of_blk br 9).trans (rfl : _ = some (Value.string ⟨#[]⟩)); have z10 := (cell_of_blk br 10).trans (rfl : _ = some (Value.string ⟨#[]⟩)); have z11 := (cell_of_blk br 11).trans (rfl : _ = some (Value.string ⟨#[]⟩)); have z12 := (cell_of_blk br 12).trans (rfl : _ = some (Value.slice none 0 0)); have zf0 := frozen_of_blk br 0; have zf1 := frozen_of_blk br 1; have zf2 := frozen_of_blk br 2; have zf3 := frozen_of_blk br 3; have zf4 := frozen_of_blk br 4; have zf5 := frozen_of_blk br 5; have zf6 := frozen_of_blk br 6; have zf7 := frozen_of_blk br 7; have zf8 := frozen_of_blk br 8; have zf9 := frozen_of_blk br 9; have zf10 := frozen_of_blk br 10; have zf11 := frozen_of_blk br 11; have zf12 := frozen_of_blk br 12; clear bb br) | (go_at_call 31; refine (rd_End' (w.heap.size + 1) s13 e13 en _ (T13.out.set 12 (.slice A l.length c)).rdr H13.out).mono ?_; rintro e w' ⟨rfl, rfl⟩))
  have hfin := set_blk13 (T13.out.set 12 (.slice A l.length c)).res (.int .i64 0) (.int .i64 0) (.int .u64 0) (.int .i64 0) (.int .u64 0) (.int .u64 0) (.int .u64 0) (.int .i64 0) (.int .i64 0) (.string ⟨#[]⟩) (.string ⟨#[]⟩) (.string ⟨#[]⟩) (.slice none 0 0)
  have hbel := ((((((((((((((T13.out.set 12 (.slice A l.length c)).low.setCell (p := ⟨w.heap.size, 0, none⟩) (Nat.le_refl _) (.int .i64 0)).setCell (p := ⟨w.heap.size, 1, none⟩) (Nat.le_refl _) (.int .i64 0)).setCell (p := ⟨w.heap.size, 2, none⟩) (Nat.le_refl _) (.int .u64 0)).setCell (p := ⟨w.heap.size, 3, none⟩) (Nat.le_refl _) (.int .i64 0)).setCell (p := ⟨w.heap.size, 4, none⟩) (Nat.le_refl _) (.int .u64 0)).setCell (p := ⟨w.heap.size, 5, none⟩) (Nat.le_refl _) (.int .u64 0)).setCell (p := ⟨w.heap.size, 6, none⟩) (Nat.le_refl _) (.int .u64 0)).setCell (p := ⟨w.heap.size, 7, none⟩) (Nat.le_refl _) (.int .i64 0)).setCell (p := ⟨w.heap.size, 8, none⟩) (Nat.le_refl _) (.int .i64 0)).setCell (p := ⟨w.heap.size, 9, none⟩) (Nat.le_refl _) (.string ⟨#[]⟩)).setCell (p := ⟨w.heap.size, 10, none⟩) (Nat.le_refl _) (.string ⟨#[]⟩)).setCell (p := ⟨w.heap.size, 11, none⟩) (Nat.le_refl _) (.string ⟨#[]⟩)).setCell (p := ⟨w.heap.size, 12, none⟩) (Nat.le_refl _) (.slice none 0 0))
  generalize ((((((((((((((W13.setCell ⟨W2.heap.size, 12, none⟩ (.slice A l.length c)).setCell ⟨w.heap.size, 0, none⟩ (.int .i64 0)).setCell ⟨w.heap.size, 1, none⟩ (.int .i64 0)).setCell ⟨w.heap.size, 2, none⟩ (.int .u64 0)).setCell ⟨w.heap.size, 3, none⟩ (.int .i64 0)).setCell ⟨w.heap.size, 4, none⟩ (.int .u64 0)).setCell ⟨w.heap.size, 5, none⟩ (.int .u64 0)).setCell ⟨w.heap.size, 6, none⟩ (.int .u64 0)).setCell ⟨w.heap.size, 7, none⟩ (.int .i64 0)).setCell ⟨w.heap.size, 8, none⟩ (.int .i64 0)).setCell ⟨w.heap.size, 9, none⟩ (.string ⟨#[]⟩)).setCell ⟨w.heap.size, 10, none⟩ (.string ⟨#[]⟩)).setCell ⟨w.heap.size, 11, none⟩ (.string ⟨#[]⟩)).setCell ⟨w.heap.size, 12, none⟩ (.slice none 0 0)) = Fw at *
  have r0 := (cell_of_blk hfin 0).trans (rfl : _ = some (Value.int .i64 0))
  have r1 := (cell_of_blk hfin 1).trans (rfl : _ = some (Value.int .i64 0))
  have r2 := (cell_of_blk hfin 2).trans (rfl : _ = some (Value.int .u64 0))
  have r3 := (cell_of_blk hfin 3).trans (rfl : _ = some (Value.int .i64 0))
  have r4 := (cell_of_blk hfin 4).trans (rfl : _ = some (Value.int .u64 0))
  have r5 := (cell_of_blk hfin 5).trans (rfl : _ = some (Value.int .u64 0))
  have r6 := (cell_of_blk hfin 6).trans (rfl : _ = some (Value.int .u64 0))
  have r7 := (cell_of_blk hfin 7).trans (rfl : _ = some (Value.int .i64 0))
  have r8 := (cell_of_blk hfin 8).trans (rfl : _ = some (Value.int .i64 0))
  have r9 := (cell_of_blk hfin 9).trans (rfl : _ = some (Value.string ⟨#[]⟩))
  have r10 := (cell_of_blk hfin 10).trans (rfl : _ = some (Value.string ⟨#[]⟩))
  have r11 := (cell_of_blk hfin 11).trans (rfl : _ = some (Value.string ⟨#[]⟩))
  have r12 := (cell_of_blk hfin 12).trans (rfl : _ = some (Value.slice none 0 0))
  clear hfin
  refine bodyPost_ret (v := .tuple #[.agg #[.int .i64 0, .int .i64 0, .int .u64 0, .int .i64 0, .int .u64 0, .int .u64 0, .int .u64 0, .int .i64 0, .int .i64 0, .string ⟨#[]⟩, .string ⟨#[]⟩, .string ⟨#[]⟩, .slice none 0 0], .int .i64 3]) (by simp [results, Try.results15, go_sem, r0, r1, r2, r3, r4, r5, r6, r7, r8, r9, r10, r11, r12]) rfl ?_
  exact ⟨rfl, hbel⟩
end Go.Proofs.Ytcfdbdmefdffdaa
/-
  The walk of rec.Take. Printed by gentake.py.
-/
set_option linter.unusedVariables false
set_option linter.unusedSimpArgs false
namespace Go.Proofs.Ytcfdbdmefdffdaa
open Go Go.RowKit Go.Proofs.Base
open Go.Sort (grow)
set_option maxRecDepth 100000 in
set_option maxHeartbeats 8000000 in
theorem rec_Take_c (s : ByteArray) (w : World) (x0 : Nat) (s1 : ByteArray) (e1 : Nat) (x1 : Nat) (s2 : ByteArray) (e2 : Nat) (x2 : Nat) (s3 : ByteArray) (e3 : Nat) (x3 : Int) (s4 : ByteArray) (e4 : Nat) (x4 : Nat) (s5 : ByteArray) (e5 : Nat) (x5 : Nat) (s6 : ByteArray) (e6 : Nat) (x6 : Nat) (s7 : ByteArray) (e7 : Nat) (x7 : Int) (s8 : ByteArray) (e8 : Nat) (x8 : Int) (s9 : ByteArray) (e9 : Nat) (x9 : ByteArray) (s10 : ByteArray) (e10 : Nat) (x10 : ByteArray) (s11 : ByteArray) (e11 : Nat) (x11 : ByteArray) (s12 : ByteArray) (e12 : Nat) (l : List GVar) (s13 : ByteArray) (e13 : Nat) (hs : s.size ≤ 140737488351232) (hx0 : (x0 : Int) ≤ 255) (hx1 : (x1 : Int) ≤ 255) (h0 : rdByte s 0 = (x0, s1, e1)) (h1 : rdByte s1 e1 = (x1, s2, e2)) (h2 : rdUint s2 e2 = (x2, s3, e3)) (h3 : rdInt s3 e3 = (x3, s4, e4)) (h4 : rdUint s4 e4 = (x4, s5, e5)) (h5 : rdUint s5 e5 = (x5, s6, e6)) (h6 : rdUint s6 e6 = (x6, s7, e7)) (h7 : rdInt s7 e7 = (x7, s8, e8)) (h8 : rdInt s8 e8 = (x8, s9, e9)) (h9 : rdText 8192 s9 e9 = (x9, s10, e10)) (h10 : rdText 8192 s10 e10 = (x10, s11, e11)) (h11 : rdText 32 s11 e11 = (x11, s12, e12)) (hz1 : s1.size ≤ 140737488351232) (hz2 : s2.size ≤ 140737488351232) (hz3 : s3.size ≤ 140737488351232) (hz4 : s4.size ≤ 140737488351232) (hz5 : s5.size ≤ 140737488351232) (hz6 : s6.size ≤ 140737488351232) (hz7 : s7.size ≤ 140737488351232) (hz8 : s8.size ≤ 140737488351232) (hz9 : s9.size ≤ 140737488351232) (hz10 : s10.size ≤ 140737488351232) (hz11 : s11.size ≤ 140737488351232) (hz12 : s12.size ≤ 140737488351232) (h12 : takeVars s12 e12 = (some l, s13, e13)) (h13 : rdEnd s13 e13 = 0) (hwf : (⟨(x0 : Int), (x1 : Int), (x2 : Int), x3, (x4 : Int), (x5 : Int), (x6 : Int), x7, x8, x9, x10, x11, l⟩ : GRec).wf) (hM : recMay ⟨(x0 : Int), (x1 : Int), (x2 : Int), x3, (x4 : Int), (x5 : Int), (x6 : Int), x7, x8, x9, x10, x11, l⟩ = false) :
    Calls Try.prog 15 #[.string s] w fun e w' => e = .returned (.tuple #[.agg #[.int .i64 0, .int .i64 0, .int .u64 0, .int .i64 0, .int .u64 0, .int .u64 0, .int .u64 0, .int .i64 0, .int .i64 0, .string ⟨#[]⟩, .string ⟨#[]⟩, .string ⟨#[]⟩, .slice none 0 0], .int .i64 3]) ∧ Below w.heap.size w w' := by
  have HZ0 := Lib.hid hs
  have HZ1 := Lib.hid hz1
  have HZ2 := Lib.hid hz2
  have HZ3 := Lib.hid hz3
  have HZ4 := Lib.hid hz4
  have HZ5 := Lib.hid hz5
  have HZ6 := Lib.hid hz6
  have HZ7 := Lib.hid hz7
  have HZ8 := Lib.hid hz8
  have HZ9 := Lib.hid hz9
  have HZ10 := Lib.hid hz10
  have HZ11 := Lib.hid hz11
  have HZ12 := Lib.hid hz12
  have H0 := Lib.hid h0
  have H1 := Lib.hid h1
  have H2 := Lib.hid h2
  have H3 := Lib.hid h3
  have H4 := Lib.hid h4
  have H5 := Lib.hid h5
  have H6 := Lib.hid h6
  have H7 := Lib.hid h7
  have H8 := Lib.hid h8
  have H9 := Lib.hid h9
  have H10 := Lib.hid h10
  have H11 := Lib.hid h11
  have H12 := Lib.hid h12
  clear hs hz1 hz2 hz3 hz4 hz5 hz6 hz7 hz8 hz9 hz10 hz11 hz12 h0 h1 h2 h3 h4 h5 h6 h7 h8 h9 h10 h11 h12
  have H13 := Lib.hid h13
  have HWF := Lib.hid hwf
  have HM := Lib.hid hM
  clear h13 hwf hM
  go_enter Try.func15, Try.ntmps15
  go_wp2_with (first | (go_at_call 25; refine (wire_Read s _).mono ?_; rintro e W0 ⟨rfl, hq0, hb0⟩; have R0 := block_below hb0 (blk_new w _ rfl); have L0 := below2 ((Below.refl _ _).alloc (Nat.le_refl _) _) hb0; rw [World.size_alloc] at hq0) | (go_at_call 26; refine (rd_Byte' (w.heap.size + 1) s 0 x0 s1 e1 _ hq0 HZ0.out H0.out).mono ?_; rintro e W1 ⟨rfl, hq1, hm1⟩; clear hb0) | (go_at_call 26; refine (rd_Byte' (w.heap.size + 1) s1 e1 x1 s2 e2 _ hq1 HZ1.out H1.out).mono ?_; rintro e W2 ⟨rfl, hq2, hm2⟩; have hg2 := lt_of_blk hq2; have T2 := Lib.hid (take_start L0 R0 hq0 hm1 hm2 hq2 #[.int .i64 (x0 : Int), .int .i64 (x1 : Int), .int .u64 0, .int .i64 0, .int .u64 0, .int .u64 0, .int .u64 0, .int .i64 0, .int .i64 0, .string ⟨#[]⟩, .string ⟨#[]⟩, .string ⟨#[]⟩, .slice none 0 0]); have n5a : w.heap.size ≠ W2.heap.size := (by have := T2.out.ng; have := T2.out.n5; omega); have n5b : W2.heap.size ≠ w.heap.size := (by have := T2.out.ng; have := T2.out.n5; omega); clear hq1 hm1 hm2 hq0 L0 R0) | (go_at_call 27; refine (rd_Uint' (w.heap.size + 1) s2 e2 x2 s3 e3 _ T2.out.rdr HZ2.out H2.out).mono ?_; rintro e W3 ⟨rfl, hq, hm⟩; have T3 : Hid (TakeAt w W3 (w.heap.size + 1) w.heap.size W2.heap.size s3 e3 #[.int .i64 (x0 : Int), .int .i64 (x1 : Int), .int .u64 0, .int .i64 0, .int .u64 0, .int .u64 0, .int .u64 0, .int .i64 0, .int .i64 0, .string ⟨#[]⟩, .string ⟨#[]⟩, .string ⟨#[]⟩, .slice none 0 0]) := Lib.hid (T2.out.call hq hm); clear hq hm T2) | (go_at_call 28; refine (rd_Int' (w.heap.size + 1) s3 e3 x3 s4 e4 _ T3.out.rdr HZ3.out H3.out).mono ?_; rintro e W4 ⟨rfl, hq, hm⟩; have T4 : Hid (TakeAt w W4 (w.heap.size + 1) w.heap.size W2.heap.size s4 e4 #[.int .i64 (x0 : Int), .int .i64 (x1 : Int), .int .u64 0, .int .i64 0, .int .u64 0, .int .u64 0, .int .u64 0, .int .i64 0, .int .i64 0, .string ⟨#[]⟩, .string ⟨#[]⟩, .string ⟨#[]⟩, .slice none 0 0]) := Lib.hid (T3.out.call hq hm); clear hq hm T3; have bb := T4.out.rcd; have c3_2 := (cell_of_blk bb 2).trans (rfl : _ = some (Value.int .u64 0)); have c3_3 := (cell_of_blk bb 3).trans (rfl : _ = some (Value.int .i64 0)); have f3_2 := frozen_of_blk bb 2; have f3_3 := frozen_of_blk bb 3; clear bb) | (go_at_call 27; refine (rd_Uint' (w.heap.size + 1) s4 e4 x4 s5 e5 _ ((T4.out.set 2 (.int .u64 x2)).set 3 (.int .i64 x3)).rdr HZ4.out H4.out).mono ?_; rintro e W5 ⟨rfl, hq, hm⟩; have T5 : Hid (TakeAt w W5 (w.heap.size + 1) w.heap.size W2.heap.size s5 e5 #[.int .i64 (x0 : Int), .int .i64 (x1 : Int), .int .u64 (x2 : Int), .int .i64 x3, .int .u64 0, .int .u64 0, .int .u64 0, .int .i64 0, .int .i64 0, .string ⟨#[]⟩, .string ⟨#[]⟩, .string ⟨#[]⟩, .slice none 0 0]) := Lib.hid (((T4.out.set 2 (.int .u64 x2)).set 3 (.int .i64 x3)).call hq hm); clear hq hm T4; clear c3_2 f3_2 c3_3 f3_3) | (go_at_call 27; refine (rd_Uint' (w.heap.size + 1) s5 e5 x5 s6 e6 _ T5.out.rdr HZ5.out H5.out).mono ?_; rintro e W6 ⟨rfl, hq, hm⟩; have T6 : Hid (TakeAt w W6 (w.heap.size + 1) w.heap.size W2.heap.size s6 e6 #[.int .i64 (x0 : Int), .int .i64 (x1 : Int), .int .u64 (x2 : Int), .int .i64 x3, .int .u64 0, .int .u64 0, .int .u64 0, .int .i64 0, .int .i64 0, .string ⟨#[]⟩, .string ⟨#[]⟩, .string ⟨#[]⟩, .slice none 0 0]) := Lib.hid (T5.out.call hq hm); clear hq hm T5) | (go_at_call 27; refine (rd_Uint' (w.heap.size + 1) s6 e6 x6 s7 e7 _ T6.out.rdr HZ6.out H6.out).mono ?_; rintro e W7 ⟨rfl, hq, hm⟩; have T7 : Hid (TakeAt w W7 (w.heap.size + 1) w.heap.size W2.heap.size s7 e7 #[.int .i64 (x0 : Int), .int .i64 (x1 : Int), .int .u64 (x2 : Int), .int .i64 x3, .int .u64 0, .int .u64 0, .int .u64 0, .int .i64 0, .int .i64 0, .string ⟨#[]⟩, .string ⟨#[]⟩, .string ⟨#[]⟩, .slice none 0 0]) := Lib.hid (T6.out.call hq hm); clear hq hm T6; have bb := T7.out.rcd; have c6_4 := (cell_of_blk bb 4).trans (rfl : _ = some (Value.int .u64 0)); have c6_5 := (cell_of_blk bb 5).trans (rfl : _ = some (Value.int .u64 0)); have c6_6 := (cell_of_blk bb 6).trans (rfl : _ = some (Value.int .u64 0)); have f6_4 := frozen_of_blk bb 4; have f6_5 := frozen_of_blk bb 5; have f6_6 := frozen_of_blk bb 6; clear bb) | (go_at_call 28; refine (rd_Int' (w.heap.size + 1) s7 e7 x7 s8 e8 _ (((T7.out.set 4 (.int .u64 x4)).set 5 (.int .u64 x5)).set 6 (.int .u64 x6)).rdr HZ7.out H7.out).mono ?_; rintro e W8 ⟨rfl, hq, hm⟩; have T8 : Hid (TakeAt w W8 (w.heap.size + 1) w.heap.size W2.heap.size s8 e8 #[.int .i64 (x0 : Int), .int .i64 (x1 : Int), .int .u64 (x2 : Int), .int .i64 x3, .int .u64 (x4 : Int), .int .u64 (x5 : Int), .int .u64 (x6 : Int), .int .i64 0, .int .i64 0, .string ⟨#[]⟩, .string ⟨#[]⟩, .string ⟨#[]⟩, .slice none 0 0]) := Lib.hid ((((T7.out.set 4 (.int .u64 x4)).set 5 (.int .u64 x5)).set 6 (.int .u64 x6)).call hq hm); clear hq hm T7; clear c6_4 f6_4 c6_5 f6_5 c6_6 f6_6) | (go_at_call 28; refine (rd_Int' (w.heap.size + 1) s8 e8 x8 s9 e9 _ T8.out.rdr HZ8.out H8.out).mono ?_; rintro e W9 ⟨rfl, hq, hm⟩; have T9 : Hid (TakeAt w W9 (w.heap.size + 1) w.heap.size W2.heap.size s9 e9 #[.int .i64 (x0 : Int), .int .i64 (x1 : Int), .int .u64 (x2 : Int), .int .i64 x3, .int .u64 (x4 : Int), .int .u64 (x5 : Int), .int .u64 (x6 : Int), .int .i64 0, .int .i64 0, .string ⟨#[]⟩, .string ⟨#[]⟩, .string ⟨#[]⟩, .slice none 0 0]) := Lib.hid (T8.out.call hq hm); clear hq hm T8; have bb := T9.out.rcd; have c8_7 := (cell_of_blk bb 7).trans (rfl : _ = some (Value.int .i64 0)); have c8_8 := (cell_of_blk bb 8).trans (rfl : _ = some (Value.int .i64 0)); have f8_7 := frozen_of_blk bb 7; have f8_8 := frozen_of_blk bb 8; clear bb) | (go_at_call 29; refine (rd_Text' (w.heap.size + 1) s9 e9 8192 x9 s10 e10 _ ((T9.out.set 7 (.int .i64 x7)).set 8 (.int .i64 x8)).rdr HZ9.out (by decide) (by decide) H9.out).mono ?_; rintro e W10 ⟨rfl, hq, hm⟩; have T10 : Hid (TakeAt w W10 (w.heap.size + 1) w.heap.size W2.heap.size s10 e10 #[.int .i64 (x0 : Int), .int .i64 (x1 : Int), .int .u64 (x2 : Int), .int .i64 x3, .int .u64 (x4 : Int), .int .u64 (x5 : Int), .int .u64 (x6 : Int), .int .i64 x7, .int .i64 x8, .string ⟨#[]⟩, .string ⟨#[]⟩, .string ⟨#[]⟩, .slice none 0 0]) := Lib.hid (((T9.out.set 7 (.int .i64 x7)).set 8 (.int .i64 x8)).call hq hm); clear hq hm T9; clear c8_7 f8_7 c8_8 f8_8) | (go_at_call 29; refine (rd_Text' (w.heap.size + 1) s10 e10 8192 x10 s11 e11 _ T10.out.rdr HZ10.out (by decide) (by decide) H10.out).mono ?_; rintro e W11 ⟨rfl, hq, hm⟩; have T11 : Hid (TakeAt w W11 (w.heap.size + 1) w.heap.size W2.heap.size s11 e11 #[.int .i64 (x0 : Int), .int .i64 (x1 : Int), .int .u64 (x2 : Int), .int .i64 x3, .int .u64 (x4 : Int), .int .u64 (x5 : Int), .int .u64 (x6 : Int), .int .i64 x7, .int .i64 x8, .string ⟨#[]⟩, .string ⟨#[]⟩, .string ⟨#[]⟩, .slice none 0 0]) := Lib.hid (T10.out.call hq hm); clear hq hm T10) | (go_at_call 29; refine (rd_Text' (w.heap.size + 1) s11 e11 32 x11 s12 e12 _ T11.out.rdr HZ11.out (by decide) (by decide) H11.out).mono ?_; rintro e W12 ⟨rfl, hq, hm⟩; have T12 : Hid (TakeAt w W12 (w.heap.size + 1) w.heap.size W2.heap.size s12 e12 #[.int .i64 (x0 : Int), .int .i64 (x1 : Int), .int .u64 (x2 : Int), .int .i64 x3, .int .u64 (x4 : Int), .int .u64 (x5 : Int), .int .u64 (x6 : Int), .int .i64 x7, .int .i64 x8, .string ⟨#[]⟩, .string ⟨#[]⟩, .string ⟨#[]⟩, .slice none 0 0]) := Lib.hid (T11.out.call hq hm); clear hq hm T11; have bb := T12.out.rcd; have c11_9 := (cell_of_blk bb 9).trans (rfl : _ = some (Value.string ⟨#[]⟩)); have c11_10 := (cell_of_blk bb 10).trans (rfl : _ = some (Value.string ⟨#[]⟩)); have c11_11 := (cell_of_blk bb 11).trans (rfl : _ = some (Value.string ⟨#[]⟩)); have f11_9 := frozen_of_blk bb 9; have f11_10 := frozen_of_blk bb 10; have f11_11 := frozen_of_blk bb 11; clear bb) | (go_at_call 30; refine (val_TakeVars' (w.heap.size + 1) s12 e12 (some l) l true s13 e13 _ (((T12.out.set 9 (.string x9)).set 10 (.string x10)).set 11 (.string x11)).rdr HZ12.out H12.out rfl rfl).mono ?_; rintro e W13 ⟨A, c, rfl, hrow, hq, hm⟩; have T13 : Hid (TakeAt w W13 (w.heap.size + 1) w.heap.size W2.heap.size s13 e13 #[.int .i64 (x0 : Int), .int .i64 (x1 : Int), .int .u64 (x2 : Int), .int .i64 x3, .int .u64 (x4 : Int), .int .u64 (x5 : Int), .int .u64 (x6 : Int), .int .i64 x7, .int .i64 x8, .string x9, .string x10, .string x11, .slice none 0 0]) := Lib.hid ((((T12.out.set 9 (.string x9)).set 10 (.string x10)).set 11 (.string x11)).call hq hm); have hlt := lt_of_blk (((T12.out.set 9 (.string x9)).set 10 (.string x10)).set 11 (.string x11)).rcd; have HLT := Lib.hid hlt; have HR13 := Lib.hid (row_set (w := W13) hrow hlt (.slice A (l).length c)); clear hq hm hrow hlt T12 c11_9 f11_9 c11_10 f11_10 c11_11 f11_11; have bb := T13.out.rcd; have d0 := (cell_of_blk bb 0).trans (rfl : _ = some (Value.int .i64 (x0 : Int))); have d1 := (cell_of_blk bb 1).trans (rfl : _ = some (Value.int .i64 (x1 : Int))); have d2 := (cell_of_blk bb 2).trans (rfl : _ = some (Value.int .u64 (x2 : Int))); have d3 := (cell_of_blk bb 3).trans (rfl : _ = some (Value.int .i64 x3)); have d4 := (cell_of_blk bb 4).trans (rfl : _ = some (Value.int .u64 (x4 : Int))); have d5 := (cell_of_blk bb 5).trans (rfl : _ = some (Value.int .u64 (x5 : Int))); have d6 := (cell_of_blk bb 6).trans (rfl : _ = some (Value.int .u64 (x6 : Int))); have d7 := (cell_of_blk bb 7).trans (rfl : _ = some (Value.int .i64 x7)); have d8 := (cell_of_blk bb 8).trans (rfl : _ = some (Value.int .i64 x8)); have d9 := (cell_of_blk bb 9).trans (rfl : _ = some (Value.string x9)); have d10 := (cell_of_blk bb 10).trans (rfl : _ = some (Value.string x10)); have d11 := (cell_of_blk bb 11).trans (rfl : _ = some (Value.string x11)); have d12 := (cell_of_blk bb 12).trans (rfl : _ = some (Value.slice none 0 0)); have df12 := frozen_of_blk bb 12; have br := T13.out.res; have z0 := (cell_of_blk br 0).trans (rfl : _ = some (Value.int .i64 0)); have z1 := (cell_of_blk br 1).trans (rfl : _ = some (Value.int .i64 0)); have z2 := (cell_of_blk br 2).trans (rfl : _ = some (Value.int .u64 0)); have z3 := (cell_of_blk br 3).trans (rfl : _ = some (Value.int .i64 0)); have z4 := (cell_of_blk br 4).trans (rfl : _ = some (Value.int .u64 0)); have z5 := (cell_of_blk br 5).trans (rfl : _ = some (Value.int .u64 0)); have z6 := (cell_of_blk br 6).trans (rfl : _ = some (Value.int .u64 0)); have z7 := (cell_of_blk br 7).trans (rfl : _ = some (Value.int .i64 0)); have z8 := (cell_of_blk br 8).trans (rfl : _ = some (Value.int .i64 0)); have z9 := (cell_of_blk br 9).trans (rfl : _ = some (Value.string ⟨#[]⟩)); have z10 := (cell_of_blk br 10).trans (rfl : _ = some (Value.string ⟨#[]⟩)); have z11 := (cell_of_blk br 11).trans (rfl : _ = some (Value.string ⟨#[]⟩)); have z12 := (cell_of_blk br 12).trans (rfl : _ = some (Value.slice none 0 0)); have zf0 := frozen_of_blk br 0; have zf1 := frozen_of_blk br 1; have zf2 := frozen_of_blk br 2; have zf3 := frozen_of_blk br 3; have zf4 := frozen_of_blk br 4; have zf5 := frozen_of_blk br 5; have zf6 := frozen_of_blk br 6; have zf7 := frozen_of_blk br 7; have zf8 := frozen_of_blk br 8; have zf9 := frozen_of_blk br 9; have zf10 := frozen_of_blk br 10; have zf11 := frozen_of_blk br 11; have zf12 := frozen_of_blk br 12; clear bb br) | (go_at_call 31; refine (rd_End' (w.heap.size + 1) s13 e13 0 _ (T13.out.set 12 (.slice A l.length c)).rdr H13.out).mono ?_; rintro e w' ⟨rfl, rfl⟩) | (go_at_call 11; refine (rec_May' ⟨(x0 : Int), (x1 : Int), (x2 : Int), x3, (x4 : Int), (x5 : Int), (x6 : Int), x7, x8, x9, x10, x11, l⟩ false (.slice A l.length c) _ _ HR13.out HWF.out HM.out).mono ?_; rintro e W15 ⟨rfl, hb15⟩; have T15 := Lib.hid (((T13.out.set 12 (.slice A l.length c)).below hb15) : TakeAt w W15 (w.heap.size + 1) w.heap.size W2.heap.size s13 e13 #[.int .i64 (x0 : Int), .int .i64 (x1 : Int), .int .u64 (x2 : Int), .int .i64 x3, .int .u64 (x4 : Int), .int .u64 (x5 : Int), .int .u64 (x6 : Int), .int .i64 x7, .int .i64 x8, .string x9, .string x10, .string x11, .slice A l.length c]); have HR15 := Lib.hid (HR13.out.below hb15); clear hb15 d0 d1 d2 d3 d4 d5 d6 d7 d8 d9 d10 d11 d12 df12 z0 zf0 z1 zf1 z2 zf2 z3 zf3 z4 zf4 z5 zf5 z6 zf6 z7 zf7 z8 zf8 z9 zf9 z10 zf10 z11 zf11 z12 zf12; have bb := T15.out.rcd; have d0 := (cell_of_blk bb 0).trans (rfl : _ = some (Value.int .i64 (x0 : Int))); have d1 := (cell_of_blk bb 1).trans (rfl : _ = some (Value.int .i64 (x1 : Int))); have d2 := (cell_of_blk bb 2).trans (rfl : _ = some (Value.int .u64 (x2 : Int))); have d3 := (cell_of_blk bb 3).trans (rfl : _ = some (Value.int .i64 x3)); have d4 := (cell_of_blk bb 4).trans (rfl : _ = some (Value.int .u64 (x4 : Int))); have d5 := (cell_of_blk bb 5).trans (rfl : _ = some (Value.int .u64 (x5 : Int))); have d6 := (cell_of_blk bb 6).trans (rfl : _ = some (Value.int .u64 (x6 : Int))); have d7 := (cell_of_blk bb 7).trans (rfl : _ = some (Value.int .i64 x7)); have d8 := (cell_of_blk bb 8).trans (rfl : _ = some (Value.int .i64 x8)); have d9 := (cell_of_blk bb 9).trans (rfl : _ = some (Value.string x9)); have d10 := (cell_of_blk bb 10).trans (rfl : _ = some (Value.string x10)); have d11 := (cell_of_blk bb 11).trans (rfl : _ = some (Value.string x11)); have d12 := (cell_of_blk bb 12).trans (rfl : _ = some (Value.slice A l.length c)); have br := T15.out.res; have z0 := (cell_of_blk br 0).trans (rfl : _ = some (Value.int .i64 0)); have z1 := (cell_of_blk br 1).trans (rfl : _ = some (Value.int .i64 0)); have z2 := (cell_of_blk br 2).trans (rfl : _ = some (Value.int .u64 0)); have z3 := (cell_of_blk br 3).trans (rfl : _ = some (Value.int .i64 0)); have z4 := (cell_of_blk br 4).trans (rfl : _ = some (Value.int .u64 0)); have z5 := (cell_of_blk br 5).trans (rfl : _ = some (Value.int .u64 0)); have z6 := (cell_of_blk br 6).trans (rfl : _ = some (Value.int .u64 0)); have z7 := (cell_of_blk br 7).trans (rfl : _ = some (Value.int .i64 0)); have z8 := (cell_of_blk br 8).trans (rfl : _ = some (Value.int .i64 0)); have z9 := (cell_of_blk br 9).trans (rfl : _ = some (Value.string ⟨#[]⟩)); have z10 := (cell_of_blk br 10).trans (rfl : _ = some (Value.string ⟨#[]⟩)); have z11 := (cell_of_blk br 11).trans (rfl : _ = some (Value.string ⟨#[]⟩)); have z12 := (cell_of_blk br 12).trans (rfl : _ = some (Value.slice none 0 0)); have zf0 := frozen_of_blk br 0; have zf1 := frozen_of_blk br 1; have zf2 := frozen_of_blk br 2; have zf3 := frozen_of_blk br 3; have zf4 := frozen_of_blk br 4; have zf5 := frozen_of_blk br 5; have zf6 := frozen_of_blk br 6; have zf7 := frozen_of_blk br 7; have zf8 := frozen_of_blk br 8; have zf9 := frozen_of_blk br 9; have zf10 := frozen_of_blk br 10; have zf11 := frozen_of_blk br 11; have zf12 := frozen_of_blk br 12; clear bb br))
  have hfin := set_blk13 T15.out.res (.int .i64 0) (.int .i64 0) (.int .u64 0) (.int .i64 0) (.int .u64 0) (.int .u64 0) (.int .u64 0) (.int .i64 0) (.int .i64 0) (.string ⟨#[]⟩) (.string ⟨#[]⟩) (.string ⟨#[]⟩) (.slice none 0 0)
  have hbel := (((((((((((((T15.out.low.setCell (p := ⟨w.heap.size, 0, none⟩) (Nat.le_refl _) (.int .i64 0)).setCell (p := ⟨w.heap.size, 1, none⟩) (Nat.le_refl _) (.int .i64 0)).setCell (p := ⟨w.heap.size, 2, none⟩) (Nat.le_refl _) (.int .u64 0)).setCell (p := ⟨w.heap.size, 3, none⟩) (Nat.le_refl _) (.int .i64 0)).setCell (p := ⟨w.heap.size, 4, none⟩) (Nat.le_refl _) (.int .u64 0)).setCell (p := ⟨w.heap.size, 5, none⟩) (Nat.le_refl _) (.int .u64 0)).setCell (p := ⟨w.heap.size, 6, none⟩) (Nat.le_refl _) (.int .u64 0)).setCell (p := ⟨w.heap.size, 7, none⟩) (Nat.le_refl _) (.int .i64 0)).setCell (p := ⟨w.heap.size, 8, none⟩) (Nat.le_refl _) (.int .i64 0)).setCell (p := ⟨w.heap.size, 9, none⟩) (Nat.le_refl _) (.string ⟨#[]⟩)).setCell (p := ⟨w.heap.size, 10, none⟩) (Nat.le_refl _) (.string ⟨#[]⟩)).setCell (p := ⟨w.heap.size, 11, none⟩) (Nat.le_refl _) (.string ⟨#[]⟩)).setCell (p := ⟨w.heap.size, 12, none⟩) (Nat.le_refl _) (.slice none 0 0))
  generalize (((((((((((((W15.setCell ⟨w.heap.size, 0, none⟩ (.int .i64 0)).setCell ⟨w.heap.size, 1, none⟩ (.int .i64 0)).setCell ⟨w.heap.size, 2, none⟩ (.int .u64 0)).setCell ⟨w.heap.size, 3, none⟩ (.int .i64 0)).setCell ⟨w.heap.size, 4, none⟩ (.int .u64 0)).setCell ⟨w.heap.size, 5, none⟩ (.int .u64 0)).setCell ⟨w.heap.size, 6, none⟩ (.int .u64 0)).setCell ⟨w.heap.size, 7, none⟩ (.int .i64 0)).setCell ⟨w.heap.size, 8, none⟩ (.int .i64 0)).setCell ⟨w.heap.size, 9, none⟩ (.string ⟨#[]⟩)).setCell ⟨w.heap.size, 10, none⟩ (.string ⟨#[]⟩)).setCell ⟨w.heap.size, 11, none⟩ (.string ⟨#[]⟩)).setCell ⟨w.heap.size, 12, none⟩ (.slice none 0 0)) = Fw at *
  have r0 := (cell_of_blk hfin 0).trans (rfl : _ = some (Value.int .i64 0))
  have r1 := (cell_of_blk hfin 1).trans (rfl : _ = some (Value.int .i64 0))
  have r2 := (cell_of_blk hfin 2).trans (rfl : _ = some (Value.int .u64 0))
  have r3 := (cell_of_blk hfin 3).trans (rfl : _ = some (Value.int .i64 0))
  have r4 := (cell_of_blk hfin 4).trans (rfl : _ = some (Value.int .u64 0))
  have r5 := (cell_of_blk hfin 5).trans (rfl : _ = some (Value.int .u64 0))
  have r6 := (cell_of_blk hfin 6).trans (rfl : _ = some (Value.int .u64 0))
  have r7 := (cell_of_blk hfin 7).trans (rfl : _ = some (Value.int .i64 0))
  have r8 := (cell_of_blk hfin 8).trans (rfl : _ = some (Value.int .i64 0))
  have r9 := (cell_of_blk hfin 9).trans (rfl : _ = some (Value.string ⟨#[]⟩))
  have r10 := (cell_of_blk hfin 10).trans (rfl : _ = some (Value.string ⟨#[]⟩))
  have r11 := (cell_of_blk hfin 11).trans (rfl : _ = some (Value.string ⟨#[]⟩))
  have r12 := (cell_of_blk hfin 12).trans (rfl : _ = some (Value.slice none 0 0))
  clear hfin
  refine bodyPost_ret (v := .tuple #[.agg #[.int .i64 0, .int .i64 0, .int .u64 0, .int .i64 0, .int .u64 0, .int .u64 0, .int .u64 0, .int .i64 0, .int .i64 0, .string ⟨#[]⟩, .string ⟨#[]⟩, .string ⟨#[]⟩, .slice none 0 0], .int .i64 3]) (by simp [results, Try.results15, go_sem, r0, r1, r2, r3, r4, r5, r6, r7, r8, r9, r10, r11, r12]) rfl ?_
  exact ⟨rfl, hbel⟩
end Go.Proofs.Ytcfdbdmefdffdaa
/-
  The walk of rec.Take. Printed by gentake.py.
-/
set_option linter.unusedVariables false
set_option linter.unusedSimpArgs false
namespace Go.Proofs.Ytcfdbdmefdffdaa
open Go Go.RowKit Go.Proofs.Base
open Go.Sort (grow)
set_option maxRecDepth 100000 in
set_option maxHeartbeats 8000000 in
theorem rec_Take_d (s : ByteArray) (w : World) (x0 : Nat) (s1 : ByteArray) (e1 : Nat) (x1 : Nat) (s2 : ByteArray) (e2 : Nat) (x2 : Nat) (s3 : ByteArray) (e3 : Nat) (x3 : Int) (s4 : ByteArray) (e4 : Nat) (x4 : Nat) (s5 : ByteArray) (e5 : Nat) (x5 : Nat) (s6 : ByteArray) (e6 : Nat) (x6 : Nat) (s7 : ByteArray) (e7 : Nat) (x7 : Int) (s8 : ByteArray) (e8 : Nat) (x8 : Int) (s9 : ByteArray) (e9 : Nat) (x9 : ByteArray) (s10 : ByteArray) (e10 : Nat) (x10 : ByteArray) (s11 : ByteArray) (e11 : Nat) (x11 : ByteArray) (s12 : ByteArray) (e12 : Nat) (l : List GVar) (s13 : ByteArray) (e13 : Nat) (hs : s.size ≤ 140737488351232) (hx0 : (x0 : Int) ≤ 255) (hx1 : (x1 : Int) ≤ 255) (h0 : rdByte s 0 = (x0, s1, e1)) (h1 : rdByte s1 e1 = (x1, s2, e2)) (h2 : rdUint s2 e2 = (x2, s3, e3)) (h3 : rdInt s3 e3 = (x3, s4, e4)) (h4 : rdUint s4 e4 = (x4, s5, e5)) (h5 : rdUint s5 e5 = (x5, s6, e6)) (h6 : rdUint s6 e6 = (x6, s7, e7)) (h7 : rdInt s7 e7 = (x7, s8, e8)) (h8 : rdInt s8 e8 = (x8, s9, e9)) (h9 : rdText 8192 s9 e9 = (x9, s10, e10)) (h10 : rdText 8192 s10 e10 = (x10, s11, e11)) (h11 : rdText 32 s11 e11 = (x11, s12, e12)) (hz1 : s1.size ≤ 140737488351232) (hz2 : s2.size ≤ 140737488351232) (hz3 : s3.size ≤ 140737488351232) (hz4 : s4.size ≤ 140737488351232) (hz5 : s5.size ≤ 140737488351232) (hz6 : s6.size ≤ 140737488351232) (hz7 : s7.size ≤ 140737488351232) (hz8 : s8.size ≤ 140737488351232) (hz9 : s9.size ≤ 140737488351232) (hz10 : s10.size ≤ 140737488351232) (hz11 : s11.size ≤ 140737488351232) (hz12 : s12.size ≤ 140737488351232) (h12 : takeVars s12 e12 = (some l, s13, e13)) (h13 : rdEnd s13 e13 = 0) (hwf : (⟨(x0 : Int), (x1 : Int), (x2 : Int), x3, (x4 : Int), (x5 : Int), (x6 : Int), x7, x8, x9, x10, x11, l⟩ : GRec).wf) (hM : recMay ⟨(x0 : Int), (x1 : Int), (x2 : Int), x3, (x4 : Int), (x5 : Int), (x6 : Int), x7, x8, x9, x10, x11, l⟩ = true) :
    Calls Try.prog 15 #[.string s] w fun e w' => ∃ vv, e = .returned (.tuple #[.agg #[.int .i64 (x0 : Int), .int .i64 (x1 : Int), .int .u64 (x2 : Int), .int .i64 x3, .int .u64 (x4 : Int), .int .u64 (x5 : Int), .int .u64 (x6 : Int), .int .i64 x7, .int .i64 x8, .string x9, .string x10, .string x11, vv], .int .i64 0]) ∧ Row w' (fun b => w.heap.size ≤ b) 4 l.length vv (varCells l) ∧ Below w.heap.size w w' := by
  have HZ0 := Lib.hid hs
  have HZ1 := Lib.hid hz1
  have HZ2 := Lib.hid hz2
  have HZ3 := Lib.hid hz3
  have HZ4 := Lib.hid hz4
  have HZ5 := Lib.hid hz5
  have HZ6 := Lib.hid hz6
  have HZ7 := Lib.hid hz7
  have HZ8 := Lib.hid hz8
  have HZ9 := Lib.hid hz9
  have HZ10 := Lib.hid hz10
  have HZ11 := Lib.hid hz11
  have HZ12 := Lib.hid hz12
  have H0 := Lib.hid h0
  have H1 := Lib.hid h1
  have H2 := Lib.hid h2
  have H3 := Lib.hid h3
  have H4 := Lib.hid h4
  have H5 := Lib.hid h5
  have H6 := Lib.hid h6
  have H7 := Lib.hid h7
  have H8 := Lib.hid h8
  have H9 := Lib.hid h9
  have H10 := Lib.hid h10
  have H11 := Lib.hid h11
  have H12 := Lib.hid h12
  clear hs hz1 hz2 hz3 hz4 hz5 hz6 hz7 hz8 hz9 hz10 hz11 hz12 h0 h1 h2 h3 h4 h5 h6 h7 h8 h9 h10 h11 h12
  have H13 := Lib.hid h13
  have HWF := Lib.hid hwf
  have HM := Lib.hid hM
  clear h13 hwf hM
  go_enter Try.func15, Try.ntmps15
  go_wp2_with (first | (go_at_call 25; refine (wire_Read s _).mono ?_; rintro e W0 ⟨rfl, hq0, hb0⟩; have R0 := block_below hb0 (blk_new w _ rfl); have L0 := below2 ((Below.refl _ _).alloc (Nat.le_refl _) _) hb0; rw [World.size_alloc] at hq0) | (go_at_call 26; refine (rd_Byte' (w.heap.size + 1) s 0 x0 s1 e1 _ hq0 HZ0.out H0.out).mono ?_; rintro e W1 ⟨rfl, hq1, hm1⟩; clear hb0) | (go_at_call 26; refine (rd_Byte' (w.heap.size + 1) s1 e1 x1 s2 e2 _ hq1 HZ1.out H1.out).mono ?_; rintro e W2 ⟨rfl, hq2, hm2⟩; have hg2 := lt_of_blk hq2; have T2 := Lib.hid (take_start L0 R0 hq0 hm1 hm2 hq2 #[.int .i64 (x0 : Int), .int .i64 (x1 : Int), .int .u64 0, .int .i64 0, .int .u64 0, .int .u64 0, .int .u64 0, .int .i64 0, .int .i64 0, .string ⟨#[]⟩, .string ⟨#[]⟩, .string ⟨#[]⟩, .slice none 0 0]); have n5a : w.heap.size ≠ W2.heap.size := (by have := T2.out.ng; have := T2.out.n5; omega); have n5b : W2.heap.size ≠ w.heap.size := (by have := T2.out.ng; have := T2.out.n5; omega); clear hq1 hm1 hm2 hq0 L0 R0) | (go_at_call 27; refine (rd_Uint' (w.heap.size + 1) s2 e2 x2 s3 e3 _ T2.out.rdr HZ2.out H2.out).mono ?_; rintro e W3 ⟨rfl, hq, hm⟩; have T3 : Hid (TakeAt w W3 (w.heap.size + 1) w.heap.size W2.heap.size s3 e3 #[.int .i64 (x0 : Int), .int .i64 (x1 : Int), .int .u64 0, .int .i64 0, .int .u64 0, .int .u64 0, .int .u64 0, .int .i64 0, .int .i64 0, .string ⟨#[]⟩, .string ⟨#[]⟩, .string ⟨#[]⟩, .slice none 0 0]) := Lib.hid (T2.out.call hq hm); clear hq hm T2) | (go_at_call 28; refine (rd_Int' (w.heap.size + 1) s3 e3 x3 s4 e4 _ T3.out.rdr HZ3.out H3.out).mono ?_; rintro e W4 ⟨rfl, hq, hm⟩; have T4 : Hid (TakeAt w W4 (w.heap.size + 1) w.heap.size W2.heap.size s4 e4 #[.int .i64 (x0 : Int), .int .i64 (x1 : Int), .int .u64 0, .int .i64 0, .int .u64 0, .int .u64 0, .int .u64 0, .int .i64 0, .int .i64 0, .string ⟨#[]⟩, .string ⟨#[]⟩, .string ⟨#[]⟩, .slice none 0 0]) := Lib.hid (T3.out.call hq hm); clear hq hm T3; have bb := T4.out.rcd; have c3_2 := (cell_of_blk bb 2).trans (rfl : _ = some (Value.int .u64 0)); have c3_3 := (cell_of_blk bb 3).trans (rfl : _ = some (Value.int .i64 0)); have f3_2 := frozen_of_blk bb 2; have f3_3 := frozen_of_blk bb 3; clear bb) | (go_at_call 27; refine (rd_Uint' (w.heap.size + 1) s4 e4 x4 s5 e5 _ ((T4.out.set 2 (.int .u64 x2)).set 3 (.int .i64 x3)).rdr HZ4.out H4.out).mono ?_; rintro e W5 ⟨rfl, hq, hm⟩; have T5 : Hid (TakeAt w W5 (w.heap.size + 1) w.heap.size W2.heap.size s5 e5 #[.int .i64 (x0 : Int), .int .i64 (x1 : Int), .int .u64 (x2 : Int), .int .i64 x3, .int .u64 0, .int .u64 0, .int .u64 0, .int .i64 0, .int .i64 0, .string ⟨#[]⟩, .string ⟨#[]⟩, .string ⟨#[]⟩, .slice none 0 0]) := Lib.hid (((T4.out.set 2 (.int .u64 x2)).set 3 (.int .i64 x3)).call hq hm); clear hq hm T4; clear c3_2 f3_2 c3_3 f3_3) | (go_at_call 27; refine (rd_Uint' (w.heap.size + 1) s5 e5 x5 s6 e6 _ T5.out.rdr HZ5.out H5.out).mono ?_; rintro e W6 ⟨rfl, hq, hm⟩; have T6 : Hid (TakeAt w W6 (w.heap.size + 1) w.heap.size W2.heap.size s6 e6 #[.int .i64 (x0 : Int), .int .i64 (x1 : Int), .int .u64 (x2 : Int), .int .i64 x3, .int .u64 0, .int .u64 0, .int .u64 0, .int .i64 0, .int .i64 0, .string ⟨#[]⟩, .string ⟨#[]⟩, .string ⟨#[]⟩, .slice none 0 0]) := Lib.hid (T5.out.call hq hm); clear hq hm T5) | (go_at_call 27; refine (rd_Uint' (w.heap.size + 1) s6 e6 x6 s7 e7 _ T6.out.rdr HZ6.out H6.out).mono ?_; rintro e W7 ⟨rfl, hq, hm⟩; have T7 : Hid (TakeAt w W7 (w.heap.size + 1) w.heap.size W2.heap.size s7 e7 #[.int .i64 (x0 : Int), .int .i64 (x1 : Int), .int .u64 (x2 : Int), .int .i64 x3, .int .u64 0, .int .u64 0, .int .u64 0, .int .i64 0, .int .i64 0, .string ⟨#[]⟩, .string ⟨#[]⟩, .string ⟨#[]⟩, .slice none 0 0]) := Lib.hid (T6.out.call hq hm); clear hq hm T6; have bb := T7.out.rcd; have c6_4 := (cell_of_blk bb 4).trans (rfl : _ = some (Value.int .u64 0)); have c6_5 := (cell_of_blk bb 5).trans (rfl : _ = some (Value.int .u64 0)); have c6_6 := (cell_of_blk bb 6).trans (rfl : _ = some (Value.int .u64 0)); have f6_4 := frozen_of_blk bb 4; have f6_5 := frozen_of_blk bb 5; have f6_6 := frozen_of_blk bb 6; clear bb) | (go_at_call 28; refine (rd_Int' (w.heap.size + 1) s7 e7 x7 s8 e8 _ (((T7.out.set 4 (.int .u64 x4)).set 5 (.int .u64 x5)).set 6 (.int .u64 x6)).rdr HZ7.out H7.out).mono ?_; rintro e W8 ⟨rfl, hq, hm⟩; have T8 : Hid (TakeAt w W8 (w.heap.size + 1) w.heap.size W2.heap.size s8 e8 #[.int .i64 (x0 : Int), .int .i64 (x1 : Int), .int .u64 (x2 : Int), .int .i64 x3, .int .u64 (x4 : Int), .int .u64 (x5 : Int), .int .u64 (x6 : Int), .int .i64 0, .int .i64 0, .string ⟨#[]⟩, .string ⟨#[]⟩, .string ⟨#[]⟩, .slice none 0 0]) := Lib.hid ((((T7.out.set 4 (.int .u64 x4)).set 5 (.int .u64 x5)).set 6 (.int .u64 x6)).call hq hm); clear hq hm T7; clear c6_4 f6_4 c6_5 f6_5 c6_6 f6_6) | (go_at_call 28; refine (rd_Int' (w.heap.size + 1) s8 e8 x8 s9 e9 _ T8.out.rdr HZ8.out H8.out).mono ?_; rintro e W9 ⟨rfl, hq, hm⟩; have T9 : Hid (TakeAt w W9 (w.heap.size + 1) w.heap.size W2.heap.size s9 e9 #[.int .i64 (x0 : Int), .int .i64 (x1 : Int), .int .u64 (x2 : Int), .int .i64 x3, .int .u64 (x4 : Int), .int .u64 (x5 : Int), .int .u64 (x6 : Int), .int .i64 0, .int .i64 0, .string ⟨#[]⟩, .string ⟨#[]⟩, .string ⟨#[]⟩, .slice none 0 0]) := Lib.hid (T8.out.call hq hm); clear hq hm T8; have bb := T9.out.rcd; have c8_7 := (cell_of_blk bb 7).trans (rfl : _ = some (Value.int .i64 0)); have c8_8 := (cell_of_blk bb 8).trans (rfl : _ = some (Value.int .i64 0)); have f8_7 := frozen_of_blk bb 7; have f8_8 := frozen_of_blk bb 8; clear bb) | (go_at_call 29; refine (rd_Text' (w.heap.size + 1) s9 e9 8192 x9 s10 e10 _ ((T9.out.set 7 (.int .i64 x7)).set 8 (.int .i64 x8)).rdr HZ9.out (by decide) (by decide) H9.out).mono ?_; rintro e W10 ⟨rfl, hq, hm⟩; have T10 : Hid (TakeAt w W10 (w.heap.size + 1) w.heap.size W2.heap.size s10 e10 #[.int .i64 (x0 : Int), .int .i64 (x1 : Int), .int .u64 (x2 : Int), .int .i64 x3, .int .u64 (x4 : Int), .int .u64 (x5 : Int), .int .u64 (x6 : Int), .int .i64 x7, .int .i64 x8, .string ⟨#[]⟩, .string ⟨#[]⟩, .string ⟨#[]⟩, .slice none 0 0]) := Lib.hid (((T9.out.set 7 (.int .i64 x7)).set 8 (.int .i64 x8)).call hq hm); clear hq hm T9; clear c8_7 f8_7 c8_8 f8_8) | (go_at_call 29; refine (rd_Text' (w.heap.size + 1) s10 e10 8192 x10 s11 e11 _ T10.out.rdr HZ10.out (by decide) (by decide) H10.out).mono ?_; rintro e W11 ⟨rfl, hq, hm⟩; have T11 : Hid (TakeAt w W11 (w.heap.size + 1) w.heap.size W2.heap.size s11 e11 #[.int .i64 (x0 : Int), .int .i64 (x1 : Int), .int .u64 (x2 : Int), .int .i64 x3, .int .u64 (x4 : Int), .int .u64 (x5 : Int), .int .u64 (x6 : Int), .int .i64 x7, .int .i64 x8, .string ⟨#[]⟩, .string ⟨#[]⟩, .string ⟨#[]⟩, .slice none 0 0]) := Lib.hid (T10.out.call hq hm); clear hq hm T10) | (go_at_call 29; refine (rd_Text' (w.heap.size + 1) s11 e11 32 x11 s12 e12 _ T11.out.rdr HZ11.out (by decide) (by decide) H11.out).mono ?_; rintro e W12 ⟨rfl, hq, hm⟩; have T12 : Hid (TakeAt w W12 (w.heap.size + 1) w.heap.size W2.heap.size s12 e12 #[.int .i64 (x0 : Int), .int .i64 (x1 : Int), .int .u64 (x2 : Int), .int .i64 x3, .int .u64 (x4 : Int), .int .u64 (x5 : Int), .int .u64 (x6 : Int), .int .i64 x7, .int .i64 x8, .string ⟨#[]⟩, .string ⟨#[]⟩, .string ⟨#[]⟩, .slice none 0 0]) := Lib.hid (T11.out.call hq hm); clear hq hm T11; have bb := T12.out.rcd; have c11_9 := (cell_of_blk bb 9).trans (rfl : _ = some (Value.string ⟨#[]⟩)); have c11_10 := (cell_of_blk bb 10).trans (rfl : _ = some (Value.string ⟨#[]⟩)); have c11_11 := (cell_of_blk bb 11).trans (rfl : _ = some (Value.string ⟨#[]⟩)); have f11_9 := frozen_of_blk bb 9; have f11_10 := frozen_of_blk bb 10; have f11_11 := frozen_of_blk bb 11; clear bb) | (go_at_call 30; refine (val_TakeVars' (w.heap.size + 1) s12 e12 (some l) l true s13 e13 _ (((T12.out.set 9 (.string x9)).set 10 (.string x10)).set 11 (.string x11)).rdr HZ12.out H12.out rfl rfl).mono ?_; rintro e W13 ⟨A, c, rfl, hrow, hq, hm⟩; have T13 : Hid (TakeAt w W13 (w.heap.size + 1) w.heap.size W2.heap.size s13 e13 #[.int .i64 (x0 : Int), .int .i64 (x1 : Int), .int .u64 (x2 : Int), .int .i64 x3, .int .u64 (x4 : Int), .int .u64 (x5 : Int), .int .u64 (x6 : Int), .int .i64 x7, .int .i64 x8, .string x9, .string x10, .string x11, .slice none 0 0]) := Lib.hid ((((T12.out.set 9 (.string x9)).set 10 (.string x10)).set 11 (.string x11)).call hq hm); have hlt := lt_of_blk (((T12.out.set 9 (.string x9)).set 10 (.string x10)).set 11 (.string x11)).rcd; have HLT := Lib.hid hlt; have HR13 := Lib.hid (row_set (w := W13) hrow hlt (.slice A (l).length c)); clear hq hm hrow hlt T12 c11_9 f11_9 c11_10 f11_10 c11_11 f11_11; have bb := T13.out.rcd; have d0 := (cell_of_blk bb 0).trans (rfl : _ = some (Value.int .i64 (x0 : Int))); have d1 := (cell_of_blk bb 1).trans (rfl : _ = some (Value.int .i64 (x1 : Int))); have d2 := (cell_of_blk bb 2).trans (rfl : _ = some (Value.int .u64 (x2 : Int))); have d3 := (cell_of_blk bb 3).trans (rfl : _ = some (Value.int .i64 x3)); have d4 := (cell_of_blk bb 4).trans (rfl : _ = some (Value.int .u64 (x4 : Int))); have d5 := (cell_of_blk bb 5).trans (rfl : _ = some (Value.int .u64 (x5 : Int))); have d6 := (cell_of_blk bb 6).trans (rfl : _ = some (Value.int .u64 (x6 : Int))); have d7 := (cell_of_blk bb 7).trans (rfl : _ = some (Value.int .i64 x7)); have d8 := (cell_of_blk bb 8).trans (rfl : _ = some (Value.int .i64 x8)); have d9 := (cell_of_blk bb 9).trans (rfl : _ = some (Value.string x9)); have d10 := (cell_of_blk bb 10).trans (rfl : _ = some (Value.string x10)); have d11 := (cell_of_blk bb 11).trans (rfl : _ = some (Value.string x11)); have d12 := (cell_of_blk bb 12).trans (rfl : _ = some (Value.slice none 0 0)); have df12 := frozen_of_blk bb 12; have br := T13.out.res; have z0 := (cell_of_blk br 0).trans (rfl : _ = some (Value.int .i64 0)); have z1 := (cell_of_blk br 1).trans (rfl : _ = some (Value.int .i64 0)); have z2 := (cell_of_blk br 2).trans (rfl : _ = some (Value.int .u64 0)); have z3 := (cell_of_blk br 3).trans (rfl : _ = some (Value.int .i64 0)); have z4 := (cell_of_blk br 4).trans (rfl : _ = some (Value.int .u64 0)); have z5 := (cell_of_blk br 5).trans (rfl : _ = some (Value.int .u64 0)); have z6 := (cell_of_blk br 6).trans (rfl : _ = some (Value.int .u64 0)); have z7 := (cell_of_blk br 7).trans (rfl : _ = some (Value.int .i64 0)); have z8 := (cell_of_blk br 8).trans (rfl : _ = some (Value.int .i64 0)); have z9 := (cell_of_blk br 9).trans (rfl : _ = some (Value.string ⟨#[]⟩)); have z10 := (cell_of_blk br 10).trans (rfl : _ = some (Value.string ⟨#[]⟩)); have z11 := (cell_of_blk br 11).trans (rfl : _ = some (Value.string ⟨#[]⟩)); have z12 := (cell_of_blk br 12).trans (rfl : _ = some (Value.slice none 0 0)); have zf0 := frozen_of_blk br 0; have zf1 := frozen_of_blk br 1; have zf2 := frozen_of_blk br 2; have zf3 := frozen_of_blk br 3; have zf4 := frozen_of_blk br 4; have zf5 := frozen_of_blk br 5; have zf6 := frozen_of_blk br 6; have zf7 := frozen_of_blk br 7; have zf8 := frozen_of_blk br 8; have zf9 := frozen_of_blk br 9; have zf10 := frozen_of_blk br 10; have zf11 := frozen_of_blk br 11; have zf12 := frozen_of_blk br 12; clear bb br) | (go_at_call 31; refine (rd_End' (w.heap.size + 1) s13 e13 0 _ (T13.out.set 12 (.slice A l.length c)).rdr H13.out).mono ?_; rintro e w' ⟨rfl, rfl⟩) | (go_at_call 11; refine (rec_May' ⟨(x0 : Int), (x1 : Int), (x2 : Int), x3, (x4 : Int), (x5 : Int), (x6 : Int), x7, x8, x9, x10, x11, l⟩ true (.slice A l.length c) _ _ HR13.out HWF.out HM.out).mono ?_; rintro e W15 ⟨rfl, hb15⟩; have T15 := Lib.hid (((T13.out.set 12 (.slice A l.length c)).below hb15) : TakeAt w W15 (w.heap.size + 1) w.heap.size W2.heap.size s13 e13 #[.int .i64 (x0 : Int), .int .i64 (x1 : Int), .int .u64 (x2 : Int), .int .i64 x3, .int .u64 (x4 : Int), .int .u64 (x5 : Int), .int .u64 (x6 : Int), .int .i64 x7, .int .i64 x8, .string x9, .string x10, .string x11, .slice A l.length c]); have HR15 := Lib.hid (HR13.out.below hb15); clear hb15 d0 d1 d2 d3 d4 d5 d6 d7 d8 d9 d10 d11 d12 df12 z0 zf0 z1 zf1 z2 zf2 z3 zf3 z4 zf4 z5 zf5 z6 zf6 z7 zf7 z8 zf8 z9 zf9 z10 zf10 z11 zf11 z12 zf12; have bb := T15.out.rcd; have d0 := (cell_of_blk bb 0).trans (rfl : _ = some (Value.int .i64 (x0 : Int))); have d1 := (cell_of_blk bb 1).trans (rfl : _ = some (Value.int .i64 (x1 : Int))); have d2 := (cell_of_blk bb 2).trans (rfl : _ = some (Value.int .u64 (x2 : Int))); have d3 := (cell_of_blk bb 3).trans (rfl : _ = some (Value.int .i64 x3)); have d4 := (cell_of_blk bb 4).trans (rfl : _ = some (Value.int .u64 (x4 : Int))); have d5 := (cell_of_blk bb 5).trans (rfl : _ = some (Value.int .u64 (x5 : Int))); have d6 := (cell_of_blk bb 6).trans (rfl : _ = some (Value.int .u64 (x6 : Int))); have d7 := (cell_of_blk bb 7).trans (rfl : _ = some (Value.int .i64 x7)); have d8 := (cell_of_blk bb 8).trans (rfl : _ = some (Value.int .i64 x8)); have d9 := (cell_of_blk bb 9).trans (rfl : _ = some (Value.string x9)); have d10 := (cell_of_blk bb 10).trans (rfl : _ = some (Value.string x10)); have d11 := (cell_of_blk bb 11).trans (rfl : _ = some (Value.string x11)); have d12 := (cell_of_blk bb 12).trans (rfl : _ = some (Value.slice A l.length c)); have br := T15.out.res; have z0 := (cell_of_blk br 0).trans (rfl : _ = some (Value.int .i64 0)); have z1 := (cell_of_blk br 1).trans (rfl : _ = some (Value.int .i64 0)); have z2 := (cell_of_blk br 2).trans (rfl : _ = some (Value.int .u64 0)); have z3 := (cell_of_blk br 3).trans (rfl : _ = some (Value.int .i64 0)); have z4 := (cell_of_blk br 4).trans (rfl : _ = some (Value.int .u64 0)); have z5 := (cell_of_blk br 5).trans (rfl : _ = some (Value.int .u64 0)); have z6 := (cell_of_blk br 6).trans (rfl : _ = some (Value.int .u64 0)); have z7 := (cell_of_blk br 7).trans (rfl : _ = some (Value.int .i64 0)); have z8 := (cell_of_blk br 8).trans (rfl : _ = some (Value.int .i64 0)); have z9 := (cell_of_blk br 9).trans (rfl : _ = some (Value.string ⟨#[]⟩)); have z10 := (cell_of_blk br 10).trans (rfl : _ = some (Value.string ⟨#[]⟩)); have z11 := (cell_of_blk br 11).trans (rfl : _ = some (Value.string ⟨#[]⟩)); have z12 := (cell_of_blk br 12).trans (rfl : _ = some (Value.slice none 0 0)); have zf0 := frozen_of_blk br 0; have zf1 := frozen_of_blk br 1; have zf2 := frozen_of_blk br 2; have zf3 := frozen_of_blk br 3; have zf4 := frozen_of_blk br 4; have zf5 := frozen_of_blk br 5; have zf6 := frozen_of_blk br 6; have zf7 := frozen_of_blk br 7; have zf8 := frozen_of_blk br 8; have zf9 := frozen_of_blk br 9; have zf10 := frozen_of_blk br 10; have zf11 := frozen_of_blk br 11; have zf12 := frozen_of_blk br 12; clear bb br))
  have hfin := set_blk13 T15.out.res (.int .i64 (x0 : Int)) (.int .i64 (x1 : Int)) (.int .u64 (x2 : Int)) (.int .i64 x3) (.int .u64 (x4 : Int)) (.int .u64 (x5 : Int)) (.int .u64 (x6 : Int)) (.int .i64 x7) (.int .i64 x8) (.string x9) (.string x10) (.string x11) (.slice A l.length c)
  have hbel := (((((((((((((T15.out.low.setCell (p := ⟨w.heap.size, 0, none⟩) (Nat.le_refl _) (.int .i64 (x0 : Int))).setCell (p := ⟨w.heap.size, 1, none⟩) (Nat.le_refl _) (.int .i64 (x1 : Int))).setCell (p := ⟨w.heap.size, 2, none⟩) (Nat.le_refl _) (.int .u64 (x2 : Int))).setCell (p := ⟨w.heap.size, 3, none⟩) (Nat.le_refl _) (.int .i64 x3)).setCell (p := ⟨w.heap.size, 4, none⟩) (Nat.le_refl _) (.int .u64 (x4 : Int))).setCell (p := ⟨w.heap.size, 5, none⟩) (Nat.le_refl _) (.int .u64 (x5 : Int))).setCell (p := ⟨w.heap.size, 6, none⟩) (Nat.le_refl _) (.int .u64 (x6 : Int))).setCell (p := ⟨w.heap.size, 7, none⟩) (Nat.le_refl _) (.int .i64 x7)).setCell (p := ⟨w.heap.size, 8, none⟩) (Nat.le_refl _) (.int .i64 x8)).setCell (p := ⟨w.heap.size, 9, none⟩) (Nat.le_refl _) (.string x9)).setCell (p := ⟨w.heap.size, 10, none⟩) (Nat.le_refl _) (.string x10)).setCell (p := ⟨w.heap.size, 11, none⟩) (Nat.le_refl _) (.string x11)).setCell (p := ⟨w.heap.size, 12, none⟩) (Nat.le_refl _) (.slice A l.length c))
  have hrow9 := row_fin T15.out HR15.out HLT.out (y0 := .int .i64 (x0 : Int)) (y1 := .int .i64 (x1 : Int)) (y2 := .int .u64 (x2 : Int)) (y3 := .int .i64 x3) (y4 := .int .u64 (x4 : Int)) (y5 := .int .u64 (x5 : Int)) (y6 := .int .u64 (x6 : Int)) (y7 := .int .i64 x7) (y8 := .int .i64 x8) (y9 := .string x9) (y10 := .string x10) (y11 := .string x11) (y12 := .slice A l.length c)
  generalize (((((((((((((W15.setCell ⟨w.heap.size, 0, none⟩ (.int .i64 (x0 : Int))).setCell ⟨w.heap.size, 1, none⟩ (.int .i64 (x1 : Int))).setCell ⟨w.heap.size, 2, none⟩ (.int .u64 (x2 : Int))).setCell ⟨w.heap.size, 3, none⟩ (.int .i64 x3)).setCell ⟨w.heap.size, 4, none⟩ (.int .u64 (x4 : Int))).setCell ⟨w.heap.size, 5, none⟩ (.int .u64 (x5 : Int))).setCell ⟨w.heap.size, 6, none⟩ (.int .u64 (x6 : Int))).setCell ⟨w.heap.size, 7, none⟩ (.int .i64 x7)).setCell ⟨w.heap.size, 8, none⟩ (.int .i64 x8)).setCell ⟨w.heap.size, 9, none⟩ (.string x9)).setCell ⟨w.heap.size, 10, none⟩ (.string x10)).setCell ⟨w.heap.size, 11, none⟩ (.string x11)).setCell ⟨w.heap.size, 12, none⟩ (.slice A l.length c)) = Fw at *
  have r0 := (cell_of_blk hfin 0).trans (rfl : _ = some (Value.int .i64 (x0 : Int)))
  have r1 := (cell_of_blk hfin 1).trans (rfl : _ = some (Value.int .i64 (x1 : Int)))
  have r2 := (cell_of_blk hfin 2).trans (rfl : _ = some (Value.int .u64 (x2 : Int)))
  have r3 := (cell_of_blk hfin 3).trans (rfl : _ = some (Value.int .i64 x3))
  have r4 := (cell_of_blk hfin 4).trans (rfl : _ = some (Value.int .u64 (x4 : Int)))
  have r5 := (cell_of_blk hfin 5).trans (rfl : _ = some (Value.int .u64 (x5 : Int)))
  have r6 := (cell_of_blk hfin 6).trans (rfl : _ = some (Value.int .u64 (x6 : Int)))
  have r7 := (cell_of_blk hfin 7).trans (rfl : _ = some (Value.int .i64 x7))
  have r8 := (cell_of_blk hfin 8).trans (rfl : _ = some (Value.int .i64 x8))
  have r9 := (cell_of_blk hfin 9).trans (rfl : _ = some (Value.string x9))
  have r10 := (cell_of_blk hfin 10).trans (rfl : _ = some (Value.string x10))
  have r11 := (cell_of_blk hfin 11).trans (rfl : _ = some (Value.string x11))
  have r12 := (cell_of_blk hfin 12).trans (rfl : _ = some (Value.slice A l.length c))
  clear hfin
  refine bodyPost_ret (v := .tuple #[.agg #[.int .i64 (x0 : Int), .int .i64 (x1 : Int), .int .u64 (x2 : Int), .int .i64 x3, .int .u64 (x4 : Int), .int .u64 (x5 : Int), .int .u64 (x6 : Int), .int .i64 x7, .int .i64 x8, .string x9, .string x10, .string x11, .slice A l.length c], .int .i64 0]) (by simp [results, Try.results15, go_sem, r0, r1, r2, r3, r4, r5, r6, r7, r8, r9, r10, r11, r12]) rfl ?_
  exact ⟨_, rfl, hrow9, hbel⟩
end Go.Proofs.Ytcfdbdmefdffdaa
/-
  rec.Take: its contract. Printed by gentaket.py.
-/
set_option linter.unusedVariables false
set_option linter.unusedSimpArgs false
namespace Go.Proofs.Ytcfdbdmefdffdaa
open Go Go.RowKit Go.Proofs.Base
theorem takeGo_wf : ∀ (m : Nat) (s : ByteArray) (e : Nat) (acc L : List GVar) (s' : ByteArray) (e' : Nat), s.size ≤ 140737488351232 → (∀ x ∈ acc, x.wf) → takeGo m s e acc = (some L, s', e') → ∀ x ∈ L, x.wf
  | 0, s, e, acc, L, s', e', hs, ha, h => by
    unfold takeGo at h
    simp only [Prod.mk.injEq, Option.some.injEq] at h
    rw [← h.1]; exact ha
  | m + 1, s, e, acc, L, s', e', hs, ha, h => by
    unfold takeGo at h
    have h1 := rdText_size 32 s e
    have h2 := rdText_res 32 s e
    generalize rdText 32 s e = q at *
    obtain ⟨nm, s1, e1⟩ := q
    simp only at *
    by_cases ok : takeOk s1 e1 = true
    · rw [if_pos ok] at h
      have h3 := takeRaw_size s1 e1
      refine takeGo_wf m _ _ _ L s' e' (by omega) ?_ h
      intro x hx
      rcases List.mem_append.1 hx with hx | hx
      · exact ha x hx
      · rw [List.mem_singleton.1 hx]
        exact ⟨Nat.le_trans h2 hs, takeV_wf (by omega)⟩
    · rw [if_neg ok] at h
      simp at h
theorem takeVars_wf {s s' : ByteArray} {e e' : Nat} {l : List GVar} (hs : s.size ≤ 140737488351232) (h : takeVars s e = (some l, s', e')) : ∀ x ∈ l, x.wf := by
  unfold takeVars at h
  have h1 := rdUint_size s e
  generalize rdUint s e = q at *
  obtain ⟨n, s1, e1⟩ := q
  simp only at *
  split at h
  · simp at h
  · generalize hq2 : takeGo n s1 e1 [] = q2 at h
    obtain ⟨o, s2, e2⟩ := q2
    cases o with
    | none => simp [takeFin] at h
    | some L =>
      unfold takeFin at h
      simp only at h
      split at h
      · simp only [Prod.mk.injEq, Option.some.injEq] at h
        rw [← h.1]
        exact takeGo_wf _ _ _ _ _ _ _ (by omega) (fun x hx => by cases hx) hq2
      · simp at h
theorem takeVars_size (s : ByteArray) (e : Nat) : (takeVars s e).2.1.size ≤ s.size := by
  unfold takeVars
  have h1 := rdUint_size s e
  split
  · exact h1
  · have h2 := takeGo_size (rdUint s e).1 (rdUint s e).2.1 (rdUint s e).2.2 []
    generalize takeGo (rdUint s e).1 (rdUint s e).2.1 (rdUint s e).2.2 [] = q at *
    obtain ⟨o, s2, e2⟩ := q
    cases o with
    | none => exact Nat.le_trans h2 h1
    | some L =>
      unfold takeFin
      simp only
      split
      · exact Nat.le_trans h2 h1
      · exact Nat.le_trans h2 h1
def TakePost (w : World) (o : Option GRec) (e : Ending) (w' : World) : Prop :=
  match o with
  | none => e = .returned (.tuple #[.agg #[.int .i64 0, .int .i64 0, .int .u64 0, .int .i64 0, .int .u64 0, .int .u64 0, .int .u64 0, .int .i64 0, .int .i64 0, .string ⟨#[]⟩, .string ⟨#[]⟩, .string ⟨#[]⟩, .slice none 0 0], .int .i64 3]) ∧ Below w.heap.size w w'
  | some r => ∃ vv, e = .returned (.tuple #[.agg #[.int .i64 r.cls, .int .i64 r.kind, .int .u64 r.frm, .int .i64 r.time, .int .u64 r.key, .int .u64 r.key2, .int .u64 r.key3, .int .i64 r.n, .int .i64 r.m, .string r.a, .string r.b, .string r.c, vv], .int .i64 0]) ∧ Row w' (fun b => w.heap.size ≤ b) 4 r.vars.length vv (varCells r.vars) ∧ Below w.heap.size w w'
theorem rec_Take (s : ByteArray) (w : World) (hs : s.size ≤ 140737488351232) :
    Calls Try.prog 15 #[.string s] w (TakePost w (recTake s)) := by
  have d0 : rdByte s 0 = tk0 s := rfl
  have z0 := rdByte_size s 0
  have y0 := rdByte_lt s 0
  rw [d0] at z0 y0
  have d1 : rdByte (tk0 s).2.1 (tk0 s).2.2 = tk1 s := rfl
  have z1 := rdByte_size (tk0 s).2.1 (tk0 s).2.2
  have y1 := rdByte_lt (tk0 s).2.1 (tk0 s).2.2
  rw [d1] at z1 y1
  have d2 : rdUint (tk1 s).2.1 (tk1 s).2.2 = tk2 s := rfl
  have z2 := rdUint_size (tk1 s).2.1 (tk1 s).2.2
  have y2 := rdUint_lt (tk1 s).2.1 (tk1 s).2.2
  rw [d2] at z2 y2
  have d3 : rdInt (tk2 s).2.1 (tk2 s).2.2 = tk3 s := rfl
  have z3 := rdInt_size (tk2 s).2.1 (tk2 s).2.2
  have y3 := rdInt_i64 (tk2 s).2.1 (tk2 s).2.2
  rw [d3] at z3 y3
  have d4 : rdUint (tk3 s).2.1 (tk3 s).2.2 = tk4 s := rfl
  have z4 := rdUint_size (tk3 s).2.1 (tk3 s).2.2
  have y4 := rdUint_lt (tk3 s).2.1 (tk3 s).2.2
  rw [d4] at z4 y4
  have d5 : rdUint (tk4 s).2.1 (tk4 s).2.2 = tk5 s := rfl
  have z5 := rdUint_size (tk4 s).2.1 (tk4 s).2.2
  have y5 := rdUint_lt (tk4 s).2.1 (tk4 s).2.2
  rw [d5] at z5 y5
  have d6 : rdUint (tk5 s).2.1 (tk5 s).2.2 = tk6 s := rfl
  have z6 := rdUint_size (tk5 s).2.1 (tk5 s).2.2
  have y6 := rdUint_lt (tk5 s).2.1 (tk5 s).2.2
  rw [d6] at z6 y6
  have d7 : rdInt (tk6 s).2.1 (tk6 s).2.2 = tk7 s := rfl
  have z7 := rdInt_size (tk6 s).2.1 (tk6 s).2.2
  have y7 := rdInt_i64 (tk6 s).2.1 (tk6 s).2.2
  rw [d7] at z7 y7
  have d8 : rdInt (tk7 s).2.1 (tk7 s).2.2 = tk8 s := rfl
  have z8 := rdInt_size (tk7 s).2.1 (tk7 s).2.2
  have y8 := rdInt_i64 (tk7 s).2.1 (tk7 s).2.2
  rw [d8] at z8 y8
  have d9 : rdText 8192 (tk8 s).2.1 (tk8 s).2.2 = tk9 s := rfl
  have z9 := rdText_size 8192 (tk8 s).2.1 (tk8 s).2.2
  have y9 := rdText_res 8192 (tk8 s).2.1 (tk8 s).2.2
  rw [d9] at z9 y9
  have d10 : rdText 8192 (tk9 s).2.1 (tk9 s).2.2 = tk10 s := rfl
  have z10 := rdText_size 8192 (tk9 s).2.1 (tk9 s).2.2
  have y10 := rdText_res 8192 (tk9 s).2.1 (tk9 s).2.2
  rw [d10] at z10 y10
  have d11 : rdText 32 (tk10 s).2.1 (tk10 s).2.2 = tk11 s := rfl
  have z11 := rdText_size 32 (tk10 s).2.1 (tk10 s).2.2
  have y11 := rdText_res 32 (tk10 s).2.1 (tk10 s).2.2
  rw [d11] at z11 y11
  have d12 : takeVars (tk11 s).2.1 (tk11 s).2.2 = tk12 s := rfl
  unfold recTake tkRec
  generalize tk0 s = q0 at *
  generalize tk1 s = q1 at *
  generalize tk2 s = q2 at *
  generalize tk3 s = q3 at *
  generalize tk4 s = q4 at *
  generalize tk5 s = q5 at *
  generalize tk6 s = q6 at *
  generalize tk7 s = q7 at *
  generalize tk8 s = q8 at *
  generalize tk9 s = q9 at *
  generalize tk10 s = q10 at *
  generalize tk11 s = q11 at *
  generalize tk12 s = q12 at *
  obtain ⟨x0, s1, e1⟩ := q0
  obtain ⟨x1, s2, e2⟩ := q1
  obtain ⟨x2, s3, e3⟩ := q2
  obtain ⟨x3, s4, e4⟩ := q3
  obtain ⟨x4, s5, e5⟩ := q4
  obtain ⟨x5, s6, e6⟩ := q5
  obtain ⟨x6, s7, e7⟩ := q6
  obtain ⟨x7, s8, e8⟩ := q7
  obtain ⟨x8, s9, e9⟩ := q8
  obtain ⟨x9, s10, e10⟩ := q9
  obtain ⟨x10, s11, e11⟩ := q10
  obtain ⟨x11, s12, e12⟩ := q11
  obtain ⟨o, s13, e13⟩ := q12
  simp only at *
  have u1 : s1.size ≤ 140737488351232 := by omega
  have u2 : s2.size ≤ 140737488351232 := by omega
  have u3 : s3.size ≤ 140737488351232 := by omega
  have u4 : s4.size ≤ 140737488351232 := by omega
  have u5 : s5.size ≤ 140737488351232 := by omega
  have u6 : s6.size ≤ 140737488351232 := by omega
  have u7 : s7.size ≤ 140737488351232 := by omega
  have u8 : s8.size ≤ 140737488351232 := by omega
  have u9 : s9.size ≤ 140737488351232 := by omega
  have u10 : s10.size ≤ 140737488351232 := by omega
  have u11 : s11.size ≤ 140737488351232 := by omega
  have u12 : s12.size ≤ 140737488351232 := by omega
  cases o with
  | none => exact rec_Take_a s w x0 s1 e1 x1 s2 e2 x2 s3 e3 x3 s4 e4 x4 s5 e5 x5 s6 e6 x6 s7 e7 x7 s8 e8 x8 s9 e9 x9 s10 e10 x10 s11 e11 x11 s12 e12 s13 e13 hs (by omega) (by omega) d0 d1 d2 d3 d4 d5 d6 d7 d8 d9 d10 d11 u1 u2 u3 u4 u5 u6 u7 u8 u9 u10 u11 u12 d12
  | some l =>
    simp only
    have hl := takeVars_wf u12 d12
    have hwf : (⟨(x0 : Int), (x1 : Int), (x2 : Int), x3, (x4 : Int), (x5 : Int), (x6 : Int), x7, x8, x9, x10, x11, l⟩ : GRec).wf := ⟨(⟨by omega, by omega⟩ : i64 (x0 : Int)), (⟨by omega, by omega⟩ : i64 (x1 : Int)), (⟨by omega, by omega⟩ : u64 (x2 : Int)), y3, (⟨by omega, by omega⟩ : u64 (x4 : Int)), (⟨by omega, by omega⟩ : u64 (x5 : Int)), (⟨by omega, by omega⟩ : u64 (x6 : Int)), y7, y8, (show x9.size ≤ _ by omega), (show x10.size ≤ _ by omega), (show x11.size ≤ _ by omega), hl⟩
    by_cases he : rdEnd s13 e13 = 0
    · split
      · rename_i hc
        exact rec_Take_d s w x0 s1 e1 x1 s2 e2 x2 s3 e3 x3 s4 e4 x4 s5 e5 x5 s6 e6 x6 s7 e7 x7 s8 e8 x8 s9 e9 x9 s10 e10 x10 s11 e11 x11 s12 e12 l s13 e13 hs (by omega) (by omega) d0 d1 d2 d3 d4 d5 d6 d7 d8 d9 d10 d11 u1 u2 u3 u4 u5 u6 u7 u8 u9 u10 u11 u12 d12 he hwf hc.2
      · rename_i hc
        exact rec_Take_c s w x0 s1 e1 x1 s2 e2 x2 s3 e3 x3 s4 e4 x4 s5 e5 x5 s6 e6 x6 s7 e7 x7 s8 e8 x8 s9 e9 x9 s10 e10 x10 s11 e11 x11 s12 e12 l s13 e13 hs (by omega) (by omega) d0 d1 d2 d3 d4 d5 d6 d7 d8 d9 d10 d11 u1 u2 u3 u4 u5 u6 u7 u8 u9 u10 u11 u12 d12 he hwf (by
          rw [Bool.eq_false_iff]
          exact fun hm => hc ⟨he, hm⟩)
    · rw [if_neg (fun hc => he hc.1)]
      exact rec_Take_b s w x0 s1 e1 x1 s2 e2 x2 s3 e3 x3 s4 e4 x4 s5 e5 x5 s6 e6 x6 s7 e7 x7 s8 e8 x8 s9 e9 x9 s10 e10 x10 s11 e11 x11 s12 e12 l s13 e13 hs (by omega) (by omega) d0 d1 d2 d3 d4 d5 d6 d7 d8 d9 d10 d11 u1 u2 u3 u4 u5 u6 u7 u8 u9 u10 u11 u12 d12 _ rfl he
end Go.Proofs.Ytcfdbdmefdffdaa
/-
  The walks of the reference's writers: Uint, Int, Text.
-/
set_option linter.unusedVariables false
set_option linter.unusedSimpArgs false
namespace Go.Proofs.Ytcfdbdmefdffdaa
open Go Go.RowKit Go.Proofs.Base
theorem ofN_append (a b : List Nat) : ofN (a ++ b) = ofN a ++ ofN b := by
  apply toL_inj
  rw [toL_append, toL_ofN, toL_ofN, toL_ofN, List.map_append]
set_option maxRecDepth 100000 in
set_option maxHeartbeats 1000000 in
theorem ref_Uint (v : Int) (w : World) (h0 : 0 ≤ v) (h1 : v ≤ 18446744073709551615) :
    Calls Try.prog 47 #[.int .u64 v] w fun e w' => e = .returned (.string (uintB v.toNat)) ∧ Below w.heap.size w w' := by
  have hlen : (uintN v.toNat).length ≤ 10 := uintN_len10 (by omega)
  have H1 := Lib.hid h1
  have Hlen := Lib.hid hlen
  clear h1 hlen
  go_enter Try.func47, Try.ntmps47
  go_wp2_with fail
  go_loopw [0, 3] (fun a b wr => ∃ (u : Nat) (xs : List Nat), a = .int .u64 u ∧ (u : Int) ≤ v ∧ Hid (xs ++ uintN u = uintN v.toNat) ∧ b = .string (ofN xs) ∧ Below w.heap.size w wr) (fun a _ _ => (intOf a).toNat)
  case atStart => exact ⟨v.toNat, [], by rw [Int.toNat_of_nonneg h0], by omega, Lib.hid rfl, rfl, Below.refl _ _⟩
  case round =>
    obtain ⟨u, xs, rfl, hu, HX, rfl, HB⟩ := hrel
    have hl2 : xs.length + (uintN u).length ≤ 10 := by have := congrArg List.length HX.out; have h9 := Hlen.out; rw [List.length_append] at this; omega
    have hp := uintN_pos u
    have hsz := ofN_size xs
    have hlit := fun (x : Nat) => lit_string (P := Try.prog) Try.underlying67 Try.underlying5 Try.underlying9 wr [x] 1 rfl (by omega)
    have hbel := fun (x : Nat) => HB.alloc HB.size (.cells #[.int .u8 (x : Int)] 5)
    have hap := fun (x : Nat) => ofN_append xs [x]
    have hs1 := fun (x : Nat) => ofN_size [x]
    by_cases hlt : 128 ≤ u
    · have hlt' : (128 : Int) ≤ u := by omega
      have e1 : (128 : Int) + (u : Int) % 128 = ((u % 128 + 128 : Nat) : Int) := by omega
      have hl' := hlit (u % 128 + 128)
      have hs' := hs1 (u % 128 + 128)
      have hb' := hbel (u % 128 + 128)
      have ha' := hap (u % 128 + 128)
      have hz : ¬ 9223372036854775807 < (ofN xs).size + (ofN [u % 128 + 128]).size := by rw [hs', hsz]; simp; omega
      have ew : IntKind.u64.wrap ((u : Int) / 128) = ((u / 128 : Nat) : Int) := by
        have : IntKind.u64.wrap ((u : Int) / 128) = ((u : Int) / 128) % 18446744073709551616 := by simp [IntKind.wrap, IntKind.bits, IntKind.signed]
        have := H1.out
        omega
      clear hlit hbel hap hs1
      simp only [nums8, List.map_cons, List.map_nil] at hl'
      rw [← e1] at hl' hb'
      clear e1
      go_wp2_with fail
      go_roundw
      case rel =>
        refine ⟨u / 128, xs ++ [u % 128 + 128], by first | rw [ew] | rfl, by omega, ?_, ?_, hb'⟩
        · have h9 := HX.out
          rw [uintN_ge (by omega)] at h9
          exact Lib.hid (by rw [← h9]; simp)
        · rw [ha']
      case measure => first | (rw [ew]; simp [intOf]; omega) | (simp [intOf, ew]; omega) | (simp [intOf]; omega)
    · have hlt' : ¬ (128 : Int) ≤ u := by omega
      have hl' := hlit u
      have hs' := hs1 u
      have hb' := hbel u
      have ha' := hap u
      have hz : ¬ 9223372036854775807 < (ofN xs).size + (ofN [u]).size := by rw [hs', hsz]; simp; omega
      clear hlit hbel hap hs1
      simp only [nums8, List.map_cons, List.map_nil] at hl'
      go_wp2_with fail
      go_ret
      have h9 := HX.out
      rw [uintN_lt (by omega)] at h9
      refine ⟨?_, hb'⟩
      rw [← ha', h9]; rfl
set_option maxHeartbeats 1000000 in
theorem ref_Int (v : Int) (w : World) (h0 : -9223372036854775808 ≤ v) (h1 : v ≤ 9223372036854775807) :
    Calls Try.prog 48 #[.int .i64 v] w fun e w' => e = .returned (.string (intB v)) ∧ Below w.heap.size w w' := by
  have hz := zig_lt h0 h1
  by_cases hv : 0 ≤ v
  · have e1 : ((zig v : Nat) : Int) = 2 * v := by unfold zig; rw [if_pos hv]; omega
    have hc := ref_Uint (2 * v) w (by omega) (by omega)
    have e2 : (2 * v).toNat = zig v := by omega
    rw [e2] at hc
    go_enter Try.func48, Try.ntmps48
    go_wp2_with (go_at_call 47; refine hc.mono ?_; rintro e w1 ⟨rfl, hb1⟩)
    go_ret
    exact ⟨rfl, hb1⟩
  · have e1 : ((zig v : Nat) : Int) = 2 * (-(v + 1)) + 1 := by unfold zig; rw [if_neg hv]; omega
    have hc := ref_Uint (2 * (-(v + 1)) + 1) w (by omega) (by omega)
    have e2 : (2 * (-(v + 1)) + 1).toNat = zig v := by omega
    rw [e2] at hc
    go_enter Try.func48, Try.ntmps48
    go_wp2_with (go_at_call 47; refine hc.mono ?_; rintro e w1 ⟨rfl, hb1⟩)
    go_ret
    exact ⟨rfl, hb1⟩
set_option maxHeartbeats 1000000 in
theorem ref_Text (s : ByteArray) (w : World) (h1 : s.size ≤ 140737488351232) :
    Calls Try.prog 49 #[.string s] w fun e w' => e = .returned (.string (textB s)) ∧ Below w.heap.size w w' := by
  have hu := uintB_size (v := s.size) (by omega)
  have hsz : ¬ 9223372036854775807 < (uintB s.size).size + s.size := by omega
  go_enter Try.func49, Try.ntmps49
  go_wp2_with (go_at_call 47; refine (ref_Uint _ _ (by omega) (by omega)).mono ?_; rintro e w1 ⟨rfl, hb1⟩)
  go_ret
  exact ⟨rfl, hb1⟩
end Go.Proofs.Ytcfdbdmefdffdaa
/-
  Variables that are read at whatever address (a slice that came in), and value.Get over them.
-/
set_option linter.unusedVariables false
set_option linter.unusedSimpArgs false
namespace Go.Proofs.Base
open Go Go.RowKit
theorem add_block (ad : Addr) (m : Nat) : (ad.add m).block = ad.block := by unfold Addr.add; split <;> rfl
def ReadsV (w : World) (A : Option Addr) (l : List GVar) : Prop :=
  ∀ k (h : k < l.length), ∃ ad, A = some ad ∧ ad.block < w.heap.size ∧ w.cell? (ad.add (k * 4)) = some (.string l[k].name) ∧ w.cell? ⟨(ad.add (k * 4)).block, (ad.add (k * 4)).off + 1, none⟩ = some (.int .i64 l[k].v.k) ∧
    w.cell? ⟨(ad.add (k * 4)).block, (ad.add (k * 4)).off + 2, none⟩ = some (.int .i64 l[k].v.n) ∧ w.cell? ⟨(ad.add (k * 4)).block, (ad.add (k * 4)).off + 3, none⟩ = some (.string l[k].v.s)
theorem ReadsV.below {w w' : World} {A : Option Addr} {l : List GVar} (h : ReadsV w A l) (hb : Below w.heap.size w w') : ReadsV w' A l := by
  intro k hk
  obtain ⟨ad, hA, hlt, c0, c1, c2, c3⟩ := h k hk
  have e := add_block ad (k * 4)
  exact ⟨ad, hA, Nat.lt_of_lt_of_le hlt hb.size, (hb.cell (p := ad.add (k * 4)) (by rw [e]; exact hlt)).trans c0, (hb.cell (p := ⟨(ad.add (k * 4)).block, (ad.add (k * 4)).off + 1, none⟩) (by show (ad.add (k * 4)).block < _; rw [e]; exact hlt)).trans c1,
    (hb.cell (p := ⟨(ad.add (k * 4)).block, (ad.add (k * 4)).off + 2, none⟩) (by show (ad.add (k * 4)).block < _; rw [e]; exact hlt)).trans c2, (hb.cell (p := ⟨(ad.add (k * 4)).block, (ad.add (k * 4)).off + 3, none⟩) (by show (ad.add (k * 4)).block < _; rw [e]; exact hlt)).trans c3⟩
end Go.Proofs.Base
