/-
  The walk of value.TakeVars.
-/
import Derived.Test.YtcfdbdmefdffdaaValD
set_option linter.unusedVariables false
set_option linter.unusedSimpArgs false
namespace Go.Proofs.Ytcfdbdmefdffdaa
open Go Go.RowKit Go.Proofs.Base
open Go.Sort (grow)

theorem elVar : ElemT Try.prog 23 52 4 48 := .of Try.underlying23 (z := .agg #[.string ⟨#[]⟩, .int .i64 0, .int .i64 0, .string ⟨#[]⟩]) (by kernel_rfl) rfl
theorem mutGrown {w w1 : World} {g : Nat} (h : Mut (fun b => b = g) w w1) : w.grownBy w1 (some g) := ⟨h.os, h.tape, h.output, h.size, fun k hk hn => h.block k hk (fun e => hn (by rw [e]))⟩
theorem own_mut {w w1 : World} {g base : Nat} {e : TypeId} {sz n : Nat} {v : Value} {xs : List Value} (h : w.ownsRow base e sz v n xs) (hm : Mut (fun b => b = g) w w1) (hg : g < base) : w1.ownsRow base e sz v n xs :=
  h.kept (mutGrown hm) (by
    cases hv : v.ownBlock with
    | none => exact .inl rfl
    | some k => exact .inr (fun he => by have := (h.lt k hv).1; injection he with he; omega))

theorem takeFin_some (l : List GVar) (s : ByteArray) (e : Nat) : takeFin (some l, s, e) = if e = 0 ∧ rightV l = true then (some l, s, e) else (none, s, e) := rfl

def TakeVarsPost (w : World) (g : Nat) (r : Option (List GVar) × ByteArray × Nat) (e : Ending) (w' : World) : Prop :=
  ∃ v, e = .returned (.tuple #[v, .bool r.1.isSome]) ∧ Row w' (fun b => w.heap.size ≤ b) 4 (r.1.getD []).length v (varCells (r.1.getD [])) ∧ Rdr w' g r.2.1 r.2.2 ∧ Mut (fun b => b = g) w w'

set_option maxRecDepth 100000 in
set_option maxHeartbeats 2000000 in
theorem val_TakeVars (g : Nat) (s : ByteArray) (e0 : Nat) (w : World) (hr : Rdr w g s e0) (hs : s.size ≤ 140737488351232) :
    Calls Try.prog 30 #[.pointer (some ⟨g, 0, none⟩)] w (TakeVarsPost w g (takeVars s e0)) := by
  have hg := hr.facts.2.2.2.2
  have hu := rdUint_size s e0
  by_cases h16 : 16 < (rdUint s e0).1
  · have hv : takeVars s e0 = (none, (rdUint s e0).2) := by unfold takeVars; rw [if_pos h16]
    have HV := Lib.hid hv
    have h16' : (16 : Int) < ((rdUint s e0).1 : Int) := by omega
    clear hv h16
    go_enter Try.func30, Try.ntmps30
    go_wp2_with (go_at_call 27; refine (rd_Uint g s e0 _ hr (by omega)).mono ?_; rintro e w1 ⟨rfl, hq1, hm1⟩)
    go_ret2
    rw [HV.out]
    exact ⟨_, rfl, Row.nil _ _ _, hq1, hm1⟩
  · have hv : takeVars s e0 = takeFin (takeGo (rdUint s e0).1 (rdUint s e0).2.1 (rdUint s e0).2.2 []) := by unfold takeVars; rw [if_neg h16]
    have h16' : ((rdUint s e0).1 : Int) ≤ 16 := by omega
    have HV := Lib.hid hv
    clear hv
    go_enter Try.func30, Try.ntmps30
    go_wp2_with (go_at_call 27; refine (rd_Uint g s e0 _ hr (by omega)).mono ?_; rintro e w1 ⟨rfl, hq1, hm1⟩)
    generalize rdUint s e0 = q at *
    obtain ⟨n, s1, e1⟩ := q
    clear hr
    go_loopw [5, 6, 7, 8, 14] (fun v _ _ _ i wr => ∃ (k m : Nat) (acc : List GVar) (s2 : ByteArray) (e2 : Nat), i = .int .u64 k ∧ k + m = n ∧ acc.length = k ∧ wr.ownsRow w.heap.size 52 4 v acc.length (varCells acc) ∧ Rdr wr g s2 e2 ∧ s2.size ≤ s.size ∧ Mut (fun b => b = g) w wr ∧ Hid (∀ x ∈ acc, x.wf) ∧ Hid (takeVars s e0 = takeFin (takeGo m s2 e2 acc))) (fun _ _ _ _ i _ => n - (intOf i).toNat)
    case atStart => exact ⟨0, n, [], s1, e1, rfl, by omega, rfl, own_nil _ _ _ _, hq1, hu, hm1, Lib.hid (fun x hx => by cases hx), HV⟩
    case round =>
      clear hq1 hm1 HV
      obtain ⟨k, m, acc, s2, e2, rfl, hkm, hacc, hown, hq, hs2, hm, HW, HV⟩ := hrel
      cases m with
      | zero =>
        have Hkm := Lib.hid hkm
        have hkn : ¬ k < n := by omega
        have Hacc := Lib.hid hacc
        have HQ := Lib.hid hq
        have hv := HV.out
        unfold takeGo at hv
        rw [takeFin_some] at hv
        have HVV := Lib.hid hv
        have hrow := (Row.of_own hown).weaken (S' := fun b => w.heap.size ≤ b) (fun _ _ h => h.1)
        have HRow := Lib.hid hrow
        have HR2 := Lib.hid (val_Right (fun b => w.heap.size ≤ b) acc acc.length _ wr rfl hrow HW.out)
        clear hkm hacc HV hv hown hrow
        by_cases h2 : e2 = 0
        · have h2b := bne_f (a := (e2 : Int)) (b := 0) (by omega)
          by_cases hri : rightV acc = true
          · have hf : takeVars s e0 = (some acc, s2, e2) := by rw [HVV.out, if_pos ⟨h2, hri⟩]
            have HF := Lib.hid hf
            have hR2 := HR2.out
            simp only [hri] at hR2
            have HR3 := Lib.hid hR2
            have HM := Lib.hid hm
            clear hf hri hR2 h2 hm
            go_wp2_with (first | (go_at_call 65; refine (rd_Err g s2 e2 _ HQ.out).mono ?_; rintro e w' ⟨rfl, rfl⟩) | (go_at_call 20; refine HR3.out.mono ?_; rintro e w3 ⟨rfl, hb3⟩))
            go_ret2
            rw [HF.out]
            exact ⟨_, rfl, HRow.out.below hb3, block_below hb3 HQ.out, HM.out.trans (Mut.of_below hb3 (fun _ => False)) (fun _ _ h => h.elim)⟩
          · have hri : rightV acc = false := by simpa using hri
            have hf : takeVars s e0 = (none, s2, e2) := by rw [HVV.out, if_neg (by simp [hri])]
            have HF := Lib.hid hf
            have hR2 := HR2.out
            simp only [hri] at hR2
            have HR3 := Lib.hid hR2
            have HM := Lib.hid hm
            clear hf hri hR2 h2 hm
            go_wp2_with (first | (go_at_call 65; refine (rd_Err g s2 e2 _ HQ.out).mono ?_; rintro e w' ⟨rfl, rfl⟩) | (go_at_call 20; refine HR3.out.mono ?_; rintro e w3 ⟨rfl, hb3⟩))
            go_ret2
            rw [HF.out]
            exact ⟨_, rfl, Row.nil _ _ _, block_below hb3 HQ.out, HM.out.trans (Mut.of_below hb3 (fun _ => False)) (fun _ _ h => h.elim)⟩
        · have h2b := bne_t (a := (e2 : Int)) (b := 0) (by omega)
          have hf : takeVars s e0 = (none, s2, e2) := by rw [HVV.out, if_neg (by simp [h2])]
          have HF := Lib.hid hf
          have HM := Lib.hid hm
          clear hf h2 hm
          go_wp2_with (go_at_call 65; refine (rd_Err g s2 e2 _ HQ.out).mono ?_; rintro e w' ⟨rfl, rfl⟩)
          go_ret2
          rw [HF.out]
          exact ⟨_, rfl, Row.nil _ _ _, HQ.out, HM.out⟩
      | succ m =>
        have hkn : k < n := by omega
        have hv := HV.out
        unfold takeGo at hv
        have hsz := rdText_size 32 s2 e2
        have hrs := rdText_res 32 s2 e2
        have hT := rd_Text g s2 e2 32 wr hq (by omega) (by omega) (by omega)
        have HT := Lib.hid hT
        generalize rdText 32 s2 e2 = q at *
        obtain ⟨nm, s3, e3⟩ := q
        have HV2 := Lib.hid hv
        have Hkm := Lib.hid hkm
        have Hacc := Lib.hid hacc
        have HM := Lib.hid hm
        have HO := Lib.hid hown
        clear hT HV hv hkm hacc hm hq hown
        go_wp2_with (go_at_call 29; refine HT.out.mono ?_; rintro e w3 ⟨rfl, hq3, hm3⟩)
        refine (val_Take g s3 e3 w3 hq3 (by omega)).mono ?_
        rintro e w4 ⟨rfl, hq4, hm4⟩
        have hwf := takeV_wf (s := s3) (e := e3) (by omega)
        have hz4 := takeRaw_size s3 e3
        have ho4 := own_mut (own_mut HO.out hm3 hg) hm4 hg
        have HO4 := Lib.hid ho4
        have hM4 : Mut (fun b => b = g) w w4 := (HM.out.trans hm3 (fun _ _ h => h)).trans hm4 (fun _ _ h => h)
        have HM4 := Lib.hid hM4
        have HQ4 := Lib.hid hq4
        have hv5 := HV2.out
        have hw4 : w.heap.size ≤ w4.heap.size := hM4.size
        clear HV2 HM HO hq3 hq4 hm3 hm4 HT ho4 hM4
        generalize takeRaw s3 e3 = raw at *
        obtain ⟨rv, s4, e4⟩ := raw
        generalize takeV s3 e3 = tv at *
        by_cases hok : takeOk s3 e3 = true
        · rw [if_pos hok] at hv5
          simp only [hok]
          have HV5 := Lib.hid hv5
          have HW5 : Hid (∀ x ∈ acc ++ [(⟨nm, tv⟩ : GVar)], x.wf) := Lib.hid (fun x hx => by
            rcases List.mem_append.1 hx with h | h
            · exact HW.out x h
            · rw [List.mem_singleton.1 h]; exact ⟨Nat.le_trans hrs (Nat.le_trans hs2 hs), hwf⟩)
          clear hv5 hok hwf HW
          have hb4 : Below w.heap.size (w4.alloc (.cells #[.int .i64 tv.k, .int .i64 tv.n, .string tv.s] 50)) (w4.alloc (.cells #[.int .i64 tv.k, .int .i64 tv.n, .string tv.s] 50)) := Below.refl _ _
          have ho5 := HO4.out.alloc (.cells #[.int .i64 tv.k, .int .i64 tv.n, .string tv.s] 50)
          have hsz5 : w.heap.size ≤ (w4.alloc (.cells #[.int .i64 tv.k, .int .i64 tv.n, .string tv.s] 50)).heap.size := by simp; omega
          have ha16 : acc.length ≤ 16 := by have := Hacc.out; omega
          have HB4 := Lib.hid hb4
          have HO5 := Lib.hid ho5
          have HS5 := Lib.hid hsz5
          clear hb4 ho5 hsz5
          go_wp2_with (at_builtin; refine wp_app elVar (by decide) rfl (.tmp 25) (.tmp 29) rfl w.heap.size _ acc.length (varCells acc) [_, _, _, _] rfl (by rw [World.size_alloc]; rfl) rfl (by simp [Value.oneCell']) HO5.out HB4.out HS5.out (by omega) (by omega) ?_; intro v1 w5 HO6 HB6 hg6 hat6)
          go_roundw
          case rel =>
            have hl5 := Hkm.out
            have hc : varCells acc ++ [.string nm, .int .i64 tv.k, .int .i64 tv.n, .string tv.s] = varCells (acc ++ [(⟨nm, tv⟩ : GVar)]) := by rw [varCells_append]; rfl
            rw [hc] at HO6
            have hgr := (World.grownBy_alloc w4 (.cells #[.int .i64 tv.k, .int .i64 tv.n, .string tv.s] 50) u5.ownBlock).trans ((World.grownBy_alloc _ _ _).trans hg6)
            have hbl : ∀ b, b < w4.heap.size → u5.ownBlock = some b → w.heap.size ≤ b := fun b _ hb => (HO4.out.lt b hb).1
            refine ⟨k + 1, m, acc ++ [⟨nm, tv⟩], s4, e4, by go_num, by omega, by rw [List.length_append, Hacc.out]; rfl, by rw [List.length_append]; exact HO6, ?_, Nat.le_trans hz4 (Nat.le_trans hsz hs2), ?_, HW5, HV5⟩
            · refine Mut.blk (T := fun b => u5.ownBlock = some b) (Mut.grown hgr (fun b h => h)) HQ4.out (fun h => ?_)
              have := (HO4.out.lt g h).1
              omega
            · exact HM4.out.trans (Mut.grown (T := fun b => u5.ownBlock = some b) hgr (fun b h => h)) (fun b hb h => absurd hb (by have := (HO4.out.lt b h).1; omega))
          case measure => have := Hkm.out; simp [intOf]; omega
        · have hok : takeOk s3 e3 = false := by simpa using hok
          rw [if_neg (by simp [hok])] at hv5
          simp only [hok]
          have HV5 := Lib.hid hv5
          clear hv5 hok
          go_wp2_with fail
          go_ret2
          rw [HV5.out]
          exact ⟨_, rfl, Row.nil _ _ _, HQ4.out.alloc _, HM4.out.alloc _⟩
end Go.Proofs.Ytcfdbdmefdffdaa
