/-
  rec.Take: its contract. Printed by gentaket.py.
-/
import Derived.Test.YtcfdbdmefdffdaaTakeS
import Derived.Test.YtcfdbdmefdffdaaTakeC
import Derived.Test.YtcfdbdmefdffdaaTakeD
import Derived.Test.YtcfdbdmefdffdaaTakeE
import Derived.Test.YtcfdbdmefdffdaaTakeF
set_option linter.unusedVariables false
set_option linter.unusedSimpArgs false
namespace Go.Proofs.Ytcfdbdmefdffdaa
open Go Go.RowKit Go.Proofs.Base

theorem takeGo_wf : ∀ (m : Nat) (s : ByteArray) (e : Nat) (acc L : List GVar) (s' : ByteArray) (e' : Nat), s.size ≤ 140737488351232 → (∀ x ∈ acc, x.wf) → takeGo m s e acc = (some L, s', e') → ∀ x ∈ L, x.wf
  | 0, s, e, acc, L, s', e', hs, ha, h => by
    unfold takeGo at h
    simp only [Prod.mk.injEq, Option.some.injEq] at h
    rw [← h.1]; exact ha
  | m + 1, s, e, acc, L, s', e', hs, ha, h => by
    unfold takeGo at h
    have h1 := rdText_size 32 s e
    have h2 := rdText_res 32 s e
    generalize rdText 32 s e = q at *
    obtain ⟨nm, s1, e1⟩ := q
    simp only at *
    by_cases ok : takeOk s1 e1 = true
    · rw [if_pos ok] at h
      have h3 := takeRaw_size s1 e1
      refine takeGo_wf m _ _ _ L s' e' (by omega) ?_ h
      intro x hx
      rcases List.mem_append.1 hx with hx | hx
      · exact ha x hx
      · rw [List.mem_singleton.1 hx]
        exact ⟨Nat.le_trans h2 hs, takeV_wf (by omega)⟩
    · rw [if_neg ok] at h
      simp at h
theorem takeVars_wf {s s' : ByteArray} {e e' : Nat} {l : List GVar} (hs : s.size ≤ 140737488351232) (h : takeVars s e = (some l, s', e')) : ∀ x ∈ l, x.wf := by
  unfold takeVars at h
  have h1 := rdUint_size s e
  generalize rdUint s e = q at *
  obtain ⟨n, s1, e1⟩ := q
  simp only at *
  split at h
  · simp at h
  · generalize hq2 : takeGo n s1 e1 [] = q2 at h
    obtain ⟨o, s2, e2⟩ := q2
    cases o with
    | none => simp [takeFin] at h
    | some L =>
      unfold takeFin at h
      simp only at h
      split at h
      · simp only [Prod.mk.injEq, Option.some.injEq] at h
        rw [← h.1]
        exact takeGo_wf _ _ _ _ _ _ _ (by omega) (fun x hx => by cases hx) hq2
      · simp at h
theorem takeVars_size (s : ByteArray) (e : Nat) : (takeVars s e).2.1.size ≤ s.size := by
  unfold takeVars
  have h1 := rdUint_size s e
  split
  · exact h1
  · have h2 := takeGo_size (rdUint s e).1 (rdUint s e).2.1 (rdUint s e).2.2 []
    generalize takeGo (rdUint s e).1 (rdUint s e).2.1 (rdUint s e).2.2 [] = q at *
    obtain ⟨o, s2, e2⟩ := q
    cases o with
    | none => exact Nat.le_trans h2 h1
    | some L =>
      unfold takeFin
      simp only
      split
      · exact Nat.le_trans h2 h1
      · exact Nat.le_trans h2 h1

def TakePost (w : World) (o : Option GRec) (e : Ending) (w' : World) : Prop :=
  match o with
  | none => e = .returned (.tuple #[.agg #[.int .i64 0, .int .i64 0, .int .u64 0, .int .i64 0, .int .u64 0, .int .u64 0, .int .u64 0, .int .i64 0, .int .i64 0, .string ⟨#[]⟩, .string ⟨#[]⟩, .string ⟨#[]⟩, .slice none 0 0], .int .i64 3]) ∧ Below w.heap.size w w'
  | some r => ∃ vv, e = .returned (.tuple #[.agg #[.int .i64 r.cls, .int .i64 r.kind, .int .u64 r.frm, .int .i64 r.time, .int .u64 r.key, .int .u64 r.key2, .int .u64 r.key3, .int .i64 r.n, .int .i64 r.m, .string r.a, .string r.b, .string r.c, vv], .int .i64 0]) ∧ Row w' (fun b => w.heap.size ≤ b) 4 r.vars.length vv (varCells r.vars) ∧ Below w.heap.size w w'

theorem rec_Take (s : ByteArray) (w : World) (hs : s.size ≤ 140737488351232) :
    Calls Try.prog 15 #[.string s] w (TakePost w (recTake s)) := by
  have d0 : rdByte s 0 = tk0 s := rfl
  have z0 := rdByte_size s 0
  have y0 := rdByte_lt s 0
  rw [d0] at z0 y0
  have d1 : rdByte (tk0 s).2.1 (tk0 s).2.2 = tk1 s := rfl
  have z1 := rdByte_size (tk0 s).2.1 (tk0 s).2.2
  have y1 := rdByte_lt (tk0 s).2.1 (tk0 s).2.2
  rw [d1] at z1 y1
  have d2 : rdUint (tk1 s).2.1 (tk1 s).2.2 = tk2 s := rfl
  have z2 := rdUint_size (tk1 s).2.1 (tk1 s).2.2
  have y2 := rdUint_lt (tk1 s).2.1 (tk1 s).2.2
  rw [d2] at z2 y2
  have d3 : rdInt (tk2 s).2.1 (tk2 s).2.2 = tk3 s := rfl
  have z3 := rdInt_size (tk2 s).2.1 (tk2 s).2.2
  have y3 := rdInt_i64 (tk2 s).2.1 (tk2 s).2.2
  rw [d3] at z3 y3
  have d4 : rdUint (tk3 s).2.1 (tk3 s).2.2 = tk4 s := rfl
  have z4 := rdUint_size (tk3 s).2.1 (tk3 s).2.2
  have y4 := rdUint_lt (tk3 s).2.1 (tk3 s).2.2
  rw [d4] at z4 y4
  have d5 : rdUint (tk4 s).2.1 (tk4 s).2.2 = tk5 s := rfl
  have z5 := rdUint_size (tk4 s).2.1 (tk4 s).2.2
  have y5 := rdUint_lt (tk4 s).2.1 (tk4 s).2.2
  rw [d5] at z5 y5
  have d6 : rdUint (tk5 s).2.1 (tk5 s).2.2 = tk6 s := rfl
  have z6 := rdUint_size (tk5 s).2.1 (tk5 s).2.2
  have y6 := rdUint_lt (tk5 s).2.1 (tk5 s).2.2
  rw [d6] at z6 y6
  have d7 : rdInt (tk6 s).2.1 (tk6 s).2.2 = tk7 s := rfl
  have z7 := rdInt_size (tk6 s).2.1 (tk6 s).2.2
  have y7 := rdInt_i64 (tk6 s).2.1 (tk6 s).2.2
  rw [d7] at z7 y7
  have d8 : rdInt (tk7 s).2.1 (tk7 s).2.2 = tk8 s := rfl
  have z8 := rdInt_size (tk7 s).2.1 (tk7 s).2.2
  have y8 := rdInt_i64 (tk7 s).2.1 (tk7 s).2.2
  rw [d8] at z8 y8
  have d9 : rdText 8192 (tk8 s).2.1 (tk8 s).2.2 = tk9 s := rfl
  have z9 := rdText_size 8192 (tk8 s).2.1 (tk8 s).2.2
  have y9 := rdText_res 8192 (tk8 s).2.1 (tk8 s).2.2
  rw [d9] at z9 y9
  have d10 : rdText 8192 (tk9 s).2.1 (tk9 s).2.2 = tk10 s := rfl
  have z10 := rdText_size 8192 (tk9 s).2.1 (tk9 s).2.2
  have y10 := rdText_res 8192 (tk9 s).2.1 (tk9 s).2.2
  rw [d10] at z10 y10
  have d11 : rdText 32 (tk10 s).2.1 (tk10 s).2.2 = tk11 s := rfl
  have z11 := rdText_size 32 (tk10 s).2.1 (tk10 s).2.2
  have y11 := rdText_res 32 (tk10 s).2.1 (tk10 s).2.2
  rw [d11] at z11 y11
  have d12 : takeVars (tk11 s).2.1 (tk11 s).2.2 = tk12 s := rfl
  unfold recTake tkRec
  generalize tk0 s = q0 at *
  generalize tk1 s = q1 at *
  generalize tk2 s = q2 at *
  generalize tk3 s = q3 at *
  generalize tk4 s = q4 at *
  generalize tk5 s = q5 at *
  generalize tk6 s = q6 at *
  generalize tk7 s = q7 at *
  generalize tk8 s = q8 at *
  generalize tk9 s = q9 at *
  generalize tk10 s = q10 at *
  generalize tk11 s = q11 at *
  generalize tk12 s = q12 at *
  obtain ⟨x0, s1, e1⟩ := q0
  obtain ⟨x1, s2, e2⟩ := q1
  obtain ⟨x2, s3, e3⟩ := q2
  obtain ⟨x3, s4, e4⟩ := q3
  obtain ⟨x4, s5, e5⟩ := q4
  obtain ⟨x5, s6, e6⟩ := q5
  obtain ⟨x6, s7, e7⟩ := q6
  obtain ⟨x7, s8, e8⟩ := q7
  obtain ⟨x8, s9, e9⟩ := q8
  obtain ⟨x9, s10, e10⟩ := q9
  obtain ⟨x10, s11, e11⟩ := q10
  obtain ⟨x11, s12, e12⟩ := q11
  obtain ⟨o, s13, e13⟩ := q12
  simp only at *
  have u1 : s1.size ≤ 140737488351232 := by omega
  have u2 : s2.size ≤ 140737488351232 := by omega
  have u3 : s3.size ≤ 140737488351232 := by omega
  have u4 : s4.size ≤ 140737488351232 := by omega
  have u5 : s5.size ≤ 140737488351232 := by omega
  have u6 : s6.size ≤ 140737488351232 := by omega
  have u7 : s7.size ≤ 140737488351232 := by omega
  have u8 : s8.size ≤ 140737488351232 := by omega
  have u9 : s9.size ≤ 140737488351232 := by omega
  have u10 : s10.size ≤ 140737488351232 := by omega
  have u11 : s11.size ≤ 140737488351232 := by omega
  have u12 : s12.size ≤ 140737488351232 := by omega
  cases o with
  | none => exact rec_Take_a s w x0 s1 e1 x1 s2 e2 x2 s3 e3 x3 s4 e4 x4 s5 e5 x5 s6 e6 x6 s7 e7 x7 s8 e8 x8 s9 e9 x9 s10 e10 x10 s11 e11 x11 s12 e12 s13 e13 hs (by omega) (by omega) d0 d1 d2 d3 d4 d5 d6 d7 d8 d9 d10 d11 u1 u2 u3 u4 u5 u6 u7 u8 u9 u10 u11 u12 d12
  | some l =>
    simp only
    have hl := takeVars_wf u12 d12
    have hwf : (⟨(x0 : Int), (x1 : Int), (x2 : Int), x3, (x4 : Int), (x5 : Int), (x6 : Int), x7, x8, x9, x10, x11, l⟩ : GRec).wf := ⟨(⟨by omega, by omega⟩ : i64 (x0 : Int)), (⟨by omega, by omega⟩ : i64 (x1 : Int)), (⟨by omega, by omega⟩ : u64 (x2 : Int)), y3, (⟨by omega, by omega⟩ : u64 (x4 : Int)), (⟨by omega, by omega⟩ : u64 (x5 : Int)), (⟨by omega, by omega⟩ : u64 (x6 : Int)), y7, y8, (show x9.size ≤ _ by omega), (show x10.size ≤ _ by omega), (show x11.size ≤ _ by omega), hl⟩
    by_cases he : rdEnd s13 e13 = 0
    · split
      · rename_i hc
        exact rec_Take_d s w x0 s1 e1 x1 s2 e2 x2 s3 e3 x3 s4 e4 x4 s5 e5 x5 s6 e6 x6 s7 e7 x7 s8 e8 x8 s9 e9 x9 s10 e10 x10 s11 e11 x11 s12 e12 l s13 e13 hs (by omega) (by omega) d0 d1 d2 d3 d4 d5 d6 d7 d8 d9 d10 d11 u1 u2 u3 u4 u5 u6 u7 u8 u9 u10 u11 u12 d12 he hwf hc.2
      · rename_i hc
        exact rec_Take_c s w x0 s1 e1 x1 s2 e2 x2 s3 e3 x3 s4 e4 x4 s5 e5 x5 s6 e6 x6 s7 e7 x7 s8 e8 x8 s9 e9 x9 s10 e10 x10 s11 e11 x11 s12 e12 l s13 e13 hs (by omega) (by omega) d0 d1 d2 d3 d4 d5 d6 d7 d8 d9 d10 d11 u1 u2 u3 u4 u5 u6 u7 u8 u9 u10 u11 u12 d12 he hwf (by
          rw [Bool.eq_false_iff]
          exact fun hm => hc ⟨he, hm⟩)
    · rw [if_neg (fun hc => he hc.1)]
      exact rec_Take_b s w x0 s1 e1 x1 s2 e2 x2 s3 e3 x3 s4 e4 x4 s5 e5 x5 s6 e6 x6 s7 e7 x7 s8 e8 x8 s9 e9 x9 s10 e10 x10 s11 e11 x11 s12 e12 l s13 e13 hs (by omega) (by omega) d0 d1 d2 d3 d4 d5 d6 d7 d8 d9 d10 d11 u1 u2 u3 u4 u5 u6 u7 u8 u9 u10 u11 u12 d12 _ rfl he
end Go.Proofs.Ytcfdbdmefdffdaa
