/-
  Records taken: the plain function, that it takes what was laid, and nothing else. Printed by gentakes.py.
-/
import Derived.Test.YtcfdbdmefdffdaaTakeR
import Derived.Test.YtcfdbdmefdffdaaReadB
set_option linter.unusedVariables false
set_option linter.unusedSimpArgs false
namespace Go.Proofs.Base
open Go Go.RowKit Go.Proofs.Ytcfdbdmefdffdaa

def tk0 (s : ByteArray) : Nat × ByteArray × Nat := rdByte s 0
def tk1 (s : ByteArray) : Nat × ByteArray × Nat := rdByte (tk0 s).2.1 (tk0 s).2.2
def tk2 (s : ByteArray) : Nat × ByteArray × Nat := rdUint (tk1 s).2.1 (tk1 s).2.2
def tk3 (s : ByteArray) : Int × ByteArray × Nat := rdInt (tk2 s).2.1 (tk2 s).2.2
def tk4 (s : ByteArray) : Nat × ByteArray × Nat := rdUint (tk3 s).2.1 (tk3 s).2.2
def tk5 (s : ByteArray) : Nat × ByteArray × Nat := rdUint (tk4 s).2.1 (tk4 s).2.2
def tk6 (s : ByteArray) : Nat × ByteArray × Nat := rdUint (tk5 s).2.1 (tk5 s).2.2
def tk7 (s : ByteArray) : Int × ByteArray × Nat := rdInt (tk6 s).2.1 (tk6 s).2.2
def tk8 (s : ByteArray) : Int × ByteArray × Nat := rdInt (tk7 s).2.1 (tk7 s).2.2
def tk9 (s : ByteArray) : ByteArray × ByteArray × Nat := rdText 8192 (tk8 s).2.1 (tk8 s).2.2
def tk10 (s : ByteArray) : ByteArray × ByteArray × Nat := rdText 8192 (tk9 s).2.1 (tk9 s).2.2
def tk11 (s : ByteArray) : ByteArray × ByteArray × Nat := rdText 32 (tk10 s).2.1 (tk10 s).2.2
def tk12 (s : ByteArray) : Option (List GVar) × ByteArray × Nat := takeVars (tk11 s).2.1 (tk11 s).2.2
def tkRec (s : ByteArray) (l : List GVar) : GRec := ⟨(tk0 s).1, (tk1 s).1, (tk2 s).1, (tk3 s).1, (tk4 s).1, (tk5 s).1, (tk6 s).1, (tk7 s).1, (tk8 s).1, (tk9 s).1, (tk10 s).1, (tk11 s).1, l⟩
/-- rec.Take: the record, or none -/
def recTake (s : ByteArray) : Option GRec :=
  match (tk12 s).1 with
  | none => none
  | some l => if rdEnd (tk12 s).2.1 (tk12 s).2.2 = 0 ∧ recMay (tkRec s l) = true then some (tkRec s l) else none
theorem recText_flat (r : GRec) (x : ByteArray) : recText r ++ x = ofN [(r.cls % 256).toNat] ++ (ofN [(r.kind % 256).toNat] ++ (uintB r.frm.toNat ++ (intB r.time ++ (uintB r.key.toNat ++ (uintB r.key2.toNat ++ (uintB r.key3.toNat ++ (intB r.n ++ (intB r.m ++ (textB r.a ++ (textB r.b ++ (textB r.c ++ (varsB r.vars ++ x)))))))))))) := by
  have e : recHead r = ofN [(r.cls % 256).toNat] ++ ofN [(r.kind % 256).toNat] := toL_inj (by simp [recHead, toL_ofN])
  show ((((((recHead r) ++ (uintB r.frm.toNat ++ intB r.time)) ++ (uintB r.key.toNat ++ uintB r.key2.toNat ++ uintB r.key3.toNat)) ++ (intB r.n ++ intB r.m)) ++ (textB r.a ++ textB r.b ++ textB r.c)) ++ varsB r.vars) ++ x = _
  rw [e]
  simp only [app_assoc]
theorem recTake_full {r : GRec} (hw : r.wf) (hm : recMay r = true) : recTake (recText r) = some r := by
  obtain ⟨h1, h2, h3, h4, h5, h6, h7, h8, h9, h10, h11, h12, h13⟩ := hw
  have hp : recMayP r := of_decide_eq_true hm
  obtain ⟨c0, c1, k0, k1, _, _, _, pa, pb, pc, pv, _⟩ := hp
  have := kindsM_le r.cls
  have ha : aMost r.cls r.kind ≤ 8192 := by unfold aMost; split <;> decide
  have hb : bMost r.cls r.kind ≤ 8192 := by unfold bMost; split <;> decide
  obtain ⟨x, hx⟩ : ∃ x, x = ByteArray.empty := ⟨_, rfl⟩
  have hs : recText r = recText r ++ x := by rw [hx]; exact (app_empty _).symm
  rw [hs, recText_flat]
  generalize hS : ofN [(r.cls % 256).toNat] ++ (ofN [(r.kind % 256).toNat] ++ (uintB r.frm.toNat ++ (intB r.time ++ (uintB r.key.toNat ++ (uintB r.key2.toNat ++ (uintB r.key3.toNat ++ (intB r.n ++ (intB r.m ++ (textB r.a ++ (textB r.b ++ (textB r.c ++ (varsB r.vars ++ x)))))))))))) = S
  have t0 : tk0 S = ((r.cls % 256).toNat, ofN [(r.kind % 256).toNat] ++ (uintB r.frm.toNat ++ (intB r.time ++ (uintB r.key.toNat ++ (uintB r.key2.toNat ++ (uintB r.key3.toNat ++ (intB r.n ++ (intB r.m ++ (textB r.a ++ (textB r.b ++ (textB r.c ++ (varsB r.vars ++ x))))))))))), 0) := by unfold tk0; rw [← hS]; exact rdByte_full (b := (r.cls % 256).toNat) (by omega) _
  have t1 : tk1 S = ((r.kind % 256).toNat, uintB r.frm.toNat ++ (intB r.time ++ (uintB r.key.toNat ++ (uintB r.key2.toNat ++ (uintB r.key3.toNat ++ (intB r.n ++ (intB r.m ++ (textB r.a ++ (textB r.b ++ (textB r.c ++ (varsB r.vars ++ x)))))))))), 0) := by unfold tk1; rw [t0]; exact rdByte_full (b := (r.kind % 256).toNat) (by omega) _
  have t2 : tk2 S = (r.frm.toNat, intB r.time ++ (uintB r.key.toNat ++ (uintB r.key2.toNat ++ (uintB r.key3.toNat ++ (intB r.n ++ (intB r.m ++ (textB r.a ++ (textB r.b ++ (textB r.c ++ (varsB r.vars ++ x))))))))), 0) := by unfold tk2; rw [t1]; exact rdUint_full (v := r.frm.toNat) (u64_toNat h3) _
  have t3 : tk3 S = (r.time, uintB r.key.toNat ++ (uintB r.key2.toNat ++ (uintB r.key3.toNat ++ (intB r.n ++ (intB r.m ++ (textB r.a ++ (textB r.b ++ (textB r.c ++ (varsB r.vars ++ x)))))))), 0) := by unfold tk3; rw [t2]; exact rdInt_full (v := r.time) h4 _
  have t4 : tk4 S = (r.key.toNat, uintB r.key2.toNat ++ (uintB r.key3.toNat ++ (intB r.n ++ (intB r.m ++ (textB r.a ++ (textB r.b ++ (textB r.c ++ (varsB r.vars ++ x))))))), 0) := by unfold tk4; rw [t3]; exact rdUint_full (v := r.key.toNat) (u64_toNat h5) _
  have t5 : tk5 S = (r.key2.toNat, uintB r.key3.toNat ++ (intB r.n ++ (intB r.m ++ (textB r.a ++ (textB r.b ++ (textB r.c ++ (varsB r.vars ++ x)))))), 0) := by unfold tk5; rw [t4]; exact rdUint_full (v := r.key2.toNat) (u64_toNat h6) _
  have t6 : tk6 S = (r.key3.toNat, intB r.n ++ (intB r.m ++ (textB r.a ++ (textB r.b ++ (textB r.c ++ (varsB r.vars ++ x))))), 0) := by unfold tk6; rw [t5]; exact rdUint_full (v := r.key3.toNat) (u64_toNat h7) _
  have t7 : tk7 S = (r.n, intB r.m ++ (textB r.a ++ (textB r.b ++ (textB r.c ++ (varsB r.vars ++ x)))), 0) := by unfold tk7; rw [t6]; exact rdInt_full (v := r.n) h8 _
  have t8 : tk8 S = (r.m, textB r.a ++ (textB r.b ++ (textB r.c ++ (varsB r.vars ++ x))), 0) := by unfold tk8; rw [t7]; exact rdInt_full (v := r.m) h9 _
  have t9 : tk9 S = (r.a, textB r.b ++ (textB r.c ++ (varsB r.vars ++ x)), 0) := by unfold tk9; rw [t8]; exact rdText_full (t := r.a) (by omega) h10 _
  have t10 : tk10 S = (r.b, textB r.c ++ (varsB r.vars ++ x), 0) := by unfold tk10; rw [t9]; exact rdText_full (t := r.b) (by omega) h11 _
  have t11 : tk11 S = (r.c, varsB r.vars ++ x, 0) := by unfold tk11; rw [t10]; exact rdText_full (t := r.c) (by omega) h12 _
  have t12 : tk12 S = (some r.vars, x, 0) := by unfold tk12; rw [t11]; exact takeVars_full pv h13 x
  have hr : tkRec S r.vars = r := by
    unfold tkRec
    rw [t0, t1, t2, t3, t4, t5, t6, t7, t8, t9, t10, t11]
    have := h3.1; have := h5.1; have := h6.1; have := h7.1
    cases r
    simp only [GRec.mk.injEq] at *
    refine ⟨by omega, by omega, by omega, trivial, by omega, by omega, by omega, trivial, trivial, trivial, trivial, trivial, trivial⟩
  unfold recTake
  rw [t12]
  simp only
  rw [hr, if_pos ⟨by rw [hx]; rfl, hm⟩]
theorem rec_back {s : ByteArray} {x0 x1 x2 x4 x5 x6 : Nat} {x3 x7 x8 : Int} {x9 x10 x11 : ByteArray} {s1 s2 s3 s4 s5 s6 s7 s8 s9 s10 s11 s12 s13 : ByteArray} {e1 e2 e3 e4 e5 e6 e7 e8 e9 e10 e11 e12 e13 : Nat} {l : List GVar}
    (h0 : rdByte s 0 = (x0, s1, e1)) (h1 : rdByte s1 e1 = (x1, s2, e2)) (h2 : rdUint s2 e2 = (x2, s3, e3)) (h3 : rdInt s3 e3 = (x3, s4, e4)) (h4 : rdUint s4 e4 = (x4, s5, e5)) (h5 : rdUint s5 e5 = (x5, s6, e6)) (h6 : rdUint s6 e6 = (x6, s7, e7)) (h7 : rdInt s7 e7 = (x7, s8, e8)) (h8 : rdInt s8 e8 = (x8, s9, e9)) (h9 : rdText 8192 s9 e9 = (x9, s10, e10)) (h10 : rdText 8192 s10 e10 = (x10, s11, e11)) (h11 : rdText 32 s11 e11 = (x11, s12, e12)) (h12 : takeVars s12 e12 = (some l, s13, e13)) (he : rdEnd s13 e13 = 0) : s = recText ⟨(x0 : Int), (x1 : Int), (x2 : Int), x3, (x4 : Int), (x5 : Int), (x6 : Int), x7, x8, x9, x10, x11, l⟩ := by
  have hz : s13.size = 0 := by
    unfold rdEnd at he
    by_cases hh : e13 = 0 ∧ 0 < s13.size
    · rw [if_pos hh] at he; cases he
    · rw [if_neg hh] at he; omega
  obtain ⟨a12, _, hr, b12⟩ := takeVars_back h12
  subst a12
  obtain ⟨a11, b11⟩ := rdText_back h11
  subst a11
  obtain ⟨a10, b10⟩ := rdText_back h10
  subst a10
  obtain ⟨a9, b9⟩ := rdText_back h9
  subst a9
  obtain ⟨a8, b8⟩ := rdInt_back h8
  subst a8
  obtain ⟨a7, b7⟩ := rdInt_back h7
  subst a7
  obtain ⟨a6, b6⟩ := rdUint_back h6
  subst a6
  obtain ⟨a5, b5⟩ := rdUint_back h5
  subst a5
  obtain ⟨a4, b4⟩ := rdUint_back h4
  subst a4
  obtain ⟨a3, b3⟩ := rdInt_back h3
  subst a3
  obtain ⟨a2, b2⟩ := rdUint_back h2
  subst a2
  obtain ⟨a1, l1, b1⟩ := rdByte_back h1
  subst a1
  obtain ⟨a0, l0, b0⟩ := rdByte_back h0
  clear h0 h1 h2 h3 h4 h5 h6 h7 h8 h9 h10 h11 h12 he
  have hf := recText_flat ⟨(x0 : Int), (x1 : Int), (x2 : Int), x3, (x4 : Int), (x5 : Int), (x6 : Int), x7, x8, x9, x10, x11, l⟩ ByteArray.empty
  rw [app_empty] at hf
  rw [hf]
  simp only
  have c0 : ((x0 : Int) % 256).toNat = x0 := by omega
  have c1 : ((x1 : Int) % 256).toNat = x1 := by omega
  rw [c0, c1]
  simp only [Int.toNat_natCast]
  rw [b0, b1, b2, b3, b4, b5, b6, b7, b8, b9, b10, b11, b12, size_zero hz]
theorem recTake_back {s : ByteArray} {r : GRec} (h : recTake s = some r) : recMay r = true ∧ s = recText r := by
  unfold recTake at h
  have d0 : rdByte s 0 = tk0 s := rfl
  have d1 : rdByte (tk0 s).2.1 (tk0 s).2.2 = tk1 s := rfl
  have d2 : rdUint (tk1 s).2.1 (tk1 s).2.2 = tk2 s := rfl
  have d3 : rdInt (tk2 s).2.1 (tk2 s).2.2 = tk3 s := rfl
  have d4 : rdUint (tk3 s).2.1 (tk3 s).2.2 = tk4 s := rfl
  have d5 : rdUint (tk4 s).2.1 (tk4 s).2.2 = tk5 s := rfl
  have d6 : rdUint (tk5 s).2.1 (tk5 s).2.2 = tk6 s := rfl
  have d7 : rdInt (tk6 s).2.1 (tk6 s).2.2 = tk7 s := rfl
  have d8 : rdInt (tk7 s).2.1 (tk7 s).2.2 = tk8 s := rfl
  have d9 : rdText 8192 (tk8 s).2.1 (tk8 s).2.2 = tk9 s := rfl
  have d10 : rdText 8192 (tk9 s).2.1 (tk9 s).2.2 = tk10 s := rfl
  have d11 : rdText 32 (tk10 s).2.1 (tk10 s).2.2 = tk11 s := rfl
  have d12 : takeVars (tk11 s).2.1 (tk11 s).2.2 = tk12 s := rfl
  unfold tkRec at h
  generalize tk0 s = q0 at *
  generalize tk1 s = q1 at *
  generalize tk2 s = q2 at *
  generalize tk3 s = q3 at *
  generalize tk4 s = q4 at *
  generalize tk5 s = q5 at *
  generalize tk6 s = q6 at *
  generalize tk7 s = q7 at *
  generalize tk8 s = q8 at *
  generalize tk9 s = q9 at *
  generalize tk10 s = q10 at *
  generalize tk11 s = q11 at *
  generalize tk12 s = q12 at *
  obtain ⟨x0, s1, e1⟩ := q0
  obtain ⟨x1, s2, e2⟩ := q1
  obtain ⟨x2, s3, e3⟩ := q2
  obtain ⟨x3, s4, e4⟩ := q3
  obtain ⟨x4, s5, e5⟩ := q4
  obtain ⟨x5, s6, e6⟩ := q5
  obtain ⟨x6, s7, e7⟩ := q6
  obtain ⟨x7, s8, e8⟩ := q7
  obtain ⟨x8, s9, e9⟩ := q8
  obtain ⟨x9, s10, e10⟩ := q9
  obtain ⟨x10, s11, e11⟩ := q10
  obtain ⟨x11, s12, e12⟩ := q11
  obtain ⟨o, s13, e13⟩ := q12
  simp only at *
  cases o with
  | none => simp at h
  | some l =>
    simp only at h
    split at h
    · rename_i hc
      have h := Option.some.inj h
      refine ⟨by rw [← h]; exact hc.2, ?_⟩
      rw [← h]
      exact rec_back d0 d1 d2 d3 d4 d5 d6 d7 d8 d9 d10 d11 d12 hc.1
    · cases h
end Go.Proofs.Base
