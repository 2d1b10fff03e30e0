/-
  Values, variables, records: taken as they were laid, and nothing else. Printed by gentaker.py.
-/
import Derived.Test.YtcfdbdmefdffdaaTakeQ
set_option linter.unusedVariables false
set_option linter.unusedSimpArgs false
namespace Go.Proofs.Base
open Go Go.RowKit

theorem takeRaw_full {v : GVal} (hm : v.may = true) (hw : v.wf) (x : ByteArray) : takeRaw (v.bytes ++ x) 0 = (v, x, 0) := by
  have hm' : mayV v.k v.n v.s = true := hm
  obtain ⟨k1, hs⟩ := mayV_k hm'
  obtain ⟨n1, s1⟩ := mayV_rest hm'
  unfold GVal.bytes valB
  rw [if_pos hm', app_assoc]
  by_cases h3 : v.k = 3
  · rw [if_pos h3, h3]
    have h1 : rdByte (ofN [(3 : Int).toNat] ++ (textB v.s ++ x)) 0 = (3, textB v.s ++ x, 0) := rdByte_full (by decide) _
    have h2 := rdText_full (m := 1024) (t := v.s) (by omega) hw.2.2 x
    unfold takeRaw
    rw [h1]
    simp only [if_true]
    rw [h2]
    exact Prod.ext (GVal.ext h3.symm (n1 h3).symm rfl) rfl
  · rw [if_neg h3]
    have hk : v.k.toNat ≠ 3 := by omega
    have h1 : rdByte (ofN [v.k.toNat] ++ (intB v.n ++ x)) 0 = (v.k.toNat, intB v.n ++ x, 0) := rdByte_full (by omega) _
    have h2 := rdInt_full hw.2.1 x
    unfold takeRaw
    rw [h1]
    simp only [if_neg hk]
    rw [h2]
    exact Prod.ext (GVal.ext (by show (v.k.toNat : Int) = v.k; omega) rfl (size_zero (s1 h3)).symm) rfl
theorem takeRaw_back {s s' : ByteArray} {e : Nat} {u : GVal} (h : takeRaw s e = (u, s', 0)) (hm : u.may = true) : e = 0 ∧ s = u.bytes ++ s' := by
  have hm' : mayV u.k u.n u.s = true := hm
  unfold takeRaw at h
  obtain ⟨b, s1, e1⟩ : ∃ q, q = rdByte s e := ⟨_, rfl⟩
  generalize hq : rdByte s e = q at h
  obtain ⟨b, s1, e1⟩ := q
  simp only at h
  unfold GVal.bytes valB
  rw [if_pos hm', app_assoc]
  by_cases h3 : b = 3
  · rw [if_pos h3] at h
    generalize hq2 : rdText 1024 s1 e1 = q2 at h
    obtain ⟨t, s2, e2⟩ := q2
    simp only [Prod.mk.injEq] at h
    obtain ⟨hu, hs, he⟩ := h
    subst hu hs he
    obtain ⟨a1, a2⟩ := rdText_back hq2
    subst a1
    obtain ⟨b1, _, b2⟩ := rdByte_back hq
    refine ⟨b1, ?_⟩
    rw [if_pos rfl, b2, a2, h3]
    rfl
  · rw [if_neg h3] at h
    generalize hq2 : rdInt s1 e1 = q2 at h
    obtain ⟨t, s2, e2⟩ := q2
    simp only [Prod.mk.injEq] at h
    obtain ⟨hu, hs, he⟩ := h
    subst hu hs he
    obtain ⟨a1, a2⟩ := rdInt_back hq2
    subst a1
    obtain ⟨b1, _, b2⟩ := rdByte_back hq
    refine ⟨b1, ?_⟩
    have hk : ¬ ((b : Int) = 3) := by omega
    rw [if_neg hk, b2, a2]
    rfl
theorem takeGo_full : ∀ (l acc : List GVar) (x : ByteArray), (∀ v ∈ l, v.v.may = true ∧ v.wf ∧ v.name.size ≤ 32) → takeGo l.length (varsCat l ++ x) 0 acc = (some (acc ++ l), x, 0)
  | [], acc, x, _ => by
    show takeGo 0 (ByteArray.empty ++ x) 0 acc = _
    rw [empty_app, List.append_nil]
    rfl
  | a :: l, acc, x, h => by
    obtain ⟨h1, h2, h3⟩ := h a List.mem_cons_self
    have e : varsCat (a :: l) ++ x = textB a.name ++ (a.v.bytes ++ (varsCat l ++ x)) := by
      show ((textB a.name ++ a.v.bytes) ++ varsCat l) ++ x = _
      rw [app_assoc, app_assoc]
    rw [e]
    have t1 := rdText_full (m := 32) (t := a.name) (by omega) h2.1 (a.v.bytes ++ (varsCat l ++ x))
    have t2 := takeRaw_full h1 h2.2 (varsCat l ++ x)
    have ok : takeOk (a.v.bytes ++ (varsCat l ++ x)) 0 = true := by unfold takeOk; rw [t2]; simp [h1]
    have tv : takeV (a.v.bytes ++ (varsCat l ++ x)) 0 = a.v := by unfold takeV; rw [if_pos ok, t2]
    show takeGo (l.length + 1) _ 0 acc = _
    unfold takeGo
    rw [t1]
    simp only
    rw [if_pos ok, t2, tv]
    simp only
    rw [takeGo_full l (acc ++ [(⟨a.name, a.v⟩ : GVar)]) x (fun v hv => h v (List.mem_cons_of_mem _ hv)), List.append_assoc]
    rfl
theorem takeGo_back : ∀ (m : Nat) (s : ByteArray) (e : Nat) (acc L : List GVar) (s' : ByteArray), takeGo m s e acc = (some L, s', 0) → e = 0 ∧ ∃ l, L = acc ++ l ∧ l.length = m ∧ s = varsCat l ++ s'
  | 0, s, e, acc, L, s', h => by
    unfold takeGo at h
    simp only [Prod.mk.injEq, Option.some.injEq] at h
    exact ⟨h.2.2, [], by rw [List.append_nil]; exact h.1.symm, rfl, by rw [h.2.1]; exact (empty_app _).symm⟩
  | m + 1, s, e, acc, L, s', h => by
    unfold takeGo at h
    generalize hq : rdText 32 s e = q at h
    obtain ⟨nm, s1, e1⟩ := q
    simp only at h
    by_cases ok : takeOk s1 e1 = true
    · rw [if_pos ok] at h
      obtain ⟨h1, l, h2, h3, h4⟩ := takeGo_back m _ _ _ _ _ h
      have ok2 := ok
      unfold takeOk at ok2
      simp only [Bool.and_eq_true, decide_eq_true_eq] at ok2
      have tv : takeV s1 e1 = (takeRaw s1 e1).1 := by unfold takeV; rw [if_pos ok]
      rw [tv] at h2
      generalize hq2 : takeRaw s1 e1 = q2 at *
      obtain ⟨u, s2, e2⟩ := q2
      simp only at *
      subst h1
      obtain ⟨a1, a2⟩ := takeRaw_back hq2 ok2.2
      subst a1
      obtain ⟨b1, b2⟩ := rdText_back hq
      refine ⟨b1, ⟨nm, u⟩ :: l, ?_, by rw [List.length_cons, h3], ?_⟩
      · rw [h2, List.append_assoc]; rfl
      · show s = ((textB nm ++ u.bytes) ++ varsCat l) ++ s'
        rw [b2, a2, h4, app_assoc, app_assoc]
    · rw [if_neg ok] at h
      simp at h
theorem takeVars_full {l : List GVar} (hr : rightV l = true) (hw : ∀ v ∈ l, v.wf) (x : ByteArray) : takeVars (varsB l ++ x) 0 = (some l, x, 0) := by
  obtain ⟨h16, hall⟩ := rightV_all hr
  unfold varsB
  rw [if_pos hr, app_assoc]
  have h1 := rdUint_full (v := l.length) (by omega) (varsCat l ++ x)
  unfold takeVars
  rw [h1]
  simp only
  rw [if_neg (by omega), takeGo_full l [] x (fun v hv => ⟨(hall v hv).2, hw v hv, (named_size (hall v hv).1).1⟩), List.nil_append]
  unfold takeFin
  simp only
  rw [if_pos ⟨trivial, hr⟩]
theorem takeVars_back {s s' : ByteArray} {e e' : Nat} {l : List GVar} (h : takeVars s e = (some l, s', e')) : e = 0 ∧ e' = 0 ∧ rightV l = true ∧ s = varsB l ++ s' := by
  unfold takeVars at h
  generalize hq : rdUint s e = q at h
  obtain ⟨n, s1, e1⟩ := q
  simp only at h
  by_cases h16 : 16 < n
  · rw [if_pos h16] at h; simp at h
  · rw [if_neg h16] at h
    generalize hq2 : takeGo n s1 e1 [] = q2 at h
    obtain ⟨o, s2, e2⟩ := q2
    cases o with
    | none => simp [takeFin] at h
    | some L =>
      unfold takeFin at h
      simp only at h
      by_cases hc : e2 = 0 ∧ rightV L = true
      · rw [if_pos hc] at h
        simp only [Prod.mk.injEq, Option.some.injEq] at h
        obtain ⟨a1, a2, a3⟩ := h
        subst a1 a2 a3
        obtain ⟨c1, c2⟩ := hc
        subst c1
        obtain ⟨b1, l', b2, b3, b4⟩ := takeGo_back _ _ _ _ _ _ hq2
        rw [List.nil_append] at b2
        subst b2 b1
        obtain ⟨d1, d2⟩ := rdUint_back hq
        refine ⟨d1, rfl, c2, ?_⟩
        unfold varsB
        rw [if_pos c2, d2, b4, b3, app_assoc]
      · rw [if_neg hc] at h; simp at h
end Go.Proofs.Base
