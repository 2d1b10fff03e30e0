/-
  Records that may be have the same bytes just if they are the same.
-/
import Derived.Test.YtcfdbdmefdffdaaRecG
set_option linter.unusedVariables false
set_option linter.unusedSimpArgs false
namespace Go.Proofs.Base
open Go Go.RowKit

theorem byte_pre {a b : Nat} {x y : ByteArray} (ha : a < 256) (hb : b < 256) (h : ofN [a] ++ x = ofN [b] ++ y) : a = b ∧ x = y := by
  have h1 := congrArg nb h
  rw [nb_append, nb_append, nb_ofN (by simpa using ha), nb_ofN (by simpa using hb)] at h1
  simp only [List.cons_append, List.nil_append, List.cons.injEq] at h1
  exact ⟨h1.1, nb_inj h1.2⟩
theorem size_zero {s : ByteArray} (h : s.size = 0) : s = ByteArray.empty := by
  refine nb_inj ?_
  have h1 : (nb s).length = 0 := by rw [nb_length, h]
  rw [List.eq_nil_of_length_eq_zero h1]
  rfl
theorem mayV_rest {k n : Int} {s : ByteArray} (h : mayV k n s = true) : (k = 3 → n = 0) ∧ (k ≠ 3 → s.size = 0) := by
  unfold mayV at h
  by_cases h3 : k = 3
  · rw [if_pos h3] at h
    simp only [Bool.and_eq_true, decide_eq_true_eq] at h
    exact ⟨fun _ => h.1, fun hn => absurd h3 hn⟩
  · rw [if_neg h3] at h
    refine ⟨fun h' => absurd h' h3, fun _ => ?_⟩
    by_cases h2 : k = 2
    · rw [if_pos h2] at h
      simp only [Bool.and_eq_true, decide_eq_true_eq] at h
      exact h.2
    · rw [if_neg h2] at h
      by_cases h1 : k = 1
      · rw [if_pos h1] at h
        exact of_decide_eq_true h
      · rw [if_neg h1] at h; cases h
theorem valB_pre {v u : GVal} (hv : v.may = true) (hu : u.may = true) {x y : ByteArray} (h : v.bytes ++ x = u.bytes ++ y) : v = u ∧ x = y := by
  have hv' : mayV v.k v.n v.s = true := hv
  have hu' : mayV u.k u.n u.s = true := hu
  unfold GVal.bytes valB at h
  rw [if_pos hv', if_pos hu', app_assoc, app_assoc] at h
  obtain ⟨k1, _⟩ := mayV_k hv'
  obtain ⟨k2, _⟩ := mayV_k hu'
  obtain ⟨n1, s1⟩ := mayV_rest hv'
  obtain ⟨n2, s2⟩ := mayV_rest hu'
  obtain ⟨e1, e2⟩ := byte_pre (by omega) (by omega) h
  have ek : v.k = u.k := by omega
  by_cases h3 : v.k = 3
  · rw [if_pos h3, if_pos (ek ▸ h3)] at e2
    obtain ⟨e3, e4⟩ := textB_pre e2
    exact ⟨GVal.ext ek (by rw [n1 h3, n2 (ek ▸ h3)]) e3, e4⟩
  · rw [if_neg h3, if_neg (ek ▸ h3)] at e2
    obtain ⟨e3, e4⟩ := intB_pre e2
    exact ⟨GVal.ext ek e3 (by rw [size_zero (s1 h3), size_zero (s2 (ek ▸ h3))]), e4⟩
theorem varsCat_pre : ∀ (l m : List GVar), l.length = m.length → (∀ v ∈ l, v.v.may = true) → (∀ v ∈ m, v.v.may = true) → ∀ (x y : ByteArray), varsCat l ++ x = varsCat m ++ y → l = m ∧ x = y
  | [], [], _, _, _, x, y, h => by
    have h' : ByteArray.empty ++ x = ByteArray.empty ++ y := h
    rw [empty_app, empty_app] at h'
    exact ⟨rfl, h'⟩
  | [], b :: m, hl, _, _, _, _, _ => by cases hl
  | a :: l, [], hl, _, _, _, _, _ => by cases hl
  | a :: l, b :: m, hl, h1, h2, x, y, h => by
    have h' : ((textB a.name ++ a.v.bytes) ++ varsCat l) ++ x = ((textB b.name ++ b.v.bytes) ++ varsCat m) ++ y := h
    rw [app_assoc, app_assoc, app_assoc, app_assoc] at h'
    obtain ⟨e1, e2⟩ := textB_pre h'
    obtain ⟨e3, e4⟩ := valB_pre (h1 a List.mem_cons_self) (h2 b List.mem_cons_self) e2
    obtain ⟨e5, e6⟩ := varsCat_pre l m (by simpa using hl) (fun v hv => h1 v (List.mem_cons_of_mem _ hv)) (fun v hv => h2 v (List.mem_cons_of_mem _ hv)) x y e4
    exact ⟨by rw [GVar.ext e1 e3, e5], e6⟩
theorem varsB_pre {l m : List GVar} (hl : rightV l = true) (hm : rightV m = true) {x y : ByteArray} (h : varsB l ++ x = varsB m ++ y) : l = m ∧ x = y := by
  unfold varsB at h
  rw [if_pos hl, if_pos hm, app_assoc, app_assoc] at h
  obtain ⟨e1, e2⟩ := uintB_pre h
  exact varsCat_pre l m e1 (fun v hv => ((rightV_all hl).2 v hv).2) (fun v hv => ((rightV_all hm).2 v hv).2) x y e2
theorem kindsM_le (c : Int) : kindsM c ≤ 24 := by unfold kindsM; split <;> decide
theorem recText_inj {r s : GRec} (hr : r.wf) (hs : s.wf) (mr : recMayP r) (ms : recMayP s) (h : recText r = recText s) : r = s := by
  obtain ⟨c0, c1, k0, k1, _, _, _, _, _, _, vr, _⟩ := mr
  obtain ⟨c0', c1', k0', k1', _, _, _, _, _, _, vs, _⟩ := ms
  have := kindsM_le r.cls; have := kindsM_le s.cls
  have ef : r.frm.toNat = s.frm.toNat → r.frm = s.frm := by have := hr.2.2.1.1; have := hs.2.2.1.1; omega
  have e1' : r.key.toNat = s.key.toNat → r.key = s.key := by have := hr.2.2.2.2.1.1; have := hs.2.2.2.2.1.1; omega
  have e2' : r.key2.toNat = s.key2.toNat → r.key2 = s.key2 := by have := hr.2.2.2.2.2.1.1; have := hs.2.2.2.2.2.1.1; omega
  have e3' : r.key3.toNat = s.key3.toNat → r.key3 = s.key3 := by have := hr.2.2.2.2.2.2.1.1; have := hs.2.2.2.2.2.2.1.1; omega
  have h0 : recText r ++ ByteArray.empty = recText s ++ ByteArray.empty := by rw [h]
  have hd : ∀ q : GRec, recText q ++ ByteArray.empty = ofN [(q.cls % 256).toNat] ++ (ofN [(q.kind % 256).toNat] ++ (uintB q.frm.toNat ++ (intB q.time ++ (uintB q.key.toNat ++ (uintB q.key2.toNat ++ (uintB q.key3.toNat ++ (intB q.n ++ (intB q.m ++ (textB q.a ++ (textB q.b ++ (textB q.c ++ (varsB q.vars ++ ByteArray.empty)))))))))))) := fun q => by
    have e : recHead q = ofN [(q.cls % 256).toNat] ++ ofN [(q.kind % 256).toNat] := toL_inj (by simp [recHead, toL_ofN])
    show ((((((recHead q) ++ (uintB q.frm.toNat ++ intB q.time)) ++ (uintB q.key.toNat ++ uintB q.key2.toNat ++ uintB q.key3.toNat)) ++ (intB q.n ++ intB q.m)) ++ (textB q.a ++ textB q.b ++ textB q.c)) ++ varsB q.vars) ++ ByteArray.empty = _
    rw [e]
    simp only [app_assoc]
  rw [hd r, hd s] at h0
  clear hd h
  obtain ⟨a1, h0⟩ := byte_pre (by omega) (by omega) h0
  obtain ⟨a2, h0⟩ := byte_pre (by omega) (by omega) h0
  obtain ⟨a3, h0⟩ := uintB_pre h0
  obtain ⟨a4, h0⟩ := intB_pre h0
  obtain ⟨a5, h0⟩ := uintB_pre h0
  obtain ⟨a6, h0⟩ := uintB_pre h0
  obtain ⟨a7, h0⟩ := uintB_pre h0
  obtain ⟨a8, h0⟩ := intB_pre h0
  obtain ⟨a9, h0⟩ := intB_pre h0
  obtain ⟨a10, h0⟩ := textB_pre h0
  obtain ⟨a11, h0⟩ := textB_pre h0
  obtain ⟨a12, h0⟩ := textB_pre h0
  obtain ⟨a13, h0⟩ := varsB_pre vr vs h0
  have b1 : r.cls = s.cls := by omega
  have b2 : r.kind = s.kind := by omega
  have b3 := ef a3; have b5 := e1' a5; have b6 := e2' a6; have b7 := e3' a7
  cases r; cases s
  simp only at *
  subst b1 b2 b3 a4 b5 b6 b7 a8 a9 a10 a11 a12 a13
  rfl
end Go.Proofs.Base
