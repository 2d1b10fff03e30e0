/-
  Records (layer 12), as plain functions; no program.
-/
import Derived.Test.YtcfdbdmefdffdaaValP
set_option linter.unusedVariables false
set_option linter.unusedSimpArgs false
namespace Go.Proofs.Base
open Go Go.RowKit

structure GRec where
  cls : Int
  kind : Int
  frm : Int
  time : Int
  key : Int
  key2 : Int
  key3 : Int
  n : Int
  m : Int
  a : ByteArray
  b : ByteArray
  c : ByteArray
  vars : List GVar
def GRec.wf (r : GRec) : Prop := i64 r.cls ∧ i64 r.kind ∧ u64 r.frm ∧ i64 r.time ∧ u64 r.key ∧ u64 r.key2 ∧ u64 r.key3 ∧ i64 r.n ∧ i64 r.m ∧ okS r.a ∧ okS r.b ∧ okS r.c ∧ ∀ x ∈ r.vars, x.wf
/-- the pieces of a record's bytes, and the first ones of them together -/
def recHead (r : GRec) : ByteArray := ofN [(r.cls % 256).toNat, (r.kind % 256).toNat]
def recPiece (r : GRec) : Nat → ByteArray
  | 0 => uintB r.frm.toNat ++ intB r.time
  | 1 => uintB r.key.toNat ++ uintB r.key2.toNat ++ uintB r.key3.toNat
  | 2 => intB r.n ++ intB r.m
  | 3 => textB r.a ++ textB r.b ++ textB r.c
  | _ => varsB r.vars
def recAcc (r : GRec) : Nat → ByteArray
  | 0 => recHead r
  | k + 1 => recAcc r k ++ recPiece r k
def recText (r : GRec) : ByteArray := recAcc r 5
def kindsM (cls : Int) : Int := if cls = 2 then 24 else 16
def aMost (cls kind : Int) : Int := if cls = 1 ∧ kind = 1 then 8192 else 32
def bMost (cls kind : Int) : Int := if cls = 2 ∧ kind = 1 then 8192 else 1024
def recMayP (r : GRec) : Prop := 1 ≤ r.cls ∧ r.cls ≤ 3 ∧ 1 ≤ r.kind ∧ r.kind ≤ kindsM r.cls ∧ (r.cls = 1 ↔ r.frm = 0) ∧ 0 ≤ r.time ∧ r.time ≤ 1099511627776 ∧
  (r.a.size : Int) ≤ aMost r.cls r.kind ∧ (r.b.size : Int) ≤ bMost r.cls r.kind ∧ r.c.size ≤ 32 ∧ rightV r.vars = true ∧ (recText r).size ≤ 4096
instance (r : GRec) : Decidable (recMayP r) := by unfold recMayP; infer_instance
def recMay (r : GRec) : Bool := decide (recMayP r)
/-- what rec.Bytes answers: the bytes and what is wrong -/
def recB (r : GRec) : ByteArray × Int := if recMay r then (recText r, 0) else (⟨#[]⟩, 1)
theorem varsCat_size : ∀ (l : List GVar), (∀ x ∈ l, x.wf) → (∀ x ∈ l, named x.name = true ∧ x.v.may = true) → (varsCat l).size ≤ l.length * 2000
  | [], _, _ => Nat.le_refl _
  | x :: r, hw, ha => by
    have h1 := varsCat_size r (fun y hy => hw y (List.mem_cons_of_mem _ hy)) (fun y hy => ha y (List.mem_cons_of_mem _ hy))
    have h2 := ha x List.mem_cons_self
    have h3 := hw x List.mem_cons_self
    have h4 := (named_size h2.1).1
    have h5 := textB_size (s := x.name) (by omega)
    have h6 : x.v.bytes.size ≤ 1100 := valB_size h3.2.2.1 h2.2
    show ((textB x.name ++ x.v.bytes) ++ varsCat r).size ≤ _
    rw [app_size, app_size, List.length_cons]
    omega
theorem varsB_size {l : List GVar} (hw : ∀ x ∈ l, x.wf) : (varsB l).size ≤ 40000 := by
  unfold varsB
  split
  · rename_i h
    obtain ⟨h16, hall⟩ := rightV_all h
    have h1 := varsCat_size l hw hall
    have h2 := uintB_size (v := l.length) (by omega)
    rw [app_size]
    omega
  · exact Nat.zero_le _
theorem u64_toNat {n : Int} (h : u64 n) : n.toNat < 18446744073709551616 := by have := h.1; have := h.2; omega
theorem recPiece_size {r : GRec} (h : r.wf) : ∀ k, (recPiece r k).size ≤ 422212465053736 := by
  obtain ⟨h1, h2, h3, h4, h5, h6, h7, h8, h9, h10, h11, h12, h13⟩ := h
  intro k
  unfold recPiece
  split
  · have := uintB_size (u64_toNat h3); have := intB_size h4.1 h4.2; rw [app_size]; omega
  · have := uintB_size (u64_toNat h5); have := uintB_size (u64_toNat h6); have := uintB_size (u64_toNat h7); rw [app_size, app_size]; omega
  · have := intB_size h8.1 h8.2; have := intB_size h9.1 h9.2; rw [app_size]; omega
  · have := textB_size h10; have := textB_size h11; have := textB_size h12
    unfold okS at h10 h11 h12
    rw [app_size, app_size]; omega
  · have := varsB_size h13; omega
theorem recAcc_size {r : GRec} (h : r.wf) : ∀ k, (recAcc r k).size ≤ 2 + k * 422212465053736
  | 0 => by show (recHead r).size ≤ _; rw [recHead, ofN_size]; simp
  | k + 1 => by
    have h1 := recAcc_size h k
    have h2 := recPiece_size h k
    show (recAcc r k ++ recPiece r k).size ≤ _
    rw [app_size]
    omega
end Go.Proofs.Base
