/-
  Values and variables (layer 9), as plain functions; no program.
-/
import Derived.Test.YthhgfdejadbigaaDoorReadP
set_option linter.unusedVariables false
set_option linter.unusedSimpArgs false
namespace Go.Proofs.Base
open Go Go.RowKit

/-- a number that an int64 holds -/
def i64 (n : Int) : Prop := -9223372036854775808 ≤ n ∧ n ≤ 9223372036854775807
def u64 (n : Int) : Prop := 0 ≤ n ∧ n ≤ 18446744073709551615
/-- a string that may come in -/
def okS (s : ByteArray) : Prop := s.size ≤ 140737488351232

structure GVal where
  k : Int
  n : Int
  s : ByteArray
structure GVar where
  name : ByteArray
  v : GVal
@[ext] theorem GVal.ext {a b : GVal} (h1 : a.k = b.k) (h2 : a.n = b.n) (h3 : a.s = b.s) : a = b := by cases a; cases b; simp_all
@[ext] theorem GVar.ext {a b : GVar} (h1 : a.name = b.name) (h2 : a.v = b.v) : a = b := by cases a; cases b; simp_all
def GVal.wf (v : GVal) : Prop := i64 v.k ∧ i64 v.n ∧ okS v.s
def GVar.wf (v : GVar) : Prop := okS v.name ∧ v.v.wf
def GVal.cells (v : GVal) : List Value := [.int .i64 v.k, .int .i64 v.n, .string v.s]
def GVar.cells (v : GVar) : List Value := [.string v.name, .int .i64 v.v.k, .int .i64 v.v.n, .string v.v.s]
def GVar.val (v : GVar) : Value := .agg #[.string v.name, .int .i64 v.v.k, .int .i64 v.v.n, .string v.v.s]
def GVal.val (v : GVal) : Value := .agg #[.int .i64 v.k, .int .i64 v.n, .string v.s]
def varCells (l : List GVar) : List Value := l.flatMap GVar.cells
def zeroV : GVal := ⟨0, 0, ByteArray.empty⟩

def mayV (k n : Int) (s : ByteArray) : Bool :=
  if k = 3 then decide (n = 0) && decide (s.size ≤ 1024)
  else if k = 2 then (decide (n = 0) || decide (n = 1)) && decide (s.size = 0)
  else if k = 1 then decide (s.size = 0) else false
def GVal.may (v : GVal) : Bool := mayV v.k v.n v.s

/-- a byte that may stand in a name behind its first one -/
def nameB (c : UInt8) : Bool := (decide (97 ≤ c.toNat) && decide (c.toNat ≤ 122)) || (decide (48 ≤ c.toNat) && decide (c.toNat ≤ 57)) || decide (c.toNat = 95)
def letterB (c : UInt8) : Bool := decide (97 ≤ c.toNat) && decide (c.toNat ≤ 122)
def words : List (List UInt8) := [[97, 110, 100], [111, 114], [110, 111, 116], [116, 114, 117, 101], [102, 97, 108, 115, 101], [108, 101, 110]]
def named (s : ByteArray) : Bool :=
  match toL s with
  | [] => false
  | c :: r => decide (s.size ≤ 32) && letterB c && r.all nameB && !words.contains (c :: r)

def wordBs : List ByteArray := words.map ofL
theorem named_nil {s : ByteArray} (h : ¬ 0 < s.size) : named s = false := by
  have : toL s = [] := List.eq_nil_of_length_eq_zero (by rw [toL_length]; omega)
  unfold named; rw [this]
theorem named_cons {s : ByteArray} (h : 0 < s.size) : named s = (decide (s.size ≤ 32) && letterB s[0] && ((toL s).drop 1).all nameB && !(wordBs.any fun y => s.toList == y.toList)) := by
  have h1 : toL s = s[0] :: (toL s).drop 1 := by have := toL_drop_cons (s := s) (k := 0) h; simpa using this
  have h2 : words.contains (toL s) = wordBs.any fun y => s.toList == y.toList := by
    rw [toList_toL, wordBs, List.any_map]
    rw [List.contains_eq_any_beq]
    apply congrArg (fun f => words.any f)
    funext l
    simp [toList_toL]
  unfold named
  rw [← h2]
  generalize (toL s).drop 1 = r at *
  rw [h1]


def valB (k n : Int) (s : ByteArray) : ByteArray := if mayV k n s then ofN [k.toNat] ++ (if k = 3 then textB s else intB n) else ByteArray.empty
def GVal.bytes (v : GVal) : ByteArray := valB v.k v.n v.s
def lessS (a b : ByteArray) : Bool := Op.bytesLess a.toList b.toList
def rightFrom : Option ByteArray → List GVar → Bool
  | _, [] => true
  | p, x :: r => named x.name && x.v.may && (match p with | none => true | some q => lessS q x.name) && rightFrom (some x.name) r
def rightV (l : List GVar) : Bool := decide (l.length ≤ 16) && rightFrom none l
theorem varCells_at {l : List GVar} {i : Nat} (h : i < l.length) : (varCells l)[i * 4 + 0]? = some (.string l[i].name) ∧ (varCells l)[i * 4 + 1]? = some (.int .i64 l[i].v.k) ∧ (varCells l)[i * 4 + 2]? = some (.int .i64 l[i].v.n) ∧ (varCells l)[i * 4 + 3]? = some (.string l[i].v.s) := by
  induction l generalizing i with
  | nil => simp at h
  | cons x r ih =>
    cases i with
    | zero => simp [varCells, GVar.cells]
    | succ i =>
      have h' : i < r.length := by simpa using h
      have e : ∀ j, (varCells (x :: r))[(i + 1) * 4 + j]? = (varCells r)[i * 4 + j]? := fun j => by
        have e1 : varCells (x :: r) = x.cells ++ varCells r := rfl
        have e2 : x.cells.length = 4 := rfl
        rw [e1, List.getElem?_append_right (by omega), e2]
        congr 1
        omega
      simp only [e, List.getElem_cons_succ]
      exact ih h'
theorem varCells_len (l : List GVar) : (varCells l).length = l.length * 4 := by
  induction l with
  | nil => rfl
  | cons x r ih =>
    have e1 : varCells (x :: r) = x.cells ++ varCells r := rfl
    have e2 : x.cells.length = 4 := rfl
    rw [e1, List.length_append, e2, ih, List.length_cons]
    omega
theorem mayV_k {k n : Int} {s : ByteArray} (h : mayV k n s = true) : (k = 1 ∨ k = 2 ∨ k = 3) ∧ s.size ≤ 1024 := by
  unfold mayV at h
  by_cases h3 : k = 3
  · rw [if_pos h3] at h
    simp only [Bool.and_eq_true, decide_eq_true_eq] at h
    exact ⟨.inr (.inr h3), h.2⟩
  · rw [if_neg h3] at h
    by_cases h2 : k = 2
    · rw [if_pos h2] at h
      simp only [Bool.and_eq_true, decide_eq_true_eq] at h
      exact ⟨.inr (.inl h2), by omega⟩
    · rw [if_neg h2] at h
      by_cases h1 : k = 1
      · rw [if_pos h1] at h
        simp only [decide_eq_true_eq] at h
        exact ⟨.inl h1, by omega⟩
      · rw [if_neg h1] at h; cases h
def varsCat : List GVar → ByteArray
  | [] => ByteArray.empty
  | x :: r => (textB x.name ++ x.v.bytes) ++ varsCat r
def varsB (l : List GVar) : ByteArray := if rightV l then uintB l.length ++ varsCat l else ByteArray.empty
theorem app_assoc (a b c : ByteArray) : a ++ b ++ c = a ++ (b ++ c) := toL_inj (by simp)
theorem app_empty (a : ByteArray) : a ++ ByteArray.empty = a := toL_inj (by rw [toL_append]; show toL a ++ [] = _; simp)
theorem empty_app (a : ByteArray) : ByteArray.empty ++ a = a := toL_inj (by rw [toL_append]; show [] ++ toL a = _; simp)
theorem app_size (a b : ByteArray) : (a ++ b).size = a.size + b.size := ByteArray.size_append
theorem valB_size {k n : Int} {s : ByteArray} (hn : i64 n) (h : mayV k n s = true) : (valB k n s).size ≤ 1100 := by
  obtain ⟨_, hs⟩ := mayV_k h
  unfold valB
  rw [if_pos h, app_size, ofN_size]
  split
  · have := uintB_size (v := s.size) (by omega)
    rw [textB, app_size]
    simp
    omega
  · have := intB_size hn.1 hn.2
    simp
    omega
theorem textB_size {s : ByteArray} (h : s.size ≤ 140737488351232) : (textB s).size ≤ s.size + 10 := by
  have := uintB_size (v := s.size) (by omega)
  rw [textB, app_size]
  omega
theorem named_size {s : ByteArray} (h : named s = true) : s.size ≤ 32 ∧ 0 < s.size := by
  by_cases h0 : 0 < s.size
  · rw [named_cons h0] at h
    simp only [Bool.and_eq_true, decide_eq_true_eq] at h
    exact ⟨h.1.1.1, h0⟩
  · rw [named_nil h0] at h; cases h
theorem rightFrom_all : ∀ (p : Option ByteArray) (l : List GVar), rightFrom p l = true → ∀ x ∈ l, named x.name = true ∧ x.v.may = true
  | _, [], _, x, hx => by cases hx
  | p, y :: r, h, x, hx => by
    simp only [rightFrom, Bool.and_eq_true] at h
    rcases List.mem_cons.1 hx with rfl | hx
    · exact ⟨h.1.1.1, h.1.1.2⟩
    · exact rightFrom_all _ r h.2 x hx
theorem rightV_all {l : List GVar} (h : rightV l = true) : l.length ≤ 16 ∧ ∀ x ∈ l, named x.name = true ∧ x.v.may = true := by
  unfold rightV at h
  simp only [Bool.and_eq_true, decide_eq_true_eq] at h
  exact ⟨h.1, rightFrom_all _ l h.2⟩
/-- Take: the value that is read, whether it may be; the reader behind it. -/
def takeRaw (s : ByteArray) (e : Nat) : GVal × ByteArray × Nat :=
  if (rdByte s e).1 = 3 then (⟨3, 0, (rdText 1024 (rdByte s e).2.1 (rdByte s e).2.2).1⟩, (rdText 1024 (rdByte s e).2.1 (rdByte s e).2.2).2)
  else (⟨(rdByte s e).1, (rdInt (rdByte s e).2.1 (rdByte s e).2.2).1, ByteArray.empty⟩, (rdInt (rdByte s e).2.1 (rdByte s e).2.2).2)
def takeOk (s : ByteArray) (e : Nat) : Bool := decide ((takeRaw s e).2.2 = 0) && (takeRaw s e).1.may
def takeV (s : ByteArray) (e : Nat) : GVal := if takeOk s e then (takeRaw s e).1 else zeroV
theorem rdByte_size (s : ByteArray) (e : Nat) : (rdByte s e).2.1.size ≤ s.size := takeM_size _ _ _ _
theorem rdUint_size (s : ByteArray) (e : Nat) : (rdUint s e).2.1.size ≤ s.size := takeM_size _ _ _ _
theorem rdInt_size (s : ByteArray) (e : Nat) : (rdInt s e).2.1.size ≤ s.size := takeM_size _ _ _ _
theorem rdText_size (m : Int) (s : ByteArray) (e : Nat) : (rdText m s e).2.1.size ≤ s.size := takeM_size _ _ _ _
theorem takeRaw_size (s : ByteArray) (e : Nat) : (takeRaw s e).2.1.size ≤ s.size := by
  have := rdByte_size s e
  unfold takeRaw
  split
  · exact Nat.le_trans (rdText_size _ _ _) this
  · exact Nat.le_trans (rdInt_size _ _) this
theorem rdByte_lt (s : ByteArray) (e : Nat) : (rdByte s e).1 < 256 := by
  unfold rdByte takeM
  split
  · show 0 < 256; omega
  · split
    · show 0 < 256; omega
    · show (byteOne s).1 < 256
      unfold byteOne
      split
      · exact UInt8.toNat_lt _
      · show 0 < 256; omega
theorem set_blk3 {w : World} {b : Nat} {x0 x1 x2 : Value} {t : TypeId} {f : Nat × Nat} (h : w.heap[b]? = some (.cells #[x0, x1, x2] t f)) (y0 y1 y2 : Value) :
    (((w.setCell ⟨b, 0, none⟩ y0).setCell ⟨b, 1, none⟩ y1).setCell ⟨b, 2, none⟩ y2).heap[b]? = some (.cells #[y0, y1, y2] t f) := set_blk (set_blk (set_blk h y0) y1) y2
/-- TakeVars: m variables more, behind those that are there. -/
def takeGo : Nat → ByteArray → Nat → List GVar → Option (List GVar) × ByteArray × Nat
  | 0, s, e, acc => (some acc, s, e)
  | m + 1, s, e, acc =>
    if takeOk (rdText 32 s e).2.1 (rdText 32 s e).2.2 then takeGo m (takeRaw (rdText 32 s e).2.1 (rdText 32 s e).2.2).2.1 (takeRaw (rdText 32 s e).2.1 (rdText 32 s e).2.2).2.2 (acc ++ [⟨(rdText 32 s e).1, takeV (rdText 32 s e).2.1 (rdText 32 s e).2.2⟩])
    else (none, (takeRaw (rdText 32 s e).2.1 (rdText 32 s e).2.2).2)
def takeFin : Option (List GVar) × ByteArray × Nat → Option (List GVar) × ByteArray × Nat
  | (none, s, e) => (none, s, e)
  | (some l, s, e) => if e = 0 ∧ rightV l = true then (some l, s, e) else (none, s, e)
def takeVars (s : ByteArray) (e : Nat) : Option (List GVar) × ByteArray × Nat :=
  if 16 < (rdUint s e).1 then (none, (rdUint s e).2) else takeFin (takeGo (rdUint s e).1 (rdUint s e).2.1 (rdUint s e).2.2 [])
theorem varCells_append (a b : List GVar) : varCells (a ++ b) = varCells a ++ varCells b := by simp [varCells]
theorem takeGo_size : ∀ (m : Nat) (s : ByteArray) (e : Nat) (acc : List GVar), (takeGo m s e acc).2.1.size ≤ s.size
  | 0, s, e, acc => Nat.le_refl _
  | m + 1, s, e, acc => by
    have h1 := rdText_size 32 s e
    have h2 := takeRaw_size (rdText 32 s e).2.1 (rdText 32 s e).2.2
    unfold takeGo
    split
    · exact Nat.le_trans (takeGo_size m _ _ _) (by omega)
    · exact Nat.le_trans h2 h1
theorem unzig_i64 {v : Nat} (h : v < 18446744073709551616) : i64 (unzig v) := by
  unfold unzig i64
  split <;> omega
theorem rdInt_i64 (s : ByteArray) (e : Nat) : i64 (rdInt s e).1 := by
  unfold rdInt takeM
  split
  · show i64 0; unfold i64; omega
  · split
    · show i64 0; unfold i64; omega
    · exact unzig_i64 (numM_range _).1
theorem rdUint_lt (s : ByteArray) (e : Nat) : (rdUint s e).1 < 18446744073709551616 := by
  unfold rdUint takeM
  split
  · show 0 < _; omega
  · split
    · show 0 < _; omega
    · exact (numM_range _).1
theorem textOne_size (s : ByteArray) (m : Int) : (textOne s m).1.size ≤ s.size := by
  unfold textOne
  split
  · exact Nat.zero_le _
  · split
    · exact Nat.zero_le _
    · split
      · exact Nat.zero_le _
      · show (s.extract _ _).size ≤ _
        rw [ByteArray.size_extract]
        omega
theorem rdText_res (m : Int) (s : ByteArray) (e : Nat) : (rdText m s e).1.size ≤ s.size := by
  unfold rdText takeM
  split
  · exact Nat.zero_le _
  · split
    · exact Nat.zero_le _
    · exact textOne_size _ _
theorem takeV_wf {s : ByteArray} {e : Nat} (h : s.size ≤ 140737488351232) : (takeV s e).wf := by
  have h0 : zeroV.wf := ⟨by unfold i64 zeroV; simp, by unfold i64 zeroV; simp, Nat.zero_le _⟩
  have h1 := rdByte_lt s e
  have h2 := rdByte_size s e
  have h3 := rdText_res 1024 (rdByte s e).2.1 (rdByte s e).2.2
  have h4 := rdInt_i64 (rdByte s e).2.1 (rdByte s e).2.2
  unfold takeV
  split
  · unfold takeRaw
    split
    · exact ⟨by unfold i64; simp, by unfold i64; simp, Nat.le_trans (Nat.le_trans h3 h2) h⟩
    · exact ⟨by unfold i64; simp; omega, h4, Nat.zero_le _⟩
  · exact h0
end Go.Proofs.Base
