/-
  A State among a law's arguments, opened. Printed by gfold22.py.
-/
import Derived.Test.YtfjdllpacdobdaaGreatQ4c6be5a08b87
set_option linter.unusedVariables false
set_option linter.unusedSimpArgs false
namespace Go.Proofs.YtfjdllpacdobdaaGreat
open Go Go.RowKit Go.Proofs.Base Go.WideShapes Go.ChangeShapes
theorem cellsO_bool : Tryz.prog.cellsOf 4 = 1 := by kernel_rfl
theorem cellsO_u64s : Tryz.prog.cellsOf 85 = 1 := by kernel_rfl
theorem cellsO_state : Tryz.prog.cellsOf 33 = 12 := by kernel_rfl
theorem cellsO_Proc : Tryz.prog.cellsOf 92 = 2 := by kernel_rfl
theorem cellsO_sProc : Tryz.prog.cellsOf 23 = 1 := by kernel_rfl
theorem cellsO_Inst : Tryz.prog.cellsOf 104 = 3 := by kernel_rfl
theorem cellsO_sInst : Tryz.prog.cellsOf 24 = 1 := by kernel_rfl
theorem cellsO_Tok : Tryz.prog.cellsOf 58 = 6 := by kernel_rfl
theorem cellsO_sTok : Tryz.prog.cellsOf 25 = 1 := by kernel_rfl
theorem cellsO_Job : Tryz.prog.cellsOf 45 = 6 := by kernel_rfl
theorem cellsO_sJob : Tryz.prog.cellsOf 26 = 1 := by kernel_rfl
theorem cellsO_Tim : Tryz.prog.cellsOf 84 = 3 := by kernel_rfl
theorem cellsO_sTim : Tryz.prog.cellsOf 27 = 1 := by kernel_rfl
theorem cellsO_Sub : Tryz.prog.cellsOf 98 = 6 := by kernel_rfl
theorem cellsO_sSub : Tryz.prog.cellsOf 28 = 1 := by kernel_rfl
theorem cellsO_Kept : Tryz.prog.cellsOf 101 = 3 := by kernel_rfl
theorem cellsO_sKept : Tryz.prog.cellsOf 29 = 1 := by kernel_rfl
theorem cellsO_Lst : Tryz.prog.cellsOf 107 = 7 := by kernel_rfl
theorem cellsO_sLst : Tryz.prog.cellsOf 30 = 1 := by kernel_rfl
theorem cellsO_Msg : Tryz.prog.cellsOf 87 = 7 := by kernel_rfl
theorem cellsO_sMsg : Tryz.prog.cellsOf 31 = 1 := by kernel_rfl
section
variable {H : Type} {enc : TypeId × Value → H} {w : World} {base : Nat} {spare : Nat → Bool} {held : Bool}
theorem read_boolv {t : TypeId} {n : Nat} {c : Value} {x : DataW H × List MemPlace} (hu : Tryz.prog.underlying t = some .bool) (h : DataW.trod enc Tryz.prog w base spare held n t [c] = some x) : ∃ b, c = .bool b := by
  obtain ⟨b, e, _⟩ := DataW.trod_bool hu h
  exact ⟨b, by simpa using e⟩
theorem read_u64s {n : Nat} {c : Value} {x : DataW H × List MemPlace} (h : DataW.trod enc Tryz.prog w base spare held n 85 [c] = some x) (hl : Light 85 x.1) :
    ∃ l : List Int, Row w (fun _ => True) 1 l.length c (l.flatMap encU64) ∧ (∀ y ∈ l, u64 y) ∧ l.length * 8 ≤ 140737488351232 :=
  read_rows (ec := encU64) u64 ⟨0⟩ Tryz.underlying85 cells_uint64 (by kernel_rfl) lenU64 (by decide) (fun {n cs x} h hl => by
    obtain ⟨k, e, _, wk⟩ := DataW.trod_int Tryz.underlying22 h
    exact ⟨k, by simpa [encU64] using e, by have := bounds_u64 wk; exact this⟩) h hl
def GoodProc (w : World) (x : EProc) : Prop := (okS x.id) ∧ (okS x.bts)
set_option maxRecDepth 100000 in
theorem read_Proc {n : Nat} {cs : List Value} {x : DataW H × List MemPlace} (h : DataW.trod enc Tryz.prog w base spare held n 92 cs = some x) (hl : Light 92 x.1) : ∃ v : EProc, cs = encProc v ∧ GoodProc w v := by
  obtain ⟨xs, m, _, rfl, hcl, hlen, hf⟩ := DataW.trod_struct Tryz.underlying92 h
  match cs, hcl.trans cellsO_Proc, xs, hlen with
  | [c0, c1], _, [x0, x1], _ =>
    have g0 := fld hf (i := 0) rfl rfl cells_string (c := [c0]) rfl (x := x0) rfl
    obtain ⟨v0, rfl, w0⟩ := read_str Tryz.underlying9 (x := x0) g0 (light_part Tryz.underlying92 hl (j := 0) rfl rfl)
    have g1 := fld hf (i := 1) rfl rfl cells_string (c := [c1]) rfl (x := x1) rfl
    obtain ⟨v1, rfl, w1⟩ := read_str Tryz.underlying9 (x := x1) g1 (light_part Tryz.underlying92 hl (j := 1) rfl rfl)
    exact ⟨⟨v0, v1⟩, rfl, w0, w1⟩
theorem reads_Proc {n : Nat} {c : Value} {x : DataW H × List MemPlace} (h : DataW.trod enc Tryz.prog w base spare held n 23 [c] = some x) (hl : Light 23 x.1) :
    ∃ l : List EProc, Row w (fun _ => True) 2 l.length c (l.flatMap encProc) ∧ (∀ y ∈ l, GoodProc w y) ∧ l.length * 32 ≤ 140737488351232 :=
  read_rows (ec := encProc) (GoodProc w) ⟨⟨⟨#[]⟩, ⟨#[]⟩⟩⟩ Tryz.underlying23 cellsO_Proc (by kernel_rfl) lenProc (by decide) (fun h hl => read_Proc h hl) h hl
def GoodInst (w : World) (x : EInst) : Prop := (u64 x.key) ∧ (okS x.id) ∧ (VarsR w (fun _ => True) x.vA x.vN x.vC x.vars ∧ (∀ y ∈ x.vars, y.wf))
set_option maxRecDepth 100000 in
theorem read_Inst {n : Nat} {cs : List Value} {x : DataW H × List MemPlace} (h : DataW.trod enc Tryz.prog w base spare held n 104 cs = some x) (hl : Light 104 x.1) : ∃ v : EInst, cs = encInst v ∧ GoodInst w v := by
  obtain ⟨xs, m, _, rfl, hcl, hlen, hf⟩ := DataW.trod_struct Tryz.underlying104 h
  match cs, hcl.trans cellsO_Inst, xs, hlen with
  | [c0, c1, c2], _, [x0, x1, x2], _ =>
    have g0 := fld hf (i := 0) rfl rfl cells_uint64 (c := [c0]) rfl (x := x0) rfl
    obtain ⟨v0, rfl, w0⟩ := read_u64 Tryz.underlying22 (x := x0) g0
    have g1 := fld hf (i := 1) rfl rfl cells_string (c := [c1]) rfl (x := x1) rfl
    obtain ⟨v1, rfl, w1⟩ := read_str Tryz.underlying9 (x := x1) g1 (light_part Tryz.underlying104 hl (j := 1) rfl rfl)
    have g2 := fld hf (i := 2) rfl rfl cells_vars (c := [c2]) rfl (x := x2) rfl
    obtain ⟨l2, r2, y2, z2⟩ := read_varsR (x := x2) g2 (light_part Tryz.underlying104 hl (j := 2) rfl rfl)
    obtain ⟨A2, C2, e2, _, _⟩ := r2.open_
    subst e2
    exact ⟨⟨v0, v1, A2, l2.length, C2, l2⟩, rfl, w0, w1, ⟨⟨rfl, (by show l2.length * 48 ≤ _; omega), r2⟩, y2⟩⟩
theorem reads_Inst {n : Nat} {c : Value} {x : DataW H × List MemPlace} (h : DataW.trod enc Tryz.prog w base spare held n 24 [c] = some x) (hl : Light 24 x.1) :
    ∃ l : List EInst, Row w (fun _ => True) 3 l.length c (l.flatMap encInst) ∧ (∀ y ∈ l, GoodInst w y) ∧ l.length * 48 ≤ 140737488351232 :=
  read_rows (ec := encInst) (GoodInst w) ⟨⟨0, ⟨#[]⟩, none, 0, 0, []⟩⟩ Tryz.underlying24 cellsO_Inst (by kernel_rfl) lenInst (by decide) (fun h hl => read_Inst h hl) h hl
def GoodTok (w : World) (x : ETok) : Prop := (u64 x.key) ∧ (u64 x.inst) ∧ (u64 x.scope) ∧ (i64 x.node) ∧ (i64 x.flow) ∧ (okS x.stuck)
set_option maxRecDepth 100000 in
theorem read_Tok {n : Nat} {cs : List Value} {x : DataW H × List MemPlace} (h : DataW.trod enc Tryz.prog w base spare held n 58 cs = some x) (hl : Light 58 x.1) : ∃ v : ETok, cs = encTok v ∧ GoodTok w v := by
  obtain ⟨xs, m, _, rfl, hcl, hlen, hf⟩ := DataW.trod_struct Tryz.underlying58 h
  match cs, hcl.trans cellsO_Tok, xs, hlen with
  | [c0, c1, c2, c3, c4, c5], _, [x0, x1, x2, x3, x4, x5], _ =>
    have g0 := fld hf (i := 0) rfl rfl cells_uint64 (c := [c0]) rfl (x := x0) rfl
    obtain ⟨v0, rfl, w0⟩ := read_u64 Tryz.underlying22 (x := x0) g0
    have g1 := fld hf (i := 1) rfl rfl cells_uint64 (c := [c1]) rfl (x := x1) rfl
    obtain ⟨v1, rfl, w1⟩ := read_u64 Tryz.underlying22 (x := x1) g1
    have g2 := fld hf (i := 2) rfl rfl cells_uint64 (c := [c2]) rfl (x := x2) rfl
    obtain ⟨v2, rfl, w2⟩ := read_u64 Tryz.underlying22 (x := x2) g2
    have g3 := fld hf (i := 3) rfl rfl cells_int (c := [c3]) rfl (x := x3) rfl
    obtain ⟨v3, rfl, w3⟩ := read_i64 Tryz.underlying3 (x := x3) g3
    have g4 := fld hf (i := 4) rfl rfl cells_int (c := [c4]) rfl (x := x4) rfl
    obtain ⟨v4, rfl, w4⟩ := read_i64 Tryz.underlying3 (x := x4) g4
    have g5 := fld hf (i := 5) rfl rfl cells_string (c := [c5]) rfl (x := x5) rfl
    obtain ⟨v5, rfl, w5⟩ := read_str Tryz.underlying9 (x := x5) g5 (light_part Tryz.underlying58 hl (j := 5) rfl rfl)
    exact ⟨⟨v0, v1, v2, v3, v4, v5⟩, rfl, w0, w1, w2, w3, w4, w5⟩
theorem reads_Tok {n : Nat} {c : Value} {x : DataW H × List MemPlace} (h : DataW.trod enc Tryz.prog w base spare held n 25 [c] = some x) (hl : Light 25 x.1) :
    ∃ l : List ETok, Row w (fun _ => True) 6 l.length c (l.flatMap encTok) ∧ (∀ y ∈ l, GoodTok w y) ∧ l.length * 56 ≤ 140737488351232 :=
  read_rows (ec := encTok) (GoodTok w) ⟨⟨0, 0, 0, 0, 0, ⟨#[]⟩⟩⟩ Tryz.underlying25 cellsO_Tok (by kernel_rfl) lenTok (by decide) (fun h hl => read_Tok h hl) h hl
def GoodJob (w : World) (x : EJob) : Prop := (u64 x.key) ∧ (u64 x.token) ∧ (okS x.typ) ∧ (i64 x.retries) ∧ (okS x.worker) ∧ (i64 x.till)
set_option maxRecDepth 100000 in
theorem read_Job {n : Nat} {cs : List Value} {x : DataW H × List MemPlace} (h : DataW.trod enc Tryz.prog w base spare held n 45 cs = some x) (hl : Light 45 x.1) : ∃ v : EJob, cs = encJob v ∧ GoodJob w v := by
  obtain ⟨xs, m, _, rfl, hcl, hlen, hf⟩ := DataW.trod_struct Tryz.underlying45 h
  match cs, hcl.trans cellsO_Job, xs, hlen with
  | [c0, c1, c2, c3, c4, c5], _, [x0, x1, x2, x3, x4, x5], _ =>
    have g0 := fld hf (i := 0) rfl rfl cells_uint64 (c := [c0]) rfl (x := x0) rfl
    obtain ⟨v0, rfl, w0⟩ := read_u64 Tryz.underlying22 (x := x0) g0
    have g1 := fld hf (i := 1) rfl rfl cells_uint64 (c := [c1]) rfl (x := x1) rfl
    obtain ⟨v1, rfl, w1⟩ := read_u64 Tryz.underlying22 (x := x1) g1
    have g2 := fld hf (i := 2) rfl rfl cells_string (c := [c2]) rfl (x := x2) rfl
    obtain ⟨v2, rfl, w2⟩ := read_str Tryz.underlying9 (x := x2) g2 (light_part Tryz.underlying45 hl (j := 2) rfl rfl)
    have g3 := fld hf (i := 3) rfl rfl cells_int (c := [c3]) rfl (x := x3) rfl
    obtain ⟨v3, rfl, w3⟩ := read_i64 Tryz.underlying3 (x := x3) g3
    have g4 := fld hf (i := 4) rfl rfl cells_string (c := [c4]) rfl (x := x4) rfl
    obtain ⟨v4, rfl, w4⟩ := read_str Tryz.underlying9 (x := x4) g4 (light_part Tryz.underlying45 hl (j := 4) rfl rfl)
    have g5 := fld hf (i := 5) rfl rfl cells_int64 (c := [c5]) rfl (x := x5) rfl
    obtain ⟨v5, rfl, w5⟩ := read_i64 Tryz.underlying2 (x := x5) g5
    exact ⟨⟨v0, v1, v2, v3, v4, v5⟩, rfl, w0, w1, w2, w3, w4, w5⟩
theorem reads_Job {n : Nat} {c : Value} {x : DataW H × List MemPlace} (h : DataW.trod enc Tryz.prog w base spare held n 26 [c] = some x) (hl : Light 26 x.1) :
    ∃ l : List EJob, Row w (fun _ => True) 6 l.length c (l.flatMap encJob) ∧ (∀ y ∈ l, GoodJob w y) ∧ l.length * 64 ≤ 140737488351232 :=
  read_rows (ec := encJob) (GoodJob w) ⟨⟨0, 0, ⟨#[]⟩, 0, ⟨#[]⟩, 0⟩⟩ Tryz.underlying26 cellsO_Job (by kernel_rfl) lenJob (by decide) (fun h hl => read_Job h hl) h hl
def GoodTim (w : World) (x : ETim) : Prop := (u64 x.token) ∧ (i64 x.node) ∧ (i64 x.due)
set_option maxRecDepth 100000 in
theorem read_Tim {n : Nat} {cs : List Value} {x : DataW H × List MemPlace} (h : DataW.trod enc Tryz.prog w base spare held n 84 cs = some x) (hl : Light 84 x.1) : ∃ v : ETim, cs = encTim v ∧ GoodTim w v := by
  obtain ⟨xs, m, _, rfl, hcl, hlen, hf⟩ := DataW.trod_struct Tryz.underlying84 h
  match cs, hcl.trans cellsO_Tim, xs, hlen with
  | [c0, c1, c2], _, [x0, x1, x2], _ =>
    have g0 := fld hf (i := 0) rfl rfl cells_uint64 (c := [c0]) rfl (x := x0) rfl
    obtain ⟨v0, rfl, w0⟩ := read_u64 Tryz.underlying22 (x := x0) g0
    have g1 := fld hf (i := 1) rfl rfl cells_int (c := [c1]) rfl (x := x1) rfl
    obtain ⟨v1, rfl, w1⟩ := read_i64 Tryz.underlying3 (x := x1) g1
    have g2 := fld hf (i := 2) rfl rfl cells_int64 (c := [c2]) rfl (x := x2) rfl
    obtain ⟨v2, rfl, w2⟩ := read_i64 Tryz.underlying2 (x := x2) g2
    exact ⟨⟨v0, v1, v2⟩, rfl, w0, w1, w2⟩
theorem reads_Tim {n : Nat} {c : Value} {x : DataW H × List MemPlace} (h : DataW.trod enc Tryz.prog w base spare held n 27 [c] = some x) (hl : Light 27 x.1) :
    ∃ l : List ETim, Row w (fun _ => True) 3 l.length c (l.flatMap encTim) ∧ (∀ y ∈ l, GoodTim w y) ∧ l.length * 24 ≤ 140737488351232 :=
  read_rows (ec := encTim) (GoodTim w) ⟨⟨0, 0, 0⟩⟩ Tryz.underlying27 cellsO_Tim (by kernel_rfl) lenTim (by decide) (fun h hl => read_Tim h hl) h hl
def GoodSub (w : World) (x : ESub) : Prop := (u64 x.token) ∧ (u64 x.inst) ∧ (i64 x.node) ∧ (okS x.name) ∧ (okS x.key)
set_option maxRecDepth 100000 in
theorem read_Sub {n : Nat} {cs : List Value} {x : DataW H × List MemPlace} (h : DataW.trod enc Tryz.prog w base spare held n 98 cs = some x) (hl : Light 98 x.1) : ∃ v : ESub, cs = encSub v ∧ GoodSub w v := by
  obtain ⟨xs, m, _, rfl, hcl, hlen, hf⟩ := DataW.trod_struct Tryz.underlying98 h
  match cs, hcl.trans cellsO_Sub, xs, hlen with
  | [c0, c1, c2, c3, c4, c5], _, [x0, x1, x2, x3, x4, x5], _ =>
    have g0 := fld hf (i := 0) rfl rfl cells_uint64 (c := [c0]) rfl (x := x0) rfl
    obtain ⟨v0, rfl, w0⟩ := read_u64 Tryz.underlying22 (x := x0) g0
    have g1 := fld hf (i := 1) rfl rfl cells_uint64 (c := [c1]) rfl (x := x1) rfl
    obtain ⟨v1, rfl, w1⟩ := read_u64 Tryz.underlying22 (x := x1) g1
    have g2 := fld hf (i := 2) rfl rfl cells_int (c := [c2]) rfl (x := x2) rfl
    obtain ⟨v2, rfl, w2⟩ := read_i64 Tryz.underlying3 (x := x2) g2
    have g3 := fld hf (i := 3) rfl rfl cells_string (c := [c3]) rfl (x := x3) rfl
    obtain ⟨v3, rfl, w3⟩ := read_str Tryz.underlying9 (x := x3) g3 (light_part Tryz.underlying98 hl (j := 3) rfl rfl)
    have g4 := fld hf (i := 4) rfl rfl cells_string (c := [c4]) rfl (x := x4) rfl
    obtain ⟨v4, rfl, w4⟩ := read_str Tryz.underlying9 (x := x4) g4 (light_part Tryz.underlying98 hl (j := 4) rfl rfl)
    have g5 := fld hf (i := 5) rfl rfl cellsO_bool (c := [c5]) rfl (x := x5) rfl
    obtain ⟨v5, rfl⟩ := read_boolv Tryz.underlying4 (x := x5) g5
    exact ⟨⟨v0, v1, v2, v3, v4, v5⟩, rfl, w0, w1, w2, w3, w4⟩
theorem reads_Sub {n : Nat} {c : Value} {x : DataW H × List MemPlace} (h : DataW.trod enc Tryz.prog w base spare held n 28 [c] = some x) (hl : Light 28 x.1) :
    ∃ l : List ESub, Row w (fun _ => True) 6 l.length c (l.flatMap encSub) ∧ (∀ y ∈ l, GoodSub w y) ∧ l.length * 64 ≤ 140737488351232 :=
  read_rows (ec := encSub) (GoodSub w) ⟨⟨0, 0, 0, ⟨#[]⟩, ⟨#[]⟩, false⟩⟩ Tryz.underlying28 cellsO_Sub (by kernel_rfl) lenSub (by decide) (fun h hl => read_Sub h hl) h hl
def GoodKept (w : World) (x : EKept) : Prop := (u64 x.token) ∧ (u64 x.message) ∧ (i64 x.node)
set_option maxRecDepth 100000 in
theorem read_Kept {n : Nat} {cs : List Value} {x : DataW H × List MemPlace} (h : DataW.trod enc Tryz.prog w base spare held n 101 cs = some x) (hl : Light 101 x.1) : ∃ v : EKept, cs = encKept v ∧ GoodKept w v := by
  obtain ⟨xs, m, _, rfl, hcl, hlen, hf⟩ := DataW.trod_struct Tryz.underlying101 h
  match cs, hcl.trans cellsO_Kept, xs, hlen with
  | [c0, c1, c2], _, [x0, x1, x2], _ =>
    have g0 := fld hf (i := 0) rfl rfl cells_uint64 (c := [c0]) rfl (x := x0) rfl
    obtain ⟨v0, rfl, w0⟩ := read_u64 Tryz.underlying22 (x := x0) g0
    have g1 := fld hf (i := 1) rfl rfl cells_uint64 (c := [c1]) rfl (x := x1) rfl
    obtain ⟨v1, rfl, w1⟩ := read_u64 Tryz.underlying22 (x := x1) g1
    have g2 := fld hf (i := 2) rfl rfl cells_int (c := [c2]) rfl (x := x2) rfl
    obtain ⟨v2, rfl, w2⟩ := read_i64 Tryz.underlying3 (x := x2) g2
    exact ⟨⟨v0, v1, v2⟩, rfl, w0, w1, w2⟩
theorem reads_Kept {n : Nat} {c : Value} {x : DataW H × List MemPlace} (h : DataW.trod enc Tryz.prog w base spare held n 29 [c] = some x) (hl : Light 29 x.1) :
    ∃ l : List EKept, Row w (fun _ => True) 3 l.length c (l.flatMap encKept) ∧ (∀ y ∈ l, GoodKept w y) ∧ l.length * 24 ≤ 140737488351232 :=
  read_rows (ec := encKept) (GoodKept w) ⟨⟨0, 0, 0⟩⟩ Tryz.underlying29 cellsO_Kept (by kernel_rfl) lenKept (by decide) (fun h hl => read_Kept h hl) h hl
def GoodLst (w : World) (x : ELst) : Prop := (u64 x.token) ∧ (u64 x.inst) ∧ (i64 x.node) ∧ (okS x.name) ∧ (okS x.key) ∧ (u64 x.message) ∧ (VarsR w (fun _ => True) x.vA x.vN x.vC x.vars ∧ (∀ y ∈ x.vars, y.wf))
set_option maxRecDepth 100000 in
theorem read_Lst {n : Nat} {cs : List Value} {x : DataW H × List MemPlace} (h : DataW.trod enc Tryz.prog w base spare held n 107 cs = some x) (hl : Light 107 x.1) : ∃ v : ELst, cs = encLst v ∧ GoodLst w v := by
  obtain ⟨xs, m, _, rfl, hcl, hlen, hf⟩ := DataW.trod_struct Tryz.underlying107 h
  match cs, hcl.trans cellsO_Lst, xs, hlen with
  | [c0, c1, c2, c3, c4, c5, c6], _, [x0, x1, x2, x3, x4, x5, x6], _ =>
    have g0 := fld hf (i := 0) rfl rfl cells_uint64 (c := [c0]) rfl (x := x0) rfl
    obtain ⟨v0, rfl, w0⟩ := read_u64 Tryz.underlying22 (x := x0) g0
    have g1 := fld hf (i := 1) rfl rfl cells_uint64 (c := [c1]) rfl (x := x1) rfl
    obtain ⟨v1, rfl, w1⟩ := read_u64 Tryz.underlying22 (x := x1) g1
    have g2 := fld hf (i := 2) rfl rfl cells_int (c := [c2]) rfl (x := x2) rfl
    obtain ⟨v2, rfl, w2⟩ := read_i64 Tryz.underlying3 (x := x2) g2
    have g3 := fld hf (i := 3) rfl rfl cells_string (c := [c3]) rfl (x := x3) rfl
    obtain ⟨v3, rfl, w3⟩ := read_str Tryz.underlying9 (x := x3) g3 (light_part Tryz.underlying107 hl (j := 3) rfl rfl)
    have g4 := fld hf (i := 4) rfl rfl cells_string (c := [c4]) rfl (x := x4) rfl
    obtain ⟨v4, rfl, w4⟩ := read_str Tryz.underlying9 (x := x4) g4 (light_part Tryz.underlying107 hl (j := 4) rfl rfl)
    have g5 := fld hf (i := 5) rfl rfl cells_uint64 (c := [c5]) rfl (x := x5) rfl
    obtain ⟨v5, rfl, w5⟩ := read_u64 Tryz.underlying22 (x := x5) g5
    have g6 := fld hf (i := 6) rfl rfl cells_vars (c := [c6]) rfl (x := x6) rfl
    obtain ⟨l6, r6, y6, z6⟩ := read_varsR (x := x6) g6 (light_part Tryz.underlying107 hl (j := 6) rfl rfl)
    obtain ⟨A6, C6, e6, _, _⟩ := r6.open_
    subst e6
    exact ⟨⟨v0, v1, v2, v3, v4, v5, A6, l6.length, C6, l6⟩, rfl, w0, w1, w2, w3, w4, w5, ⟨⟨rfl, (by show l6.length * 48 ≤ _; omega), r6⟩, y6⟩⟩
theorem reads_Lst {n : Nat} {c : Value} {x : DataW H × List MemPlace} (h : DataW.trod enc Tryz.prog w base spare held n 30 [c] = some x) (hl : Light 30 x.1) :
    ∃ l : List ELst, Row w (fun _ => True) 7 l.length c (l.flatMap encLst) ∧ (∀ y ∈ l, GoodLst w y) ∧ l.length * 88 ≤ 140737488351232 :=
  read_rows (ec := encLst) (GoodLst w) ⟨⟨0, 0, 0, ⟨#[]⟩, ⟨#[]⟩, 0, none, 0, 0, []⟩⟩ Tryz.underlying30 cellsO_Lst (by kernel_rfl) lenLst (by decide) (fun h hl => read_Lst h hl) h hl
def GoodMsg (w : World) (x : EMsg) : Prop := (u64 x.key) ∧ (okS x.name) ∧ (okS x.dest) ∧ (okS x.id) ∧ (i64 x.till) ∧ (VarsR w (fun _ => True) x.vA x.vN x.vC x.vars ∧ (∀ y ∈ x.vars, y.wf)) ∧ (IntsR w (fun _ => True) x.iA x.iN x.iC x.insts ∧ x.iN * 8 ≤ 140737488351232)
set_option maxRecDepth 100000 in
theorem read_Msg {n : Nat} {cs : List Value} {x : DataW H × List MemPlace} (h : DataW.trod enc Tryz.prog w base spare held n 87 cs = some x) (hl : Light 87 x.1) : ∃ v : EMsg, cs = encMsg v ∧ GoodMsg w v := by
  obtain ⟨xs, m, _, rfl, hcl, hlen, hf⟩ := DataW.trod_struct Tryz.underlying87 h
  match cs, hcl.trans cellsO_Msg, xs, hlen with
  | [c0, c1, c2, c3, c4, c5, c6], _, [x0, x1, x2, x3, x4, x5, x6], _ =>
    have g0 := fld hf (i := 0) rfl rfl cells_uint64 (c := [c0]) rfl (x := x0) rfl
    obtain ⟨v0, rfl, w0⟩ := read_u64 Tryz.underlying22 (x := x0) g0
    have g1 := fld hf (i := 1) rfl rfl cells_string (c := [c1]) rfl (x := x1) rfl
    obtain ⟨v1, rfl, w1⟩ := read_str Tryz.underlying9 (x := x1) g1 (light_part Tryz.underlying87 hl (j := 1) rfl rfl)
    have g2 := fld hf (i := 2) rfl rfl cells_string (c := [c2]) rfl (x := x2) rfl
    obtain ⟨v2, rfl, w2⟩ := read_str Tryz.underlying9 (x := x2) g2 (light_part Tryz.underlying87 hl (j := 2) rfl rfl)
    have g3 := fld hf (i := 3) rfl rfl cells_string (c := [c3]) rfl (x := x3) rfl
    obtain ⟨v3, rfl, w3⟩ := read_str Tryz.underlying9 (x := x3) g3 (light_part Tryz.underlying87 hl (j := 3) rfl rfl)
    have g4 := fld hf (i := 4) rfl rfl cells_int64 (c := [c4]) rfl (x := x4) rfl
    obtain ⟨v4, rfl, w4⟩ := read_i64 Tryz.underlying2 (x := x4) g4
    have g5 := fld hf (i := 5) rfl rfl cells_vars (c := [c5]) rfl (x := x5) rfl
    obtain ⟨l5, r5, y5, z5⟩ := read_varsR (x := x5) g5 (light_part Tryz.underlying87 hl (j := 5) rfl rfl)
    obtain ⟨A5, C5, e5, _, _⟩ := r5.open_
    subst e5
    have g6 := fld hf (i := 6) rfl rfl cellsO_u64s (c := [c6]) rfl (x := x6) rfl
    obtain ⟨l6, r6, y6, z6⟩ := read_u64s (x := x6) g6 (light_part Tryz.underlying87 hl (j := 6) rfl rfl)
    obtain ⟨A6, C6, e6, _, _⟩ := r6.open_
    subst e6
    exact ⟨⟨v0, v1, v2, v3, v4, A5, l5.length, C5, l5, A6, l6.length, C6, l6⟩, rfl, w0, w1, w2, w3, w4, ⟨⟨rfl, (by show l5.length * 48 ≤ _; omega), r5⟩, y5⟩, ⟨⟨rfl, r6⟩, z6⟩⟩
theorem reads_Msg {n : Nat} {c : Value} {x : DataW H × List MemPlace} (h : DataW.trod enc Tryz.prog w base spare held n 31 [c] = some x) (hl : Light 31 x.1) :
    ∃ l : List EMsg, Row w (fun _ => True) 7 l.length c (l.flatMap encMsg) ∧ (∀ y ∈ l, GoodMsg w y) ∧ l.length * 112 ≤ 140737488351232 :=
  read_rows (ec := encMsg) (GoodMsg w) ⟨⟨0, ⟨#[]⟩, ⟨#[]⟩, ⟨#[]⟩, 0, none, 0, 0, [], none, 0, 0, []⟩⟩ Tryz.underlying31 cellsO_Msg (by kernel_rfl) lenMsg (by decide) (fun h hl => read_Msg h hl) h hl
structure GoodSt (w : World) (v : StV) (g : GSt) : Prop where
  st : StR w (fun _ => True) v g
  nums : u64 g.pos ∧ u64 g.done ∧ u64 g.made
  procs : (∀ x ∈ g.procs, GoodProc w x) ∧ g.procs.length * 32 ≤ 140737488351232
  insts : (∀ x ∈ g.insts, GoodInst w x) ∧ g.insts.length * 48 ≤ 140737488351232
  tokens : (∀ x ∈ g.tokens, GoodTok w x) ∧ g.tokens.length * 56 ≤ 140737488351232
  jobs : (∀ x ∈ g.jobs, GoodJob w x) ∧ g.jobs.length * 64 ≤ 140737488351232
  timers : (∀ x ∈ g.timers, GoodTim w x) ∧ g.timers.length * 24 ≤ 140737488351232
  subs : (∀ x ∈ g.subs, GoodSub w x) ∧ g.subs.length * 64 ≤ 140737488351232
  kept : (∀ x ∈ g.kept, GoodKept w x) ∧ g.kept.length * 24 ≤ 140737488351232
  listed : (∀ x ∈ g.listed, GoodLst w x) ∧ g.listed.length * 88 ≤ 140737488351232
  msgs : (∀ x ∈ g.msgs, GoodMsg w x) ∧ g.msgs.length * 112 ≤ 140737488351232
theorem GoodSt.fits {w : World} {v : StV} {g : GSt} (h : GoodSt w v g) : g.fits := by
  have h1 := h.procs.2; have h2 := h.insts.2; have h3 := h.tokens.2; have h4 := h.jobs.2; have h5 := h.timers.2; have h6 := h.subs.2; have h7 := h.kept.2; have h8 := h.listed.2; have h9 := h.msgs.2
  unfold GSt.fits; omega
theorem GoodSt.wf {w : World} {v : StV} {g : GSt} (h : GoodSt w v g) : g.wf :=
  ⟨fun x hx => (h.tokens.1 x hx).1, fun x hx => (h.jobs.1 x hx).2.1, fun x hx => (h.timers.1 x hx).1, fun x hx => (h.subs.1 x hx).1⟩
theorem GoodSt.ints {w : World} {v : StV} {g : GSt} (h : GoodSt w v g) : ∀ x ∈ g.msgs, x.insts.length * 8 ≤ 140737488351232 := fun x hx => by
  have h1 := (h.msgs.1 x hx).2.2.2.2.2.2
  rw [h1.1.1]; exact h1.2
set_option maxRecDepth 100000 in
set_option maxHeartbeats 1000000 in
theorem read_state {n : Nat} {cs : List Value} {x : DataW H × List MemPlace} (h : DataW.trod enc Tryz.prog w base spare held n 33 cs = some x) (hl : Light 33 x.1) : ∃ v g, cs = v.vals.toList ∧ GoodSt w v g := by
  obtain ⟨xs, m, _, rfl, hcl, hlen, hf⟩ := DataW.trod_struct Tryz.underlying33 h
  match cs, hcl.trans cellsO_state, xs, hlen with
  | [c0, c1, c2, c3, c4, c5, c6, c7, c8, c9, c10, c11], _, [x0, x1, x2, x3, x4, x5, x6, x7, x8, x9, x10, x11], _ =>
    have g0 := fld hf (i := 0) rfl rfl cells_uint64 (c := [c0]) rfl (x := x0) rfl
    obtain ⟨v0, rfl, w0⟩ := read_u64 Tryz.underlying22 (x := x0) g0
    have g1 := fld hf (i := 1) rfl rfl cells_uint64 (c := [c1]) rfl (x := x1) rfl
    obtain ⟨v1, rfl, w1⟩ := read_u64 Tryz.underlying22 (x := x1) g1
    have g2 := fld hf (i := 2) rfl rfl cells_uint64 (c := [c2]) rfl (x := x2) rfl
    obtain ⟨v2, rfl, w2⟩ := read_u64 Tryz.underlying22 (x := x2) g2
    have g3 := fld hf (i := 3) rfl rfl cellsO_sProc (c := [c3]) rfl (x := x3) rfl
    obtain ⟨l3, r3, y3, z3⟩ := reads_Proc (x := x3) g3 (light_part Tryz.underlying33 hl (j := 3) rfl rfl)
    obtain ⟨A3, C3, e3, _, _⟩ := r3.open_
    subst e3
    have g4 := fld hf (i := 4) rfl rfl cellsO_sInst (c := [c4]) rfl (x := x4) rfl
    obtain ⟨l4, r4, y4, z4⟩ := reads_Inst (x := x4) g4 (light_part Tryz.underlying33 hl (j := 4) rfl rfl)
    obtain ⟨A4, C4, e4, _, _⟩ := r4.open_
    subst e4
    have g5 := fld hf (i := 5) rfl rfl cellsO_sTok (c := [c5]) rfl (x := x5) rfl
    obtain ⟨l5, r5, y5, z5⟩ := reads_Tok (x := x5) g5 (light_part Tryz.underlying33 hl (j := 5) rfl rfl)
    obtain ⟨A5, C5, e5, _, _⟩ := r5.open_
    subst e5
    have g6 := fld hf (i := 6) rfl rfl cellsO_sJob (c := [c6]) rfl (x := x6) rfl
    obtain ⟨l6, r6, y6, z6⟩ := reads_Job (x := x6) g6 (light_part Tryz.underlying33 hl (j := 6) rfl rfl)
    obtain ⟨A6, C6, e6, _, _⟩ := r6.open_
    subst e6
    have g7 := fld hf (i := 7) rfl rfl cellsO_sTim (c := [c7]) rfl (x := x7) rfl
    obtain ⟨l7, r7, y7, z7⟩ := reads_Tim (x := x7) g7 (light_part Tryz.underlying33 hl (j := 7) rfl rfl)
    obtain ⟨A7, C7, e7, _, _⟩ := r7.open_
    subst e7
    have g8 := fld hf (i := 8) rfl rfl cellsO_sSub (c := [c8]) rfl (x := x8) rfl
    obtain ⟨l8, r8, y8, z8⟩ := reads_Sub (x := x8) g8 (light_part Tryz.underlying33 hl (j := 8) rfl rfl)
    obtain ⟨A8, C8, e8, _, _⟩ := r8.open_
    subst e8
    have g9 := fld hf (i := 9) rfl rfl cellsO_sKept (c := [c9]) rfl (x := x9) rfl
    obtain ⟨l9, r9, y9, z9⟩ := reads_Kept (x := x9) g9 (light_part Tryz.underlying33 hl (j := 9) rfl rfl)
    obtain ⟨A9, C9, e9, _, _⟩ := r9.open_
    subst e9
    have g10 := fld hf (i := 10) rfl rfl cellsO_sLst (c := [c10]) rfl (x := x10) rfl
    obtain ⟨l10, r10, y10, z10⟩ := reads_Lst (x := x10) g10 (light_part Tryz.underlying33 hl (j := 10) rfl rfl)
    obtain ⟨A10, C10, e10, _, _⟩ := r10.open_
    subst e10
    have g11 := fld hf (i := 11) rfl rfl cellsO_sMsg (c := [c11]) rfl (x := x11) rfl
    obtain ⟨l11, r11, y11, z11⟩ := reads_Msg (x := x11) g11 (light_part Tryz.underlying33 hl (j := 11) rfl rfl)
    obtain ⟨A11, C11, e11, _, _⟩ := r11.open_
    subst e11
    exact ⟨⟨v0, v1, v2, A3, l3.length, C3, A4, l4.length, C4, A5, l5.length, C5, A6, l6.length, C6, A7, l7.length, C7, A8, l8.length, C8, A9, l9.length, C9, A10, l10.length, C10, A11, l11.length, C11⟩, ⟨v0, v1, v2, l3, l4, l5, l6, l7, l8, l9, l10, l11⟩, rfl, ⟨⟨rfl, rfl, rfl, ⟨rfl, r3⟩, ⟨rfl, r4⟩, ⟨rfl, r5⟩, ⟨rfl, r6⟩, ⟨rfl, r7⟩, ⟨rfl, r8⟩, ⟨rfl, r9⟩, ⟨rfl, r10⟩, ⟨rfl, r11⟩, fun x hx => (y4 x hx).2.2.1, fun x hx => (y10 x hx).2.2.2.2.2.2.1, fun x hx => (y11 x hx).2.2.2.2.2.1.1, fun x hx => (y11 x hx).2.2.2.2.2.2.1⟩, ⟨w0, w1, w2⟩, ⟨y3, z3⟩, ⟨y4, z4⟩, ⟨y5, z5⟩, ⟨y6, z6⟩, ⟨y7, z7⟩, ⟨y8, z8⟩, ⟨y9, z9⟩, ⟨y10, z10⟩, ⟨y11, z11⟩⟩⟩
end
end Go.Proofs.YtfjdllpacdobdaaGreat
