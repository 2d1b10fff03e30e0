/-
  Merged from Fu_put, FdJob, FcJob, FdInst, FcInst, FdSub, FcSub, FdTok, FcTok, FdLst, FcLst, FdMsg, FcMsg, Fe_change.
-/
import Derived.Test.YtgpkmellpllmgaaGreatQd90e9a6848e8
import Derived.Test.YtgpkmellpllmgaaGreatQb62ecbabc510
import Derived.Test.YtgpkmellpllmgaaGreatQ98b0788c8bfe
import Derived.Test.YtgpkmellpllmgaaGreatQa004b1d5b8b9
/-
  The events that put, from a state to a state. Printed by gfold2.py.
-/
set_option linter.unusedVariables false
set_option linter.unusedSimpArgs false
namespace Go.Proofs.YtgpkmellpllmgaaGreat
open Go Go.RowKit Go.Proofs.Base
open Go.Sort (grow)
theorem mem_putL {α : Type} {c : α → α → Int} {x y : α} {l : List α} (h : y ∈ putL c x l) : y = x ∨ y ∈ l := by
  unfold putL at h
  split at h
  · exact (List.mem_or_eq_of_mem_set h).symm
  · rcases List.mem_append.1 h with h | h
    · exact .inr (List.mem_of_mem_take h)
    · rcases List.mem_cons.1 h with h | h
      · exact .inl h
      · exact .inr (List.mem_of_mem_drop h)
set_option maxRecDepth 100000 in
set_option maxHeartbeats 4000000 in
theorem u_entered (W : World) (S : Nat → Prop) (v : StV) (g : GSt) (r : GRec) (vA : Option Addr) (vN vC : Nat) (hst : StR W S v g) (hv : VarsR W S vA vN vC r.vars) (hroom : g.room) :
    Calls Tryz.prog 56 #[.agg v.vals, .agg #[.int .i64 r.cls, .int .i64 r.kind, .int .u64 r.frm, .int .i64 r.time, .int .u64 r.key, .int .u64 r.key2, .int .u64 r.key3, .int .i64 r.n, .int .i64 r.m, .string r.a, .string r.b, .string r.c, .slice vA vN vC]] W fun e w' => ∃ v' g', e = .returned (.agg v'.vals) ∧ StR w' (fun b => S b ∨ W.heap.size ≤ b) v' g' ∧ g'.pure = { g.pure with tokens := putL cmpTok ⟨r.key, r.key2, r.key3, r.n, r.m, ⟨#[]⟩⟩ g.pure.tokens, made := IntKind.u64.wrap (g.pure.made + 1) } ∧ Below W.heap.size W w' := by
  refine (ev_entered v.Pp v.Dd v.Mm v.A3 v.n3 v.c3 v.A4 v.n4 v.c4 v.A5 v.n5 v.c5 v.A6 v.n6 v.c6 v.A7 v.n7 v.c7 v.A8 v.n8 v.c8 v.A9 v.n9 v.c9 v.A10 v.n10 v.c10 v.A11 v.n11 v.c11 r vA vN vC g.tokens W S hst.tokens.1 (by rw [← hst.tokens.1]; exact hroom.2.2.1) hst.tokens.2).mono ?_
  rintro e w' ⟨A', c', Ln, rfl, hLn, hown, hb⟩
  refine ⟨{ v with A5 := A', n5 := Ln, c5 := c', Mm := IntKind.u64.wrap (v.Mm + 1) }, { g with tokens := putL cmpTok ⟨r.key, r.key2, r.key3, r.n, r.m, ⟨#[]⟩⟩ g.tokens, made := IntKind.u64.wrap (g.made + 1) }, rfl, ?_, rfl, hb⟩
  exact { (hst.below (S' := fun b => S b ∨ W.heap.size ≤ b) hb (fun b _ h => .inl h)) with tokens := ⟨hLn.symm, (Row.of_own hown).weaken (fun b _ h => .inr h.1)⟩, made := by show IntKind.u64.wrap (v.Mm + 1) = IntKind.u64.wrap (g.made + 1); rw [hst.made] }
set_option maxRecDepth 100000 in
set_option maxHeartbeats 4000000 in
theorem u_began (W : World) (S : Nat → Prop) (v : StV) (g : GSt) (r : GRec) (vA : Option Addr) (vN vC : Nat) (hst : StR W S v g) (hv : VarsR W S vA vN vC r.vars) (hroom : g.room) :
    Calls Tryz.prog 55 #[.agg v.vals, .agg #[.int .i64 r.cls, .int .i64 r.kind, .int .u64 r.frm, .int .i64 r.time, .int .u64 r.key, .int .u64 r.key2, .int .u64 r.key3, .int .i64 r.n, .int .i64 r.m, .string r.a, .string r.b, .string r.c, .slice vA vN vC]] W fun e w' => ∃ v' g', e = .returned (.agg v'.vals) ∧ StR w' (fun b => S b ∨ W.heap.size ≤ b) v' g' ∧ g'.pure = { g.pure with insts := putL cmpInst ⟨r.key, r.a, none, 0, 0, r.vars⟩ g.pure.insts, made := IntKind.u64.wrap (g.pure.made + 1) } ∧ Below W.heap.size W w' := by
  refine (ev_began v.Pp v.Dd v.Mm v.A3 v.n3 v.c3 v.A4 v.n4 v.c4 v.A5 v.n5 v.c5 v.A6 v.n6 v.c6 v.A7 v.n7 v.c7 v.A8 v.n8 v.c8 v.A9 v.n9 v.c9 v.A10 v.n10 v.c10 v.A11 v.n11 v.c11 r vA vN vC g.insts W S hst.insts.1 (by rw [← hst.insts.1]; exact hroom.2.1) hst.insts.2 hv.1 hv.2.1 hv.2.2).mono ?_
  rintro e w' ⟨A', c', Ln, A1, c1, rfl, hLn, hown, hvn, hb⟩
  refine ⟨{ v with A4 := A', n4 := Ln, c4 := c', Mm := IntKind.u64.wrap (v.Mm + 1) }, { g with insts := putL cmpInst ⟨r.key, r.a, A1, vN, c1, r.vars⟩ g.insts, made := IntKind.u64.wrap (g.made + 1) }, rfl, ?_, ?_, hb⟩
  · exact { (hst.below (S' := fun b => S b ∨ W.heap.size ≤ b) hb (fun b _ h => .inl h)) with insts := ⟨hLn.symm, (Row.of_own hown).weaken (fun b _ h => .inr h.1)⟩, made := by show IntKind.u64.wrap (v.Mm + 1) = IntKind.u64.wrap (g.made + 1); rw [hst.made], vinst := fun y hy => (mem_putL hy).elim (fun e => e ▸ ⟨hv.1, hv.2.1, hvn.weaken (fun _ _ h => .inr h)⟩) (fun h => (hst.below (S' := fun b => S b ∨ W.heap.size ≤ b) hb (fun b _ h => .inl h)).vinst y h) }
  · unfold GSt.pure
    simp only
    rw [← putL_map pureInst cmpInst cmpInst (fun _ _ => rfl)]; rfl
end Go.Proofs.YtgpkmellpllmgaaGreat
/-
  slices.DeleteFunc, fold.without of Job. Printed by gfold.py.
-/
set_option linter.unusedVariables false
set_option linter.unusedSimpArgs false
namespace Go.Proofs.YtgpkmellpllmgaaGreat
open Go Go.RowKit Go.Proofs.Base
open Go.Sort (grow)
theorem vbox_Job (w : World) (x : EJob) : Below w.heap.size w (w.alloc (.cells #[.int .u64 x.key, .int .u64 x.token, .string x.typ, .int .i64 x.retries, .string x.worker, .int .i64 x.till] 52)) ∧ (w.alloc (.cells #[.int .u64 x.key, .int .u64 x.token, .string x.typ, .int .i64 x.retries, .string x.worker, .int .i64 x.till] 52)).heap[w.heap.size]? = some (.cells #[.int .u64 x.key, .int .u64 x.token, .string x.typ, .int .i64 x.retries, .string x.worker, .int .i64 x.till] 52 (0, 0)) :=
  ⟨below_alloc (Below.refl _ _) _, blk_new _⟩
theorem rowb_Job {g cap i : Nat} {cur : Array Value} {w : World} {base : Nat} {l : List EJob} (hbg : base ≤ g) (hh : w.heap[g]? = some (.cells cur 52 (0, 0))) (hnc : i ≤ cap) (hcm : cap ≤ maxLen) (hcs : cap * 6 = cur.size) (hl : l.length = i) (ht : cur.toList.take (i * 6) = l.flatMap encJob) :
    w.ownsRow base 52 6 (.slice (some ⟨g, 0, none⟩) i cap) i (l.flatMap encJob) :=
  ⟨by rw [flat_len (enc := encJob) lenJob, hl], .inr ⟨g, cap, cur, rfl, hbg, hh, hnc, hcm, by omega, ht⟩⟩
theorem zs_Job : ∀ w, (zeroValue 52).run Tryz.prog w = .ok (.agg #[.int .u64 0, .int .u64 0, .string ⟨#[]⟩, .int .i64 0, .string ⟨#[]⟩, .int .i64 0]) w := Tryz.zeroValue52
set_option maxRecDepth 100000 in
set_option maxHeartbeats 4000000 in
theorem del_Job (base : Nat) (v : Value) (n g : Nat) (lb : Array Value) (l : List EJob) (p : EJob → Bool) (w0 w : World) (eg : ∀ args w, (callFunc g args).run Tryz.prog w = .ok (.enter g args) w) (hl : l.length = n) (hown : w.ownsRow base 52 6 v n (l.flatMap encJob)) (hbase : w0.heap.size ≤ base) (h0 : Below w0.heap.size w0 w)
    (hp : ∀ W, Below w0.heap.size w0 W → ∀ x ∈ l, Calls Tryz.prog g (#[.agg #[.int .u64 x.key, .int .u64 x.token, .string x.typ, .int .i64 x.retries, .string x.worker, .int .i64 x.till]] ++ lb) W fun e w' => e = .returned (.bool (p x)) ∧ Below W.heap.size W w') :
    Calls Tryz.prog 193 #[v, .func (.func g) #[] lb] w fun e w' => ∃ A' c', e = .returned (.slice A' (l.filter fun x => !p x).length c') ∧ w'.ownsRow base 52 6 (.slice A' (l.filter fun x => !p x).length c') (l.filter fun x => !p x).length ((l.filter fun x => !p x).flatMap encJob) ∧ Below w0.heap.size w0 w' := by
  obtain ⟨A, c, rfl, hnc, hcc⟩ := (Row.of_own hown).open_
  have HO := Lib.hid hown
  have HL := Lib.hid hl
  have H0 := Lib.hid h0
  have HP := Lib.hid hp
  have HIX : Hid (Calls Tryz.prog 77 #[.slice A n c, .func (.func g) #[] lb] w fun e w' => e = .returned (.int .i64 (idxP p l)) ∧ Below w.heap.size w w') := Lib.hid (idx_Job A n c g lb l p w0 w _ eg hl (Row.of_own hown) h0 hp)
  rcases idxP_spec p l with ⟨h1, hall⟩ | ⟨k0, hk0, h1, hpt, hbef⟩
  · have hf : l.filter (fun x => !p x) = l := List.filter_eq_self.2 (fun x hx => by rw [hall x hx]; rfl)
    rw [hf, hl]
    clear hown hl h0 hp hall hf
    go_enter Tryz.func193, Tryz.ntmps193
    go_wp2_with (go_at_call 77; refine HIX.out.mono ?_; rintro e w1 ⟨rfl, hb⟩; rw [h1]; have HB1 := Lib.hid hb; clear hb)
    go_ret
    exact ⟨A, c, rfl, own_mut HO.out (Mut.of_below HB1.out (fun _ => False)) (fun _ _ h => h), below2 H0.out HB1.out⟩
  · have hn0 : 0 < n := by omega
    obtain ⟨gb, cap, cur0, hv, hbg, hh0, hnc5, hcm5, hcs5, htk5⟩ := own_some hown (by omega)
    injection hv with hv1 hv2 hv3
    subst hv1 hv3
    have hkn : k0 < n := by omega
    have hne1 : ((k0 : Int) == -1) = false := beq_eq_false_iff_ne.2 (by omega)
    have HS0 : Hid (cur0.size = c * 6 ∧ cur0.toList.take (k0 * 6) = ((l.take (k0 + 1)).filter fun x => !p x).flatMap encJob ∧ (cur0.toList.take (n * 6)).drop ((k0 + 1) * 6) = (l.drop (k0 + 1)).flatMap encJob ∧ k0 = ((l.take (k0 + 1)).filter fun x => !p x).length) := Lib.hid (by
      have e1 : (l.take (k0 + 1)).filter (fun x => !p x) = l.take k0 := by
        rw [List.take_succ_eq_append_getElem hk0, List.filter_append]
        have e2 : (l.take k0).filter (fun x => !p x) = l.take k0 := List.filter_eq_self.2 (fun x hx => by
          obtain ⟨j, hj, rfl⟩ := List.getElem_of_mem hx
          rw [List.length_take] at hj
          rw [List.getElem_take, hbef j (by omega)]; rfl)
        rw [e2]
        simp [hpt]
      refine ⟨by omega, ?_, ?_, ?_⟩
      · rw [e1, ← flat_take (enc := encJob) lenJob, ← htk5, List.take_take]
        congr 1
        exact (Nat.min_eq_left (Nat.mul_le_mul_right _ (Nat.le_of_lt hkn))).symm
      · rw [htk5, flat_drop (enc := encJob) lenJob]
      · rw [e1, List.length_take]; omega)
    have HG0 := Lib.hid hh0
    have HCM := Lib.hid hcm5
    have HBS := Lib.hid hbase
    have HBG := Lib.hid hbg
    have HFL : Hid (l.filter (fun x => !p x) = (l.take n).filter fun x => !p x) := Lib.hid (by rw [← hl, List.take_length])
    have hmx : ∀ k, k < n → ∃ x, l[k]? = some x ∧ x ∈ l := fun k hk => ⟨l[k]'(by omega), List.getElem?_eq_getElem (by omega), List.getElem_mem _⟩
    have HMX := Lib.hid hmx
    clear hown hl h0 hp htk5 hcs5 hh0 hcm5 hbase hbg hk0 hpt hbef hmx HO
    go_enter Tryz.func193, Tryz.ntmps193
    go_wp2_with (go_at_call 77; refine HIX.out.mono ?_; rintro e w1 ⟨rfl, hb⟩; rw [h1]; have HB1 := Lib.hid (below2 H0.out hb); have HG1 := Lib.hid (block_below hb HG0.out); clear hb)
    go_loopw [5, 6, 7] (fun s5 s6 _ wr => ∃ (i j : Nat) (cur : Array Value), s5 = .int .i64 i ∧ s6 = .int .i64 j ∧ j ≤ n ∧ i < j ∧ Hid (Below w0.heap.size w0 wr) ∧ Hid (wr.heap[gb]? = some (.cells cur 52 (0, 0))) ∧ Hid (cur.size = c * 6 ∧ cur.toList.take (i * 6) = ((l.take j).filter fun x => !p x).flatMap encJob ∧ (cur.toList.take (n * 6)).drop (j * 6) = (l.drop j).flatMap encJob ∧ i = ((l.take j).filter fun x => !p x).length)) (fun _ s6 _ _ => n - (intOf s6).toNat)
    case atStart => exact ⟨k0, k0 + 1, cur0, rfl, by go_num, by omega, by omega, HB1, HG1, HS0⟩
    case round =>
      obtain ⟨i, j, cur, rfl, rfl, hjn, hij, HB, HG, HI⟩ := hrel
      have hgs := lt_of_blk HG.out
      by_cases hlt : j < n
      · obtain ⟨x, hx, hxm⟩ := HMX.out j hlt
        have hszc : cur.size = c * 6 := HI.out.1
        have hdr : (cur.toList.take (n * 6)).drop (j * 6) = encJob x ++ (l.drop (j + 1)).flatMap encJob := by
          have hjl : j < l.length := by rw [HL.out]; exact hlt
          have he : l[j] = x := by rw [List.getElem?_eq_getElem hjl] at hx; exact Option.some.inj hx
          rw [HI.out.2.2.1, List.drop_eq_getElem_cons hjl, List.flatMap_cons, he]
        have hcj : ∀ t u, (encJob x)[t]? = some u → t < 6 → cur[j * 6 + t]? = some u := fun t u hu ht => by
          have e := congrArg (fun L => L[t]?) hdr
          simp only [List.getElem?_drop] at e
          rw [List.getElem?_take, if_pos (by omega), List.getElem?_append_left (by rw [lenJob]; exact ht), hu] at e
          rw [← Array.getElem?_toList]; exact e
        have c0 : wr.cell? ⟨gb, j * 6, none⟩ = some (.int .u64 x.key) := (cell_of_blk HG.out _).trans (hcj 0 _ rfl (by decide))
        have c1 : wr.cell? ⟨gb, j * 6 + 1, none⟩ = some (.int .u64 x.token) := (cell_of_blk HG.out _).trans (hcj 1 _ rfl (by decide))
        have c2 : wr.cell? ⟨gb, j * 6 + 2, none⟩ = some (.string x.typ) := (cell_of_blk HG.out _).trans (hcj 2 _ rfl (by decide))
        have c3 : wr.cell? ⟨gb, j * 6 + 3, none⟩ = some (.int .i64 x.retries) := (cell_of_blk HG.out _).trans (hcj 3 _ rfl (by decide))
        have c4 : wr.cell? ⟨gb, j * 6 + 4, none⟩ = some (.string x.worker) := (cell_of_blk HG.out _).trans (hcj 4 _ rfl (by decide))
        have c5 : wr.cell? ⟨gb, j * 6 + 5, none⟩ = some (.int .i64 x.till) := (cell_of_blk HG.out _).trans (hcj 5 _ rfl (by decide))
        have hcall := fun W hW => HP.out W hW x hxm
        have HX := Lib.hid hx
        have HDR := Lib.hid hdr
        clear hcj hdr hx hxm
        cases hq : p x with
        | false =>
          rw [hq] at hcall
          have HQ := Lib.hid hq
          have HCALL := Lib.hid hcall
          clear hq hcall
          go_wp2_with fail
          refine (HCALL.out _ (below2 HB.out (vbox_Job wr x).1)).mono ?_
          rintro e w1 ⟨rfl, hb1⟩
          have hv1 := block_below hb1 (vbox_Job wr x).2
          have HBW := Lib.hid (below2 HB.out (below2 (vbox_Job wr x).1 hb1))
          have hgw := block_below hb1 (block_below (vbox_Job wr x).1 HG.out)
          have k0 := cell_of_blk hv1 0
          have k1 := cell_of_blk hv1 1
          have k2 := cell_of_blk hv1 2
          have k3 := cell_of_blk hv1 3
          have k4 := cell_of_blk hv1 4
          have k5 := cell_of_blk hv1 5
          clear hv1
          obtain ⟨u0, hu0⟩ : ∃ u, cur[i * 6]? = some u := ⟨_, Array.getElem?_eq_getElem (by rw [hszc]; have : i * 6 + 6 ≤ c * 6 := (by have := Nat.mul_le_mul_right 6 (show i + 1 ≤ c by omega); omega); omega)⟩
          have j0 := (cell_of_blk hgw (i * 6)).trans hu0
          have f0 := frozen_of_blk hgw (i * 6)
          clear hu0
          obtain ⟨u1, hu1⟩ : ∃ u, cur[i * 6 + 1]? = some u := ⟨_, Array.getElem?_eq_getElem (by rw [hszc]; have : i * 6 + 6 ≤ c * 6 := (by have := Nat.mul_le_mul_right 6 (show i + 1 ≤ c by omega); omega); omega)⟩
          have j1 := (cell_of_blk hgw (i * 6 + 1)).trans hu1
          have f1 := frozen_of_blk hgw (i * 6 + 1)
          clear hu1
          obtain ⟨u2, hu2⟩ : ∃ u, cur[i * 6 + 2]? = some u := ⟨_, Array.getElem?_eq_getElem (by rw [hszc]; have : i * 6 + 6 ≤ c * 6 := (by have := Nat.mul_le_mul_right 6 (show i + 1 ≤ c by omega); omega); omega)⟩
          have j2 := (cell_of_blk hgw (i * 6 + 2)).trans hu2
          have f2 := frozen_of_blk hgw (i * 6 + 2)
          clear hu2
          obtain ⟨u3, hu3⟩ : ∃ u, cur[i * 6 + 3]? = some u := ⟨_, Array.getElem?_eq_getElem (by rw [hszc]; have : i * 6 + 6 ≤ c * 6 := (by have := Nat.mul_le_mul_right 6 (show i + 1 ≤ c by omega); omega); omega)⟩
          have j3 := (cell_of_blk hgw (i * 6 + 3)).trans hu3
          have f3 := frozen_of_blk hgw (i * 6 + 3)
          clear hu3
          obtain ⟨u4, hu4⟩ : ∃ u, cur[i * 6 + 4]? = some u := ⟨_, Array.getElem?_eq_getElem (by rw [hszc]; have : i * 6 + 6 ≤ c * 6 := (by have := Nat.mul_le_mul_right 6 (show i + 1 ≤ c by omega); omega); omega)⟩
          have j4 := (cell_of_blk hgw (i * 6 + 4)).trans hu4
          have f4 := frozen_of_blk hgw (i * 6 + 4)
          clear hu4
          obtain ⟨u5, hu5⟩ : ∃ u, cur[i * 6 + 5]? = some u := ⟨_, Array.getElem?_eq_getElem (by rw [hszc]; have : i * 6 + 6 ≤ c * 6 := (by have := Nat.mul_le_mul_right 6 (show i + 1 ≤ c by omega); omega); omega)⟩
          have j5 := (cell_of_blk hgw (i * 6 + 5)).trans hu5
          have f5 := frozen_of_blk hgw (i * 6 + 5)
          clear hu5
          have HGW := Lib.hid hgw
          clear hgw hb1
          go_wp2_with fail
          go_roundw
          case rel =>
            refine ⟨i + 1, j + 1, _, by go_num, by go_num, by omega, by omega, Lib.hid (((((((HBW.out).setCell (p := ⟨gb, i * 6, none⟩) (by show _ ≤ gb; have := HBS.out; have := HBG.out; omega) _).setCell (p := ⟨gb, i * 6 + 1, none⟩) (by show _ ≤ gb; have := HBS.out; have := HBG.out; omega) _).setCell (p := ⟨gb, i * 6 + 2, none⟩) (by show _ ≤ gb; have := HBS.out; have := HBG.out; omega) _).setCell (p := ⟨gb, i * 6 + 3, none⟩) (by show _ ≤ gb; have := HBS.out; have := HBG.out; omega) _).setCell (p := ⟨gb, i * 6 + 4, none⟩) (by show _ ≤ gb; have := HBS.out; have := HBG.out; omega) _).setCell (p := ⟨gb, i * 6 + 5, none⟩) (by show _ ≤ gb; have := HBS.out; have := HBG.out; omega) _), Lib.hid (set_blk (o := i * 6 + 5) (set_blk (o := i * 6 + 4) (set_blk (o := i * 6 + 3) (set_blk (o := i * 6 + 2) (set_blk (o := i * 6 + 1) (set_blk (o := i * 6) (HGW.out) (.int .u64 x.key)) (.int .u64 x.token)) (.string x.typ)) (.int .i64 x.retries)) (.string x.worker)) (.int .i64 x.till)), Lib.hid ?_⟩
            have e1 : (l.take (j + 1)).filter (fun x => !p x) = (l.take j).filter (fun x => !p x) ++ [x] := by
              rw [List.take_add_one, HX.out, List.filter_append]
              congr 1
              simp [HQ.out]
            have hil : (i + 1) * 6 ≤ cur.size := by rw [hszc]; exact Nat.mul_le_mul_right _ (by omega)
            have e2 : ((((((cur.setIfInBounds (i * 6) (.int .u64 x.key)).setIfInBounds (i * 6 + 1) (.int .u64 x.token)).setIfInBounds (i * 6 + 2) (.string x.typ)).setIfInBounds (i * 6 + 3) (.int .i64 x.retries)).setIfInBounds (i * 6 + 4) (.string x.worker)).setIfInBounds (i * 6 + 5) (.int .i64 x.till)).toList = splice cur.toList (i * 6) (encJob x) := by
              rw [← setAll_splice _ _ _ (by rw [lenJob, Array.length_toList]; omega)]
              simp only [Array.toList_setIfInBounds]
              first | rfl | (simp only [Nat.mul_one]; rfl)
            refine ⟨by simp only [Array.size_setIfInBounds]; exact hszc, ?_, ?_, ?_⟩
            · rw [e2, e1, List.flatMap_append, ← HI.out.2.1, splice_take (by rw [lenJob, Nat.succ_mul]) (by rw [lenJob, Array.length_toList]; omega), List.flatMap_singleton]
            · have e3 := congrArg (fun L => L.drop 6) HI.out.2.2.1
              simp only [List.drop_drop] at e3
              rw [show j * 6 + 6 = (j + 1) * 6 by omega, flat_drop1 (enc := encJob) lenJob] at e3
              have hle : (i + 1) * 6 ≤ (j + 1) * 6 := Nat.mul_le_mul_right _ (by omega)
              rw [e2, ← e3, List.drop_take, List.drop_take, splice_drop (by rw [lenJob]; omega) (by rw [lenJob, Array.length_toList]; omega)]
            · rw [e1, List.length_append, ← HI.out.2.2.2]; rfl
          case measure => simp [intOf]; omega
        | true =>
          rw [hq] at hcall
          have HQ := Lib.hid hq
          have HCALL := Lib.hid hcall
          clear hq hcall
          go_wp2_with fail
          refine (HCALL.out _ (below2 HB.out (vbox_Job wr x).1)).mono ?_
          rintro e w1 ⟨rfl, hb1⟩
          have hv1 := block_below hb1 (vbox_Job wr x).2
          have HBW := Lib.hid (below2 HB.out (below2 (vbox_Job wr x).1 hb1))
          have hgw := block_below hb1 (block_below (vbox_Job wr x).1 HG.out)
          clear hv1
          have HGW := Lib.hid hgw
          clear hgw hb1
          go_wp2_with fail
          go_roundw
          case rel =>
            refine ⟨i, j + 1, cur, rfl, by go_num, by omega, by omega, HBW, HGW, Lib.hid ?_⟩
            have e1 : (l.take (j + 1)).filter (fun x => !p x) = (l.take j).filter (fun x => !p x) := by
              rw [List.take_add_one, HX.out, List.filter_append]
              simp [HQ.out]
            rw [e1]
            refine ⟨hszc, HI.out.2.1, ?_, HI.out.2.2.2⟩
            have e3 := congrArg (fun L => L.drop 6) HDR.out
            simp only [List.drop_drop] at e3
            rw [show j * 6 + 6 = (j + 1) * 6 by omega] at e3
            rw [e3, List.drop_append, List.drop_of_length_le (by rw [lenJob]; exact Nat.le_refl _), lenJob]
            simp
          case measure => simp [intOf]; omega
      · obtain rfl : j = n := by omega
        have hszc : cur.size = c * 6 := HI.out.1
        have hfit : i * 6 + (j - i) * 6 ≤ cur.size := by
          rw [hszc, ← Nat.add_mul]; exact Nat.mul_le_mul_right _ (by omega)
        have hcl : ∀ ty, (Builtin.clear_ #[28] ty #[.slice (some ⟨gb, i * 6, none⟩) (j - i) (c - i)]).run Tryz.prog wr = .ok (.tuple #[]) (wr.setRow gb (splice cur.toList (i * 6) (Builtin.zeroCells (.agg #[.int .u64 0, .int .u64 0, .string ⟨#[]⟩, .int .i64 0, .string ⟨#[]⟩, .int .i64 0] : Value).cells (j - i)).toList).toArray) := fun ty =>
          run_clear_wide wr 28 52 ty _ 6 Tryz.underlying28 zs_Job rfl (by intro u hu; simp [Value.cells] at hu; rcases hu with rfl | rfl | rfl | rfl | rfl | rfl <;> rfl) gb (i * 6) (j - i) (c - i) cur 52 (by omega) HG.out hfit
        have hci : ¬ (c = i) := by omega
        have hcl2 : i ≤ c := by omega
        have hin : i ≤ j := by omega
        have HCL := Lib.hid hcl
        clear hcl
        have HHQ := Lib.hid (setRow_heap wr gb cur (splice cur.toList (i * 6) (Builtin.zeroCells (.agg #[.int .u64 0, .int .u64 0, .string ⟨#[]⟩, .int .i64 0, .string ⟨#[]⟩, .int .i64 0] : Value).cells (j - i)).toList).toArray 52 (0, 0) HG.out)
        have HHB : Hid (Below w0.heap.size w0 (wr.setRow gb (splice cur.toList (i * 6) (Builtin.zeroCells (.agg #[.int .u64 0, .int .u64 0, .string ⟨#[]⟩, .int .i64 0, .string ⟨#[]⟩, .int .i64 0] : Value).cells (j - i)).toList).toArray)) := Lib.hid (below_setRow HB.out (by have := HBS.out; have := HBG.out; omega) _)
        have hsp : (splice cur.toList (i * 6) (Builtin.zeroCells (.agg #[.int .u64 0, .int .u64 0, .string ⟨#[]⟩, .int .i64 0, .string ⟨#[]⟩, .int .i64 0] : Value).cells (j - i)).toList).toArray.size = cur.size ∧ (splice cur.toList (i * 6) (Builtin.zeroCells (.agg #[.int .u64 0, .int .u64 0, .string ⟨#[]⟩, .int .i64 0, .string ⟨#[]⟩, .int .i64 0] : Value).cells (j - i)).toList).toArray.toList.take (i * 6) = cur.toList.take (i * 6) := by
          have hzl : (Builtin.zeroCells (.agg #[.int .u64 0, .int .u64 0, .string ⟨#[]⟩, .int .i64 0, .string ⟨#[]⟩, .int .i64 0] : Value).cells (j - i)).toList.length = (j - i) * 6 := by rw [Array.length_toList, size_zeroCells]; rfl
          have hle : i * 6 + (j - i) * 6 ≤ cur.size := by
            exact hfit
          refine ⟨by rw [List.size_toArray, length_splice _ _ _ (by rw [hzl, Array.length_toList]; exact hle), Array.length_toList], ?_⟩
          rw [List.toList_toArray]
          unfold splice
          have hll : (cur.toList.take (i * 6)).length = i * 6 := by rw [List.length_take, Array.length_toList]; omega
          rw [List.take_append_of_le_length (by rw [hll]; exact Nat.le_refl _), List.take_of_length_le (by rw [hll]; exact Nat.le_refl _)]
        have HSP := Lib.hid hsp
        clear hsp
        generalize (splice cur.toList (i * 6) (Builtin.zeroCells (.agg #[.int .u64 0, .int .u64 0, .string ⟨#[]⟩, .int .i64 0, .string ⟨#[]⟩, .int .i64 0] : Value).cells (j - i)).toList).toArray = CR at *
        have hcl' := HCL.out
        have hji : ((j : Int) - (i : Int)).toNat = j - i := by omega
        go_wp2
        go_ret
        have hfl : (l.filter fun x => !p x).length = i := by rw [HFL.out]; exact HI.out.2.2.2.symm
        rw [hfl]
        refine ⟨_, _, rfl, rowb_Job HBG.out HHQ.out (by omega) HCM.out (by rw [HSP.out.1]; exact hszc.symm) hfl ?_, HHB.out⟩
        rw [HFL.out, ← HI.out.2.1]
        first | exact HSP.out.2 | (rw [Nat.mul_one]; exact HSP.out.2)
set_option maxRecDepth 100000 in
theorem without_Job (A : Option Addr) (n c g : Nat) (lb : Array Value) (l : List EJob) (p : EJob → Bool) (w : World) (S : Nat → Prop) (eg : ∀ args w, (callFunc g args).run Tryz.prog w = .ok (.enter g args) w) (hl : l.length = n) (hby : n * 64 ≤ 140737488355328) (hr : Row w S 6 n (.slice A n c) (l.flatMap encJob))
    (hp : ∀ W, Below w.heap.size w W → ∀ x ∈ l, Calls Tryz.prog g (#[.agg #[.int .u64 x.key, .int .u64 x.token, .string x.typ, .int .i64 x.retries, .string x.worker, .int .i64 x.till]] ++ lb) W fun e w' => e = .returned (.bool (p x)) ∧ Below W.heap.size W w') :
    Calls Tryz.prog 146 #[.slice A n c, .func (.func g) #[] lb] w fun e w' => ∃ A' c', e = .returned (.slice A' (l.filter fun x => !p x).length c') ∧ w'.ownsRow w.heap.size 52 6 (.slice A' (l.filter fun x => !p x).length c') (l.filter fun x => !p x).length ((l.filter fun x => !p x).flatMap encJob) ∧ Below w.heap.size w w' := by
  have HC := Lib.hid (clone_Job A n c l w S hl hby hr)
  have HP := Lib.hid hp
  have HL := Lib.hid hl
  have EG := Lib.hid eg
  clear hp hr hl eg
  go_enter Tryz.func146, Tryz.ntmps146
  go_wp2_with (go_at_call 25; refine HC.out.mono ?_; rintro e w1 ⟨A1, c1, rfl, hown, hb⟩; have HO1 := Lib.hid hown; have HB1 := Lib.hid hb; clear hown hb)
  refine (del_Job w.heap.size _ n g lb l p w w1 EG.out HL.out HO1.out (Nat.le_refl _) HB1.out HP.out).mono ?_
  rintro e w2 ⟨A2, c2, rfl, hown, hb⟩
  have HO2 := Lib.hid hown
  have HB2 := Lib.hid hb
  clear hown hb
  go_wp2_with fail
  go_ret
  exact ⟨A2, c2, rfl, HO2.out, HB2.out⟩
end Go.Proofs.YtgpkmellpllmgaaGreat
/-
  fold.change of Job. Printed by gfold.py.
-/
set_option linter.unusedVariables false
set_option linter.unusedSimpArgs false
namespace Go.Proofs.YtgpkmellpllmgaaGreat
open Go Go.RowKit Go.Proofs.Base
open Go.Sort (grow)
end Go.Proofs.YtgpkmellpllmgaaGreat
/-
  slices.DeleteFunc, fold.without of Instance. Printed by gfold.py.
-/
set_option linter.unusedVariables false
set_option linter.unusedSimpArgs false
namespace Go.Proofs.YtgpkmellpllmgaaGreat
open Go Go.RowKit Go.Proofs.Base
open Go.Sort (grow)
end Go.Proofs.YtgpkmellpllmgaaGreat
/-
  fold.change of Instance. Printed by gfold.py.
-/
set_option linter.unusedVariables false
set_option linter.unusedSimpArgs false
namespace Go.Proofs.YtgpkmellpllmgaaGreat
open Go Go.RowKit Go.Proofs.Base
open Go.Sort (grow)
end Go.Proofs.YtgpkmellpllmgaaGreat
/-
  slices.DeleteFunc, fold.without of Sub. Printed by gfold.py.
-/
set_option linter.unusedVariables false
set_option linter.unusedSimpArgs false
namespace Go.Proofs.YtgpkmellpllmgaaGreat
open Go Go.RowKit Go.Proofs.Base
open Go.Sort (grow)
theorem vbox_Sub (w : World) (x : ESub) : Below w.heap.size w (w.alloc (.cells #[.int .u64 x.token, .int .u64 x.inst, .int .i64 x.node, .string x.name, .string x.key, .bool x.opn] 73)) ∧ (w.alloc (.cells #[.int .u64 x.token, .int .u64 x.inst, .int .i64 x.node, .string x.name, .string x.key, .bool x.opn] 73)).heap[w.heap.size]? = some (.cells #[.int .u64 x.token, .int .u64 x.inst, .int .i64 x.node, .string x.name, .string x.key, .bool x.opn] 73 (0, 0)) :=
  ⟨below_alloc (Below.refl _ _) _, blk_new _⟩
theorem rowb_Sub {g cap i : Nat} {cur : Array Value} {w : World} {base : Nat} {l : List ESub} (hbg : base ≤ g) (hh : w.heap[g]? = some (.cells cur 73 (0, 0))) (hnc : i ≤ cap) (hcm : cap ≤ maxLen) (hcs : cap * 6 = cur.size) (hl : l.length = i) (ht : cur.toList.take (i * 6) = l.flatMap encSub) :
    w.ownsRow base 73 6 (.slice (some ⟨g, 0, none⟩) i cap) i (l.flatMap encSub) :=
  ⟨by rw [flat_len (enc := encSub) lenSub, hl], .inr ⟨g, cap, cur, rfl, hbg, hh, hnc, hcm, by omega, ht⟩⟩
theorem zs_Sub : ∀ w, (zeroValue 73).run Tryz.prog w = .ok (.agg #[.int .u64 0, .int .u64 0, .int .i64 0, .string ⟨#[]⟩, .string ⟨#[]⟩, .bool false]) w := Tryz.zeroValue73
set_option maxRecDepth 100000 in
set_option maxHeartbeats 4000000 in
theorem del_Sub (base : Nat) (v : Value) (n g : Nat) (lb : Array Value) (l : List ESub) (p : ESub → Bool) (w0 w : World) (eg : ∀ args w, (callFunc g args).run Tryz.prog w = .ok (.enter g args) w) (hl : l.length = n) (hown : w.ownsRow base 73 6 v n (l.flatMap encSub)) (hbase : w0.heap.size ≤ base) (h0 : Below w0.heap.size w0 w)
    (hp : ∀ W, Below w0.heap.size w0 W → ∀ x ∈ l, Calls Tryz.prog g (#[.agg #[.int .u64 x.token, .int .u64 x.inst, .int .i64 x.node, .string x.name, .string x.key, .bool x.opn]] ++ lb) W fun e w' => e = .returned (.bool (p x)) ∧ Below W.heap.size W w') :
    Calls Tryz.prog 195 #[v, .func (.func g) #[] lb] w fun e w' => ∃ A' c', e = .returned (.slice A' (l.filter fun x => !p x).length c') ∧ w'.ownsRow base 73 6 (.slice A' (l.filter fun x => !p x).length c') (l.filter fun x => !p x).length ((l.filter fun x => !p x).flatMap encSub) ∧ Below w0.heap.size w0 w' := by
  obtain ⟨A, c, rfl, hnc, hcc⟩ := (Row.of_own hown).open_
  have HO := Lib.hid hown
  have HL := Lib.hid hl
  have H0 := Lib.hid h0
  have HP := Lib.hid hp
  have HIX : Hid (Calls Tryz.prog 162 #[.slice A n c, .func (.func g) #[] lb] w fun e w' => e = .returned (.int .i64 (idxP p l)) ∧ Below w.heap.size w w') := Lib.hid (idx_Sub A n c g lb l p w0 w _ eg hl (Row.of_own hown) h0 hp)
  rcases idxP_spec p l with ⟨h1, hall⟩ | ⟨k0, hk0, h1, hpt, hbef⟩
  · have hf : l.filter (fun x => !p x) = l := List.filter_eq_self.2 (fun x hx => by rw [hall x hx]; rfl)
    rw [hf, hl]
    clear hown hl h0 hp hall hf
    go_enter Tryz.func195, Tryz.ntmps195
    go_wp2_with (go_at_call 162; refine HIX.out.mono ?_; rintro e w1 ⟨rfl, hb⟩; rw [h1]; have HB1 := Lib.hid hb; clear hb)
    go_ret
    exact ⟨A, c, rfl, own_mut HO.out (Mut.of_below HB1.out (fun _ => False)) (fun _ _ h => h), below2 H0.out HB1.out⟩
  · have hn0 : 0 < n := by omega
    obtain ⟨gb, cap, cur0, hv, hbg, hh0, hnc5, hcm5, hcs5, htk5⟩ := own_some hown (by omega)
    injection hv with hv1 hv2 hv3
    subst hv1 hv3
    have hkn : k0 < n := by omega
    have hne1 : ((k0 : Int) == -1) = false := beq_eq_false_iff_ne.2 (by omega)
    have HS0 : Hid (cur0.size = c * 6 ∧ cur0.toList.take (k0 * 6) = ((l.take (k0 + 1)).filter fun x => !p x).flatMap encSub ∧ (cur0.toList.take (n * 6)).drop ((k0 + 1) * 6) = (l.drop (k0 + 1)).flatMap encSub ∧ k0 = ((l.take (k0 + 1)).filter fun x => !p x).length) := Lib.hid (by
      have e1 : (l.take (k0 + 1)).filter (fun x => !p x) = l.take k0 := by
        rw [List.take_succ_eq_append_getElem hk0, List.filter_append]
        have e2 : (l.take k0).filter (fun x => !p x) = l.take k0 := List.filter_eq_self.2 (fun x hx => by
          obtain ⟨j, hj, rfl⟩ := List.getElem_of_mem hx
          rw [List.length_take] at hj
          rw [List.getElem_take, hbef j (by omega)]; rfl)
        rw [e2]
        simp [hpt]
      refine ⟨by omega, ?_, ?_, ?_⟩
      · rw [e1, ← flat_take (enc := encSub) lenSub, ← htk5, List.take_take]
        congr 1
        exact (Nat.min_eq_left (Nat.mul_le_mul_right _ (Nat.le_of_lt hkn))).symm
      · rw [htk5, flat_drop (enc := encSub) lenSub]
      · rw [e1, List.length_take]; omega)
    have HG0 := Lib.hid hh0
    have HCM := Lib.hid hcm5
    have HBS := Lib.hid hbase
    have HBG := Lib.hid hbg
    have HFL : Hid (l.filter (fun x => !p x) = (l.take n).filter fun x => !p x) := Lib.hid (by rw [← hl, List.take_length])
    have hmx : ∀ k, k < n → ∃ x, l[k]? = some x ∧ x ∈ l := fun k hk => ⟨l[k]'(by omega), List.getElem?_eq_getElem (by omega), List.getElem_mem _⟩
    have HMX := Lib.hid hmx
    clear hown hl h0 hp htk5 hcs5 hh0 hcm5 hbase hbg hk0 hpt hbef hmx HO
    go_enter Tryz.func195, Tryz.ntmps195
    go_wp2_with (go_at_call 162; refine HIX.out.mono ?_; rintro e w1 ⟨rfl, hb⟩; rw [h1]; have HB1 := Lib.hid (below2 H0.out hb); have HG1 := Lib.hid (block_below hb HG0.out); clear hb)
    go_loopw [5, 6, 7] (fun s5 s6 _ wr => ∃ (i j : Nat) (cur : Array Value), s5 = .int .i64 i ∧ s6 = .int .i64 j ∧ j ≤ n ∧ i < j ∧ Hid (Below w0.heap.size w0 wr) ∧ Hid (wr.heap[gb]? = some (.cells cur 73 (0, 0))) ∧ Hid (cur.size = c * 6 ∧ cur.toList.take (i * 6) = ((l.take j).filter fun x => !p x).flatMap encSub ∧ (cur.toList.take (n * 6)).drop (j * 6) = (l.drop j).flatMap encSub ∧ i = ((l.take j).filter fun x => !p x).length)) (fun _ s6 _ _ => n - (intOf s6).toNat)
    case atStart => exact ⟨k0, k0 + 1, cur0, rfl, by go_num, by omega, by omega, HB1, HG1, HS0⟩
    case round =>
      obtain ⟨i, j, cur, rfl, rfl, hjn, hij, HB, HG, HI⟩ := hrel
      have hgs := lt_of_blk HG.out
      by_cases hlt : j < n
      · obtain ⟨x, hx, hxm⟩ := HMX.out j hlt
        have hszc : cur.size = c * 6 := HI.out.1
        have hdr : (cur.toList.take (n * 6)).drop (j * 6) = encSub x ++ (l.drop (j + 1)).flatMap encSub := by
          have hjl : j < l.length := by rw [HL.out]; exact hlt
          have he : l[j] = x := by rw [List.getElem?_eq_getElem hjl] at hx; exact Option.some.inj hx
          rw [HI.out.2.2.1, List.drop_eq_getElem_cons hjl, List.flatMap_cons, he]
        have hcj : ∀ t u, (encSub x)[t]? = some u → t < 6 → cur[j * 6 + t]? = some u := fun t u hu ht => by
          have e := congrArg (fun L => L[t]?) hdr
          simp only [List.getElem?_drop] at e
          rw [List.getElem?_take, if_pos (by omega), List.getElem?_append_left (by rw [lenSub]; exact ht), hu] at e
          rw [← Array.getElem?_toList]; exact e
        have c0 : wr.cell? ⟨gb, j * 6, none⟩ = some (.int .u64 x.token) := (cell_of_blk HG.out _).trans (hcj 0 _ rfl (by decide))
        have c1 : wr.cell? ⟨gb, j * 6 + 1, none⟩ = some (.int .u64 x.inst) := (cell_of_blk HG.out _).trans (hcj 1 _ rfl (by decide))
        have c2 : wr.cell? ⟨gb, j * 6 + 2, none⟩ = some (.int .i64 x.node) := (cell_of_blk HG.out _).trans (hcj 2 _ rfl (by decide))
        have c3 : wr.cell? ⟨gb, j * 6 + 3, none⟩ = some (.string x.name) := (cell_of_blk HG.out _).trans (hcj 3 _ rfl (by decide))
        have c4 : wr.cell? ⟨gb, j * 6 + 4, none⟩ = some (.string x.key) := (cell_of_blk HG.out _).trans (hcj 4 _ rfl (by decide))
        have c5 : wr.cell? ⟨gb, j * 6 + 5, none⟩ = some (.bool x.opn) := (cell_of_blk HG.out _).trans (hcj 5 _ rfl (by decide))
        have hcall := fun W hW => HP.out W hW x hxm
        have HX := Lib.hid hx
        have HDR := Lib.hid hdr
        clear hcj hdr hx hxm
        cases hq : p x with
        | false =>
          rw [hq] at hcall
          have HQ := Lib.hid hq
          have HCALL := Lib.hid hcall
          clear hq hcall
          go_wp2_with fail
          refine (HCALL.out _ (below2 HB.out (vbox_Sub wr x).1)).mono ?_
          rintro e w1 ⟨rfl, hb1⟩
          have hv1 := block_below hb1 (vbox_Sub wr x).2
          have HBW := Lib.hid (below2 HB.out (below2 (vbox_Sub wr x).1 hb1))
          have hgw := block_below hb1 (block_below (vbox_Sub wr x).1 HG.out)
          have k0 := cell_of_blk hv1 0
          have k1 := cell_of_blk hv1 1
          have k2 := cell_of_blk hv1 2
          have k3 := cell_of_blk hv1 3
          have k4 := cell_of_blk hv1 4
          have k5 := cell_of_blk hv1 5
          clear hv1
          obtain ⟨u0, hu0⟩ : ∃ u, cur[i * 6]? = some u := ⟨_, Array.getElem?_eq_getElem (by rw [hszc]; have : i * 6 + 6 ≤ c * 6 := (by have := Nat.mul_le_mul_right 6 (show i + 1 ≤ c by omega); omega); omega)⟩
          have j0 := (cell_of_blk hgw (i * 6)).trans hu0
          have f0 := frozen_of_blk hgw (i * 6)
          clear hu0
          obtain ⟨u1, hu1⟩ : ∃ u, cur[i * 6 + 1]? = some u := ⟨_, Array.getElem?_eq_getElem (by rw [hszc]; have : i * 6 + 6 ≤ c * 6 := (by have := Nat.mul_le_mul_right 6 (show i + 1 ≤ c by omega); omega); omega)⟩
          have j1 := (cell_of_blk hgw (i * 6 + 1)).trans hu1
          have f1 := frozen_of_blk hgw (i * 6 + 1)
          clear hu1
          obtain ⟨u2, hu2⟩ : ∃ u, cur[i * 6 + 2]? = some u := ⟨_, Array.getElem?_eq_getElem (by rw [hszc]; have : i * 6 + 6 ≤ c * 6 := (by have := Nat.mul_le_mul_right 6 (show i + 1 ≤ c by omega); omega); omega)⟩
          have j2 := (cell_of_blk hgw (i * 6 + 2)).trans hu2
          have f2 := frozen_of_blk hgw (i * 6 + 2)
          clear hu2
          obtain ⟨u3, hu3⟩ : ∃ u, cur[i * 6 + 3]? = some u := ⟨_, Array.getElem?_eq_getElem (by rw [hszc]; have : i * 6 + 6 ≤ c * 6 := (by have := Nat.mul_le_mul_right 6 (show i + 1 ≤ c by omega); omega); omega)⟩
          have j3 := (cell_of_blk hgw (i * 6 + 3)).trans hu3
          have f3 := frozen_of_blk hgw (i * 6 + 3)
          clear hu3
          obtain ⟨u4, hu4⟩ : ∃ u, cur[i * 6 + 4]? = some u := ⟨_, Array.getElem?_eq_getElem (by rw [hszc]; have : i * 6 + 6 ≤ c * 6 := (by have := Nat.mul_le_mul_right 6 (show i + 1 ≤ c by omega); omega); omega)⟩
          have j4 := (cell_of_blk hgw (i * 6 + 4)).trans hu4
          have f4 := frozen_of_blk hgw (i * 6 + 4)
          clear hu4
          obtain ⟨u5, hu5⟩ : ∃ u, cur[i * 6 + 5]? = some u := ⟨_, Array.getElem?_eq_getElem (by rw [hszc]; have : i * 6 + 6 ≤ c * 6 := (by have := Nat.mul_le_mul_right 6 (show i + 1 ≤ c by omega); omega); omega)⟩
          have j5 := (cell_of_blk hgw (i * 6 + 5)).trans hu5
          have f5 := frozen_of_blk hgw (i * 6 + 5)
          clear hu5
          have HGW := Lib.hid hgw
          clear hgw hb1
          go_wp2_with fail
          go_roundw
          case rel =>
            refine ⟨i + 1, j + 1, _, by go_num, by go_num, by omega, by omega, Lib.hid (((((((HBW.out).setCell (p := ⟨gb, i * 6, none⟩) (by show _ ≤ gb; have := HBS.out; have := HBG.out; omega) _).setCell (p := ⟨gb, i * 6 + 1, none⟩) (by show _ ≤ gb; have := HBS.out; have := HBG.out; omega) _).setCell (p := ⟨gb, i * 6 + 2, none⟩) (by show _ ≤ gb; have := HBS.out; have := HBG.out; omega) _).setCell (p := ⟨gb, i * 6 + 3, none⟩) (by show _ ≤ gb; have := HBS.out; have := HBG.out; omega) _).setCell (p := ⟨gb, i * 6 + 4, none⟩) (by show _ ≤ gb; have := HBS.out; have := HBG.out; omega) _).setCell (p := ⟨gb, i * 6 + 5, none⟩) (by show _ ≤ gb; have := HBS.out; have := HBG.out; omega) _), Lib.hid (set_blk (o := i * 6 + 5) (set_blk (o := i * 6 + 4) (set_blk (o := i * 6 + 3) (set_blk (o := i * 6 + 2) (set_blk (o := i * 6 + 1) (set_blk (o := i * 6) (HGW.out) (.int .u64 x.token)) (.int .u64 x.inst)) (.int .i64 x.node)) (.string x.name)) (.string x.key)) (.bool x.opn)), Lib.hid ?_⟩
            have e1 : (l.take (j + 1)).filter (fun x => !p x) = (l.take j).filter (fun x => !p x) ++ [x] := by
              rw [List.take_add_one, HX.out, List.filter_append]
              congr 1
              simp [HQ.out]
            have hil : (i + 1) * 6 ≤ cur.size := by rw [hszc]; exact Nat.mul_le_mul_right _ (by omega)
            have e2 : ((((((cur.setIfInBounds (i * 6) (.int .u64 x.token)).setIfInBounds (i * 6 + 1) (.int .u64 x.inst)).setIfInBounds (i * 6 + 2) (.int .i64 x.node)).setIfInBounds (i * 6 + 3) (.string x.name)).setIfInBounds (i * 6 + 4) (.string x.key)).setIfInBounds (i * 6 + 5) (.bool x.opn)).toList = splice cur.toList (i * 6) (encSub x) := by
              rw [← setAll_splice _ _ _ (by rw [lenSub, Array.length_toList]; omega)]
              simp only [Array.toList_setIfInBounds]
              first | rfl | (simp only [Nat.mul_one]; rfl)
            refine ⟨by simp only [Array.size_setIfInBounds]; exact hszc, ?_, ?_, ?_⟩
            · rw [e2, e1, List.flatMap_append, ← HI.out.2.1, splice_take (by rw [lenSub, Nat.succ_mul]) (by rw [lenSub, Array.length_toList]; omega), List.flatMap_singleton]
            · have e3 := congrArg (fun L => L.drop 6) HI.out.2.2.1
              simp only [List.drop_drop] at e3
              rw [show j * 6 + 6 = (j + 1) * 6 by omega, flat_drop1 (enc := encSub) lenSub] at e3
              have hle : (i + 1) * 6 ≤ (j + 1) * 6 := Nat.mul_le_mul_right _ (by omega)
              rw [e2, ← e3, List.drop_take, List.drop_take, splice_drop (by rw [lenSub]; omega) (by rw [lenSub, Array.length_toList]; omega)]
            · rw [e1, List.length_append, ← HI.out.2.2.2]; rfl
          case measure => simp [intOf]; omega
        | true =>
          rw [hq] at hcall
          have HQ := Lib.hid hq
          have HCALL := Lib.hid hcall
          clear hq hcall
          go_wp2_with fail
          refine (HCALL.out _ (below2 HB.out (vbox_Sub wr x).1)).mono ?_
          rintro e w1 ⟨rfl, hb1⟩
          have hv1 := block_below hb1 (vbox_Sub wr x).2
          have HBW := Lib.hid (below2 HB.out (below2 (vbox_Sub wr x).1 hb1))
          have hgw := block_below hb1 (block_below (vbox_Sub wr x).1 HG.out)
          clear hv1
          have HGW := Lib.hid hgw
          clear hgw hb1
          go_wp2_with fail
          go_roundw
          case rel =>
            refine ⟨i, j + 1, cur, rfl, by go_num, by omega, by omega, HBW, HGW, Lib.hid ?_⟩
            have e1 : (l.take (j + 1)).filter (fun x => !p x) = (l.take j).filter (fun x => !p x) := by
              rw [List.take_add_one, HX.out, List.filter_append]
              simp [HQ.out]
            rw [e1]
            refine ⟨hszc, HI.out.2.1, ?_, HI.out.2.2.2⟩
            have e3 := congrArg (fun L => L.drop 6) HDR.out
            simp only [List.drop_drop] at e3
            rw [show j * 6 + 6 = (j + 1) * 6 by omega] at e3
            rw [e3, List.drop_append, List.drop_of_length_le (by rw [lenSub]; exact Nat.le_refl _), lenSub]
            simp
          case measure => simp [intOf]; omega
      · obtain rfl : j = n := by omega
        have hszc : cur.size = c * 6 := HI.out.1
        have hfit : i * 6 + (j - i) * 6 ≤ cur.size := by
          rw [hszc, ← Nat.add_mul]; exact Nat.mul_le_mul_right _ (by omega)
        have hcl : ∀ ty, (Builtin.clear_ #[30] ty #[.slice (some ⟨gb, i * 6, none⟩) (j - i) (c - i)]).run Tryz.prog wr = .ok (.tuple #[]) (wr.setRow gb (splice cur.toList (i * 6) (Builtin.zeroCells (.agg #[.int .u64 0, .int .u64 0, .int .i64 0, .string ⟨#[]⟩, .string ⟨#[]⟩, .bool false] : Value).cells (j - i)).toList).toArray) := fun ty =>
          run_clear_wide wr 30 73 ty _ 6 Tryz.underlying30 zs_Sub rfl (by intro u hu; simp [Value.cells] at hu; rcases hu with rfl | rfl | rfl | rfl | rfl | rfl <;> rfl) gb (i * 6) (j - i) (c - i) cur 73 (by omega) HG.out hfit
        have hci : ¬ (c = i) := by omega
        have hcl2 : i ≤ c := by omega
        have hin : i ≤ j := by omega
        have HCL := Lib.hid hcl
        clear hcl
        have HHQ := Lib.hid (setRow_heap wr gb cur (splice cur.toList (i * 6) (Builtin.zeroCells (.agg #[.int .u64 0, .int .u64 0, .int .i64 0, .string ⟨#[]⟩, .string ⟨#[]⟩, .bool false] : Value).cells (j - i)).toList).toArray 73 (0, 0) HG.out)
        have HHB : Hid (Below w0.heap.size w0 (wr.setRow gb (splice cur.toList (i * 6) (Builtin.zeroCells (.agg #[.int .u64 0, .int .u64 0, .int .i64 0, .string ⟨#[]⟩, .string ⟨#[]⟩, .bool false] : Value).cells (j - i)).toList).toArray)) := Lib.hid (below_setRow HB.out (by have := HBS.out; have := HBG.out; omega) _)
        have hsp : (splice cur.toList (i * 6) (Builtin.zeroCells (.agg #[.int .u64 0, .int .u64 0, .int .i64 0, .string ⟨#[]⟩, .string ⟨#[]⟩, .bool false] : Value).cells (j - i)).toList).toArray.size = cur.size ∧ (splice cur.toList (i * 6) (Builtin.zeroCells (.agg #[.int .u64 0, .int .u64 0, .int .i64 0, .string ⟨#[]⟩, .string ⟨#[]⟩, .bool false] : Value).cells (j - i)).toList).toArray.toList.take (i * 6) = cur.toList.take (i * 6) := by
          have hzl : (Builtin.zeroCells (.agg #[.int .u64 0, .int .u64 0, .int .i64 0, .string ⟨#[]⟩, .string ⟨#[]⟩, .bool false] : Value).cells (j - i)).toList.length = (j - i) * 6 := by rw [Array.length_toList, size_zeroCells]; rfl
          have hle : i * 6 + (j - i) * 6 ≤ cur.size := by
            exact hfit
          refine ⟨by rw [List.size_toArray, length_splice _ _ _ (by rw [hzl, Array.length_toList]; exact hle), Array.length_toList], ?_⟩
          rw [List.toList_toArray]
          unfold splice
          have hll : (cur.toList.take (i * 6)).length = i * 6 := by rw [List.length_take, Array.length_toList]; omega
          rw [List.take_append_of_le_length (by rw [hll]; exact Nat.le_refl _), List.take_of_length_le (by rw [hll]; exact Nat.le_refl _)]
        have HSP := Lib.hid hsp
        clear hsp
        generalize (splice cur.toList (i * 6) (Builtin.zeroCells (.agg #[.int .u64 0, .int .u64 0, .int .i64 0, .string ⟨#[]⟩, .string ⟨#[]⟩, .bool false] : Value).cells (j - i)).toList).toArray = CR at *
        have hcl' := HCL.out
        have hji : ((j : Int) - (i : Int)).toNat = j - i := by omega
        go_wp2
        go_ret
        have hfl : (l.filter fun x => !p x).length = i := by rw [HFL.out]; exact HI.out.2.2.2.symm
        rw [hfl]
        refine ⟨_, _, rfl, rowb_Sub HBG.out HHQ.out (by omega) HCM.out (by rw [HSP.out.1]; exact hszc.symm) hfl ?_, HHB.out⟩
        rw [HFL.out, ← HI.out.2.1]
        first | exact HSP.out.2 | (rw [Nat.mul_one]; exact HSP.out.2)
set_option maxRecDepth 100000 in
theorem without_Sub (A : Option Addr) (n c g : Nat) (lb : Array Value) (l : List ESub) (p : ESub → Bool) (w : World) (S : Nat → Prop) (eg : ∀ args w, (callFunc g args).run Tryz.prog w = .ok (.enter g args) w) (hl : l.length = n) (hby : n * 64 ≤ 140737488355328) (hr : Row w S 6 n (.slice A n c) (l.flatMap encSub))
    (hp : ∀ W, Below w.heap.size w W → ∀ x ∈ l, Calls Tryz.prog g (#[.agg #[.int .u64 x.token, .int .u64 x.inst, .int .i64 x.node, .string x.name, .string x.key, .bool x.opn]] ++ lb) W fun e w' => e = .returned (.bool (p x)) ∧ Below W.heap.size W w') :
    Calls Tryz.prog 150 #[.slice A n c, .func (.func g) #[] lb] w fun e w' => ∃ A' c', e = .returned (.slice A' (l.filter fun x => !p x).length c') ∧ w'.ownsRow w.heap.size 73 6 (.slice A' (l.filter fun x => !p x).length c') (l.filter fun x => !p x).length ((l.filter fun x => !p x).flatMap encSub) ∧ Below w.heap.size w w' := by
  have HC := Lib.hid (clone_Sub A n c l w S hl hby hr)
  have HP := Lib.hid hp
  have HL := Lib.hid hl
  have EG := Lib.hid eg
  clear hp hr hl eg
  go_enter Tryz.func150, Tryz.ntmps150
  go_wp2_with (go_at_call 27; refine HC.out.mono ?_; rintro e w1 ⟨A1, c1, rfl, hown, hb⟩; have HO1 := Lib.hid hown; have HB1 := Lib.hid hb; clear hown hb)
  refine (del_Sub w.heap.size _ n g lb l p w w1 EG.out HL.out HO1.out (Nat.le_refl _) HB1.out HP.out).mono ?_
  rintro e w2 ⟨A2, c2, rfl, hown, hb⟩
  have HO2 := Lib.hid hown
  have HB2 := Lib.hid hb
  clear hown hb
  go_wp2_with fail
  go_ret
  exact ⟨A2, c2, rfl, HO2.out, HB2.out⟩
end Go.Proofs.YtgpkmellpllmgaaGreat
/-
  fold.change of Sub. Printed by gfold.py.
-/
set_option linter.unusedVariables false
set_option linter.unusedSimpArgs false
namespace Go.Proofs.YtgpkmellpllmgaaGreat
open Go Go.RowKit Go.Proofs.Base
open Go.Sort (grow)
end Go.Proofs.YtgpkmellpllmgaaGreat
/-
  slices.DeleteFunc, fold.without of Token. Printed by gfold.py.
-/
set_option linter.unusedVariables false
set_option linter.unusedSimpArgs false
namespace Go.Proofs.YtgpkmellpllmgaaGreat
open Go Go.RowKit Go.Proofs.Base
open Go.Sort (grow)
theorem vbox_Tok (w : World) (x : ETok) : Below w.heap.size w (w.alloc (.cells #[.int .u64 x.key, .int .u64 x.inst, .int .u64 x.scope, .int .i64 x.node, .int .i64 x.flow, .string x.stuck] 42)) ∧ (w.alloc (.cells #[.int .u64 x.key, .int .u64 x.inst, .int .u64 x.scope, .int .i64 x.node, .int .i64 x.flow, .string x.stuck] 42)).heap[w.heap.size]? = some (.cells #[.int .u64 x.key, .int .u64 x.inst, .int .u64 x.scope, .int .i64 x.node, .int .i64 x.flow, .string x.stuck] 42 (0, 0)) :=
  ⟨below_alloc (Below.refl _ _) _, blk_new _⟩
theorem rowb_Tok {g cap i : Nat} {cur : Array Value} {w : World} {base : Nat} {l : List ETok} (hbg : base ≤ g) (hh : w.heap[g]? = some (.cells cur 42 (0, 0))) (hnc : i ≤ cap) (hcm : cap ≤ maxLen) (hcs : cap * 6 = cur.size) (hl : l.length = i) (ht : cur.toList.take (i * 6) = l.flatMap encTok) :
    w.ownsRow base 42 6 (.slice (some ⟨g, 0, none⟩) i cap) i (l.flatMap encTok) :=
  ⟨by rw [flat_len (enc := encTok) lenTok, hl], .inr ⟨g, cap, cur, rfl, hbg, hh, hnc, hcm, by omega, ht⟩⟩
theorem zs_Tok : ∀ w, (zeroValue 42).run Tryz.prog w = .ok (.agg #[.int .u64 0, .int .u64 0, .int .u64 0, .int .i64 0, .int .i64 0, .string ⟨#[]⟩]) w := Tryz.zeroValue42
set_option maxRecDepth 100000 in
set_option maxHeartbeats 4000000 in
theorem del_Tok (base : Nat) (v : Value) (n g : Nat) (lb : Array Value) (l : List ETok) (p : ETok → Bool) (w0 w : World) (eg : ∀ args w, (callFunc g args).run Tryz.prog w = .ok (.enter g args) w) (hl : l.length = n) (hown : w.ownsRow base 42 6 v n (l.flatMap encTok)) (hbase : w0.heap.size ≤ base) (h0 : Below w0.heap.size w0 w)
    (hp : ∀ W, Below w0.heap.size w0 W → ∀ x ∈ l, Calls Tryz.prog g (#[.agg #[.int .u64 x.key, .int .u64 x.inst, .int .u64 x.scope, .int .i64 x.node, .int .i64 x.flow, .string x.stuck]] ++ lb) W fun e w' => e = .returned (.bool (p x)) ∧ Below W.heap.size W w') :
    Calls Tryz.prog 192 #[v, .func (.func g) #[] lb] w fun e w' => ∃ A' c', e = .returned (.slice A' (l.filter fun x => !p x).length c') ∧ w'.ownsRow base 42 6 (.slice A' (l.filter fun x => !p x).length c') (l.filter fun x => !p x).length ((l.filter fun x => !p x).flatMap encTok) ∧ Below w0.heap.size w0 w' := by
  obtain ⟨A, c, rfl, hnc, hcc⟩ := (Row.of_own hown).open_
  have HO := Lib.hid hown
  have HL := Lib.hid hl
  have H0 := Lib.hid h0
  have HP := Lib.hid hp
  have HIX : Hid (Calls Tryz.prog 76 #[.slice A n c, .func (.func g) #[] lb] w fun e w' => e = .returned (.int .i64 (idxP p l)) ∧ Below w.heap.size w w') := Lib.hid (idx_Tok A n c g lb l p w0 w _ eg hl (Row.of_own hown) h0 hp)
  rcases idxP_spec p l with ⟨h1, hall⟩ | ⟨k0, hk0, h1, hpt, hbef⟩
  · have hf : l.filter (fun x => !p x) = l := List.filter_eq_self.2 (fun x hx => by rw [hall x hx]; rfl)
    rw [hf, hl]
    clear hown hl h0 hp hall hf
    go_enter Tryz.func192, Tryz.ntmps192
    go_wp2_with (go_at_call 76; refine HIX.out.mono ?_; rintro e w1 ⟨rfl, hb⟩; rw [h1]; have HB1 := Lib.hid hb; clear hb)
    go_ret
    exact ⟨A, c, rfl, own_mut HO.out (Mut.of_below HB1.out (fun _ => False)) (fun _ _ h => h), below2 H0.out HB1.out⟩
  · have hn0 : 0 < n := by omega
    obtain ⟨gb, cap, cur0, hv, hbg, hh0, hnc5, hcm5, hcs5, htk5⟩ := own_some hown (by omega)
    injection hv with hv1 hv2 hv3
    subst hv1 hv3
    have hkn : k0 < n := by omega
    have hne1 : ((k0 : Int) == -1) = false := beq_eq_false_iff_ne.2 (by omega)
    have HS0 : Hid (cur0.size = c * 6 ∧ cur0.toList.take (k0 * 6) = ((l.take (k0 + 1)).filter fun x => !p x).flatMap encTok ∧ (cur0.toList.take (n * 6)).drop ((k0 + 1) * 6) = (l.drop (k0 + 1)).flatMap encTok ∧ k0 = ((l.take (k0 + 1)).filter fun x => !p x).length) := Lib.hid (by
      have e1 : (l.take (k0 + 1)).filter (fun x => !p x) = l.take k0 := by
        rw [List.take_succ_eq_append_getElem hk0, List.filter_append]
        have e2 : (l.take k0).filter (fun x => !p x) = l.take k0 := List.filter_eq_self.2 (fun x hx => by
          obtain ⟨j, hj, rfl⟩ := List.getElem_of_mem hx
          rw [List.length_take] at hj
          rw [List.getElem_take, hbef j (by omega)]; rfl)
        rw [e2]
        simp [hpt]
      refine ⟨by omega, ?_, ?_, ?_⟩
      · rw [e1, ← flat_take (enc := encTok) lenTok, ← htk5, List.take_take]
        congr 1
        exact (Nat.min_eq_left (Nat.mul_le_mul_right _ (Nat.le_of_lt hkn))).symm
      · rw [htk5, flat_drop (enc := encTok) lenTok]
      · rw [e1, List.length_take]; omega)
    have HG0 := Lib.hid hh0
    have HCM := Lib.hid hcm5
    have HBS := Lib.hid hbase
    have HBG := Lib.hid hbg
    have HFL : Hid (l.filter (fun x => !p x) = (l.take n).filter fun x => !p x) := Lib.hid (by rw [← hl, List.take_length])
    have hmx : ∀ k, k < n → ∃ x, l[k]? = some x ∧ x ∈ l := fun k hk => ⟨l[k]'(by omega), List.getElem?_eq_getElem (by omega), List.getElem_mem _⟩
    have HMX := Lib.hid hmx
    clear hown hl h0 hp htk5 hcs5 hh0 hcm5 hbase hbg hk0 hpt hbef hmx HO
    go_enter Tryz.func192, Tryz.ntmps192
    go_wp2_with (go_at_call 76; refine HIX.out.mono ?_; rintro e w1 ⟨rfl, hb⟩; rw [h1]; have HB1 := Lib.hid (below2 H0.out hb); have HG1 := Lib.hid (block_below hb HG0.out); clear hb)
    go_loopw [5, 6, 7] (fun s5 s6 _ wr => ∃ (i j : Nat) (cur : Array Value), s5 = .int .i64 i ∧ s6 = .int .i64 j ∧ j ≤ n ∧ i < j ∧ Hid (Below w0.heap.size w0 wr) ∧ Hid (wr.heap[gb]? = some (.cells cur 42 (0, 0))) ∧ Hid (cur.size = c * 6 ∧ cur.toList.take (i * 6) = ((l.take j).filter fun x => !p x).flatMap encTok ∧ (cur.toList.take (n * 6)).drop (j * 6) = (l.drop j).flatMap encTok ∧ i = ((l.take j).filter fun x => !p x).length)) (fun _ s6 _ _ => n - (intOf s6).toNat)
    case atStart => exact ⟨k0, k0 + 1, cur0, rfl, by go_num, by omega, by omega, HB1, HG1, HS0⟩
    case round =>
      obtain ⟨i, j, cur, rfl, rfl, hjn, hij, HB, HG, HI⟩ := hrel
      have hgs := lt_of_blk HG.out
      by_cases hlt : j < n
      · obtain ⟨x, hx, hxm⟩ := HMX.out j hlt
        have hszc : cur.size = c * 6 := HI.out.1
        have hdr : (cur.toList.take (n * 6)).drop (j * 6) = encTok x ++ (l.drop (j + 1)).flatMap encTok := by
          have hjl : j < l.length := by rw [HL.out]; exact hlt
          have he : l[j] = x := by rw [List.getElem?_eq_getElem hjl] at hx; exact Option.some.inj hx
          rw [HI.out.2.2.1, List.drop_eq_getElem_cons hjl, List.flatMap_cons, he]
        have hcj : ∀ t u, (encTok x)[t]? = some u → t < 6 → cur[j * 6 + t]? = some u := fun t u hu ht => by
          have e := congrArg (fun L => L[t]?) hdr
          simp only [List.getElem?_drop] at e
          rw [List.getElem?_take, if_pos (by omega), List.getElem?_append_left (by rw [lenTok]; exact ht), hu] at e
          rw [← Array.getElem?_toList]; exact e
        have c0 : wr.cell? ⟨gb, j * 6, none⟩ = some (.int .u64 x.key) := (cell_of_blk HG.out _).trans (hcj 0 _ rfl (by decide))
        have c1 : wr.cell? ⟨gb, j * 6 + 1, none⟩ = some (.int .u64 x.inst) := (cell_of_blk HG.out _).trans (hcj 1 _ rfl (by decide))
        have c2 : wr.cell? ⟨gb, j * 6 + 2, none⟩ = some (.int .u64 x.scope) := (cell_of_blk HG.out _).trans (hcj 2 _ rfl (by decide))
        have c3 : wr.cell? ⟨gb, j * 6 + 3, none⟩ = some (.int .i64 x.node) := (cell_of_blk HG.out _).trans (hcj 3 _ rfl (by decide))
        have c4 : wr.cell? ⟨gb, j * 6 + 4, none⟩ = some (.int .i64 x.flow) := (cell_of_blk HG.out _).trans (hcj 4 _ rfl (by decide))
        have c5 : wr.cell? ⟨gb, j * 6 + 5, none⟩ = some (.string x.stuck) := (cell_of_blk HG.out _).trans (hcj 5 _ rfl (by decide))
        have hcall := fun W hW => HP.out W hW x hxm
        have HX := Lib.hid hx
        have HDR := Lib.hid hdr
        clear hcj hdr hx hxm
        cases hq : p x with
        | false =>
          rw [hq] at hcall
          have HQ := Lib.hid hq
          have HCALL := Lib.hid hcall
          clear hq hcall
          go_wp2_with fail
          refine (HCALL.out _ (below2 HB.out (vbox_Tok wr x).1)).mono ?_
          rintro e w1 ⟨rfl, hb1⟩
          have hv1 := block_below hb1 (vbox_Tok wr x).2
          have HBW := Lib.hid (below2 HB.out (below2 (vbox_Tok wr x).1 hb1))
          have hgw := block_below hb1 (block_below (vbox_Tok wr x).1 HG.out)
          have k0 := cell_of_blk hv1 0
          have k1 := cell_of_blk hv1 1
          have k2 := cell_of_blk hv1 2
          have k3 := cell_of_blk hv1 3
          have k4 := cell_of_blk hv1 4
          have k5 := cell_of_blk hv1 5
          clear hv1
          obtain ⟨u0, hu0⟩ : ∃ u, cur[i * 6]? = some u := ⟨_, Array.getElem?_eq_getElem (by rw [hszc]; have : i * 6 + 6 ≤ c * 6 := (by have := Nat.mul_le_mul_right 6 (show i + 1 ≤ c by omega); omega); omega)⟩
          have j0 := (cell_of_blk hgw (i * 6)).trans hu0
          have f0 := frozen_of_blk hgw (i * 6)
          clear hu0
          obtain ⟨u1, hu1⟩ : ∃ u, cur[i * 6 + 1]? = some u := ⟨_, Array.getElem?_eq_getElem (by rw [hszc]; have : i * 6 + 6 ≤ c * 6 := (by have := Nat.mul_le_mul_right 6 (show i + 1 ≤ c by omega); omega); omega)⟩
          have j1 := (cell_of_blk hgw (i * 6 + 1)).trans hu1
          have f1 := frozen_of_blk hgw (i * 6 + 1)
          clear hu1
          obtain ⟨u2, hu2⟩ : ∃ u, cur[i * 6 + 2]? = some u := ⟨_, Array.getElem?_eq_getElem (by rw [hszc]; have : i * 6 + 6 ≤ c * 6 := (by have := Nat.mul_le_mul_right 6 (show i + 1 ≤ c by omega); omega); omega)⟩
          have j2 := (cell_of_blk hgw (i * 6 + 2)).trans hu2
          have f2 := frozen_of_blk hgw (i * 6 + 2)
          clear hu2
          obtain ⟨u3, hu3⟩ : ∃ u, cur[i * 6 + 3]? = some u := ⟨_, Array.getElem?_eq_getElem (by rw [hszc]; have : i * 6 + 6 ≤ c * 6 := (by have := Nat.mul_le_mul_right 6 (show i + 1 ≤ c by omega); omega); omega)⟩
          have j3 := (cell_of_blk hgw (i * 6 + 3)).trans hu3
          have f3 := frozen_of_blk hgw (i * 6 + 3)
          clear hu3
          obtain ⟨u4, hu4⟩ : ∃ u, cur[i * 6 + 4]? = some u := ⟨_, Array.getElem?_eq_getElem (by rw [hszc]; have : i * 6 + 6 ≤ c * 6 := (by have := Nat.mul_le_mul_right 6 (show i + 1 ≤ c by omega); omega); omega)⟩
          have j4 := (cell_of_blk hgw (i * 6 + 4)).trans hu4
          have f4 := frozen_of_blk hgw (i * 6 + 4)
          clear hu4
          obtain ⟨u5, hu5⟩ : ∃ u, cur[i * 6 + 5]? = some u := ⟨_, Array.getElem?_eq_getElem (by rw [hszc]; have : i * 6 + 6 ≤ c * 6 := (by have := Nat.mul_le_mul_right 6 (show i + 1 ≤ c by omega); omega); omega)⟩
          have j5 := (cell_of_blk hgw (i * 6 + 5)).trans hu5
          have f5 := frozen_of_blk hgw (i * 6 + 5)
          clear hu5
          have HGW := Lib.hid hgw
          clear hgw hb1
          go_wp2_with fail
          go_roundw
          case rel =>
            refine ⟨i + 1, j + 1, _, by go_num, by go_num, by omega, by omega, Lib.hid (((((((HBW.out).setCell (p := ⟨gb, i * 6, none⟩) (by show _ ≤ gb; have := HBS.out; have := HBG.out; omega) _).setCell (p := ⟨gb, i * 6 + 1, none⟩) (by show _ ≤ gb; have := HBS.out; have := HBG.out; omega) _).setCell (p := ⟨gb, i * 6 + 2, none⟩) (by show _ ≤ gb; have := HBS.out; have := HBG.out; omega) _).setCell (p := ⟨gb, i * 6 + 3, none⟩) (by show _ ≤ gb; have := HBS.out; have := HBG.out; omega) _).setCell (p := ⟨gb, i * 6 + 4, none⟩) (by show _ ≤ gb; have := HBS.out; have := HBG.out; omega) _).setCell (p := ⟨gb, i * 6 + 5, none⟩) (by show _ ≤ gb; have := HBS.out; have := HBG.out; omega) _), Lib.hid (set_blk (o := i * 6 + 5) (set_blk (o := i * 6 + 4) (set_blk (o := i * 6 + 3) (set_blk (o := i * 6 + 2) (set_blk (o := i * 6 + 1) (set_blk (o := i * 6) (HGW.out) (.int .u64 x.key)) (.int .u64 x.inst)) (.int .u64 x.scope)) (.int .i64 x.node)) (.int .i64 x.flow)) (.string x.stuck)), Lib.hid ?_⟩
            have e1 : (l.take (j + 1)).filter (fun x => !p x) = (l.take j).filter (fun x => !p x) ++ [x] := by
              rw [List.take_add_one, HX.out, List.filter_append]
              congr 1
              simp [HQ.out]
            have hil : (i + 1) * 6 ≤ cur.size := by rw [hszc]; exact Nat.mul_le_mul_right _ (by omega)
            have e2 : ((((((cur.setIfInBounds (i * 6) (.int .u64 x.key)).setIfInBounds (i * 6 + 1) (.int .u64 x.inst)).setIfInBounds (i * 6 + 2) (.int .u64 x.scope)).setIfInBounds (i * 6 + 3) (.int .i64 x.node)).setIfInBounds (i * 6 + 4) (.int .i64 x.flow)).setIfInBounds (i * 6 + 5) (.string x.stuck)).toList = splice cur.toList (i * 6) (encTok x) := by
              rw [← setAll_splice _ _ _ (by rw [lenTok, Array.length_toList]; omega)]
              simp only [Array.toList_setIfInBounds]
              first | rfl | (simp only [Nat.mul_one]; rfl)
            refine ⟨by simp only [Array.size_setIfInBounds]; exact hszc, ?_, ?_, ?_⟩
            · rw [e2, e1, List.flatMap_append, ← HI.out.2.1, splice_take (by rw [lenTok, Nat.succ_mul]) (by rw [lenTok, Array.length_toList]; omega), List.flatMap_singleton]
            · have e3 := congrArg (fun L => L.drop 6) HI.out.2.2.1
              simp only [List.drop_drop] at e3
              rw [show j * 6 + 6 = (j + 1) * 6 by omega, flat_drop1 (enc := encTok) lenTok] at e3
              have hle : (i + 1) * 6 ≤ (j + 1) * 6 := Nat.mul_le_mul_right _ (by omega)
              rw [e2, ← e3, List.drop_take, List.drop_take, splice_drop (by rw [lenTok]; omega) (by rw [lenTok, Array.length_toList]; omega)]
            · rw [e1, List.length_append, ← HI.out.2.2.2]; rfl
          case measure => simp [intOf]; omega
        | true =>
          rw [hq] at hcall
          have HQ := Lib.hid hq
          have HCALL := Lib.hid hcall
          clear hq hcall
          go_wp2_with fail
          refine (HCALL.out _ (below2 HB.out (vbox_Tok wr x).1)).mono ?_
          rintro e w1 ⟨rfl, hb1⟩
          have hv1 := block_below hb1 (vbox_Tok wr x).2
          have HBW := Lib.hid (below2 HB.out (below2 (vbox_Tok wr x).1 hb1))
          have hgw := block_below hb1 (block_below (vbox_Tok wr x).1 HG.out)
          clear hv1
          have HGW := Lib.hid hgw
          clear hgw hb1
          go_wp2_with fail
          go_roundw
          case rel =>
            refine ⟨i, j + 1, cur, rfl, by go_num, by omega, by omega, HBW, HGW, Lib.hid ?_⟩
            have e1 : (l.take (j + 1)).filter (fun x => !p x) = (l.take j).filter (fun x => !p x) := by
              rw [List.take_add_one, HX.out, List.filter_append]
              simp [HQ.out]
            rw [e1]
            refine ⟨hszc, HI.out.2.1, ?_, HI.out.2.2.2⟩
            have e3 := congrArg (fun L => L.drop 6) HDR.out
            simp only [List.drop_drop] at e3
            rw [show j * 6 + 6 = (j + 1) * 6 by omega] at e3
            rw [e3, List.drop_append, List.drop_of_length_le (by rw [lenTok]; exact Nat.le_refl _), lenTok]
            simp
          case measure => simp [intOf]; omega
      · obtain rfl : j = n := by omega
        have hszc : cur.size = c * 6 := HI.out.1
        have hfit : i * 6 + (j - i) * 6 ≤ cur.size := by
          rw [hszc, ← Nat.add_mul]; exact Nat.mul_le_mul_right _ (by omega)
        have hcl : ∀ ty, (Builtin.clear_ #[27] ty #[.slice (some ⟨gb, i * 6, none⟩) (j - i) (c - i)]).run Tryz.prog wr = .ok (.tuple #[]) (wr.setRow gb (splice cur.toList (i * 6) (Builtin.zeroCells (.agg #[.int .u64 0, .int .u64 0, .int .u64 0, .int .i64 0, .int .i64 0, .string ⟨#[]⟩] : Value).cells (j - i)).toList).toArray) := fun ty =>
          run_clear_wide wr 27 42 ty _ 6 Tryz.underlying27 zs_Tok rfl (by intro u hu; simp [Value.cells] at hu; rcases hu with rfl | rfl | rfl | rfl | rfl | rfl <;> rfl) gb (i * 6) (j - i) (c - i) cur 42 (by omega) HG.out hfit
        have hci : ¬ (c = i) := by omega
        have hcl2 : i ≤ c := by omega
        have hin : i ≤ j := by omega
        have HCL := Lib.hid hcl
        clear hcl
        have HHQ := Lib.hid (setRow_heap wr gb cur (splice cur.toList (i * 6) (Builtin.zeroCells (.agg #[.int .u64 0, .int .u64 0, .int .u64 0, .int .i64 0, .int .i64 0, .string ⟨#[]⟩] : Value).cells (j - i)).toList).toArray 42 (0, 0) HG.out)
        have HHB : Hid (Below w0.heap.size w0 (wr.setRow gb (splice cur.toList (i * 6) (Builtin.zeroCells (.agg #[.int .u64 0, .int .u64 0, .int .u64 0, .int .i64 0, .int .i64 0, .string ⟨#[]⟩] : Value).cells (j - i)).toList).toArray)) := Lib.hid (below_setRow HB.out (by have := HBS.out; have := HBG.out; omega) _)
        have hsp : (splice cur.toList (i * 6) (Builtin.zeroCells (.agg #[.int .u64 0, .int .u64 0, .int .u64 0, .int .i64 0, .int .i64 0, .string ⟨#[]⟩] : Value).cells (j - i)).toList).toArray.size = cur.size ∧ (splice cur.toList (i * 6) (Builtin.zeroCells (.agg #[.int .u64 0, .int .u64 0, .int .u64 0, .int .i64 0, .int .i64 0, .string ⟨#[]⟩] : Value).cells (j - i)).toList).toArray.toList.take (i * 6) = cur.toList.take (i * 6) := by
          have hzl : (Builtin.zeroCells (.agg #[.int .u64 0, .int .u64 0, .int .u64 0, .int .i64 0, .int .i64 0, .string ⟨#[]⟩] : Value).cells (j - i)).toList.length = (j - i) * 6 := by rw [Array.length_toList, size_zeroCells]; rfl
          have hle : i * 6 + (j - i) * 6 ≤ cur.size := by
            exact hfit
          refine ⟨by rw [List.size_toArray, length_splice _ _ _ (by rw [hzl, Array.length_toList]; exact hle), Array.length_toList], ?_⟩
          rw [List.toList_toArray]
          unfold splice
          have hll : (cur.toList.take (i * 6)).length = i * 6 := by rw [List.length_take, Array.length_toList]; omega
          rw [List.take_append_of_le_length (by rw [hll]; exact Nat.le_refl _), List.take_of_length_le (by rw [hll]; exact Nat.le_refl _)]
        have HSP := Lib.hid hsp
        clear hsp
        generalize (splice cur.toList (i * 6) (Builtin.zeroCells (.agg #[.int .u64 0, .int .u64 0, .int .u64 0, .int .i64 0, .int .i64 0, .string ⟨#[]⟩] : Value).cells (j - i)).toList).toArray = CR at *
        have hcl' := HCL.out
        have hji : ((j : Int) - (i : Int)).toNat = j - i := by omega
        go_wp2
        go_ret
        have hfl : (l.filter fun x => !p x).length = i := by rw [HFL.out]; exact HI.out.2.2.2.symm
        rw [hfl]
        refine ⟨_, _, rfl, rowb_Tok HBG.out HHQ.out (by omega) HCM.out (by rw [HSP.out.1]; exact hszc.symm) hfl ?_, HHB.out⟩
        rw [HFL.out, ← HI.out.2.1]
        first | exact HSP.out.2 | (rw [Nat.mul_one]; exact HSP.out.2)
set_option maxRecDepth 100000 in
theorem without_Tok (A : Option Addr) (n c g : Nat) (lb : Array Value) (l : List ETok) (p : ETok → Bool) (w : World) (S : Nat → Prop) (eg : ∀ args w, (callFunc g args).run Tryz.prog w = .ok (.enter g args) w) (hl : l.length = n) (hby : n * 56 ≤ 140737488355328) (hr : Row w S 6 n (.slice A n c) (l.flatMap encTok))
    (hp : ∀ W, Below w.heap.size w W → ∀ x ∈ l, Calls Tryz.prog g (#[.agg #[.int .u64 x.key, .int .u64 x.inst, .int .u64 x.scope, .int .i64 x.node, .int .i64 x.flow, .string x.stuck]] ++ lb) W fun e w' => e = .returned (.bool (p x)) ∧ Below W.heap.size W w') :
    Calls Tryz.prog 145 #[.slice A n c, .func (.func g) #[] lb] w fun e w' => ∃ A' c', e = .returned (.slice A' (l.filter fun x => !p x).length c') ∧ w'.ownsRow w.heap.size 42 6 (.slice A' (l.filter fun x => !p x).length c') (l.filter fun x => !p x).length ((l.filter fun x => !p x).flatMap encTok) ∧ Below w.heap.size w w' := by
  have HC := Lib.hid (clone_Tok A n c l w S hl hby hr)
  have HP := Lib.hid hp
  have HL := Lib.hid hl
  have EG := Lib.hid eg
  clear hp hr hl eg
  go_enter Tryz.func145, Tryz.ntmps145
  go_wp2_with (go_at_call 24; refine HC.out.mono ?_; rintro e w1 ⟨A1, c1, rfl, hown, hb⟩; have HO1 := Lib.hid hown; have HB1 := Lib.hid hb; clear hown hb)
  refine (del_Tok w.heap.size _ n g lb l p w w1 EG.out HL.out HO1.out (Nat.le_refl _) HB1.out HP.out).mono ?_
  rintro e w2 ⟨A2, c2, rfl, hown, hb⟩
  have HO2 := Lib.hid hown
  have HB2 := Lib.hid hb
  clear hown hb
  go_wp2_with fail
  go_ret
  exact ⟨A2, c2, rfl, HO2.out, HB2.out⟩
end Go.Proofs.YtgpkmellpllmgaaGreat
/-
  fold.change of Token. Printed by gfold.py.
-/
set_option linter.unusedVariables false
set_option linter.unusedSimpArgs false
namespace Go.Proofs.YtgpkmellpllmgaaGreat
open Go Go.RowKit Go.Proofs.Base
open Go.Sort (grow)
end Go.Proofs.YtgpkmellpllmgaaGreat
/-
  slices.DeleteFunc, fold.without of Listed. Printed by gfold.py.
-/
set_option linter.unusedVariables false
set_option linter.unusedSimpArgs false
namespace Go.Proofs.YtgpkmellpllmgaaGreat
open Go Go.RowKit Go.Proofs.Base
open Go.Sort (grow)
end Go.Proofs.YtgpkmellpllmgaaGreat
/-
  fold.change of Listed. Printed by gfold.py.
-/
set_option linter.unusedVariables false
set_option linter.unusedSimpArgs false
namespace Go.Proofs.YtgpkmellpllmgaaGreat
open Go Go.RowKit Go.Proofs.Base
open Go.Sort (grow)
end Go.Proofs.YtgpkmellpllmgaaGreat
/-
  slices.DeleteFunc, fold.without of Message. Printed by gfold.py.
-/
set_option linter.unusedVariables false
set_option linter.unusedSimpArgs false
namespace Go.Proofs.YtgpkmellpllmgaaGreat
open Go Go.RowKit Go.Proofs.Base
open Go.Sort (grow)
end Go.Proofs.YtgpkmellpllmgaaGreat
/-
  fold.change of Message. Printed by gfold.py.
-/
set_option linter.unusedVariables false
set_option linter.unusedSimpArgs false
namespace Go.Proofs.YtgpkmellpllmgaaGreat
open Go Go.RowKit Go.Proofs.Base
open Go.Sort (grow)
end Go.Proofs.YtgpkmellpllmgaaGreat
/-
  The events that change one element. Printed by gfold2.py.
-/
set_option linter.unusedVariables false
set_option linter.unusedSimpArgs false
namespace Go.Proofs.YtgpkmellpllmgaaGreat
open Go Go.RowKit Go.Proofs.Base
open Go.Sort (grow)
end Go.Proofs.YtgpkmellpllmgaaGreat
