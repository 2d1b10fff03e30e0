/-
  The walks of rec.bare and rec.Same. Printed by gensameb.py.
-/
import Derived.Test.YtcfdbdmefdffdaaSame
import Derived.Test.YtcfdbdmefdffdaaEqB
import Derived.Test.YtcfdbdmefdffdaaRecB
set_option linter.unusedVariables false
set_option linter.unusedSimpArgs false
namespace Go.Proofs.Ytcfdbdmefdffdaa
open Go Go.RowKit Go.Proofs.Base
open Go.Sort (grow)

set_option maxRecDepth 100000 in
set_option maxHeartbeats 1000000 in
theorem rec_bare (r : GRec) (vv : Value) (w : World) : Calls Try.prog 22 #[.agg #[.int .i64 r.cls, .int .i64 r.kind, .int .u64 r.frm, .int .i64 r.time, .int .u64 r.key, .int .u64 r.key2, .int .u64 r.key3, .int .i64 r.n, .int .i64 r.m, .string r.a, .string r.b, .string r.c, vv]] w fun e w' => e = .returned (.agg #[.int .i64 r.cls, .int .i64 r.kind, .int .i64 r.time, .int .i64 r.n, .int .i64 r.m, .int .u64 r.frm, .int .u64 r.key, .int .u64 r.key2, .int .u64 r.key3, .string r.a, .string r.b, .string r.c]) ∧ Below w.heap.size w w' := by
  go_enter Try.func22, Try.ntmps22
  go_wp2_with fail
  refine bodyPost_ret (v := .agg #[.int .i64 r.cls, .int .i64 r.kind, .int .i64 r.time, .int .i64 r.n, .int .i64 r.m, .int .u64 r.frm, .int .u64 r.key, .int .u64 r.key2, .int .u64 r.key3, .string r.a, .string r.b, .string r.c]) (by simp [results, Try.results22, go_sem]) rfl ⟨rfl, ?_⟩
  exact ((Below.refl _ _).alloc (Nat.le_refl _) _).alloc (by simp) _

set_option maxRecDepth 100000 in
set_option maxHeartbeats 4000000 in
theorem rec_Same (r s : GRec) (vv uu : Value) (S : Nat → Prop) (t : Bool) (w : World) (h1 : Row w S 4 r.vars.length vv (varCells r.vars)) (h2 : Row w S 4 s.vars.length uu (varCells s.vars)) (ht : t = true ↔ r = s) :
    Calls Try.prog 13 #[.agg #[.int .i64 r.cls, .int .i64 r.kind, .int .u64 r.frm, .int .i64 r.time, .int .u64 r.key, .int .u64 r.key2, .int .u64 r.key3, .int .i64 r.n, .int .i64 r.m, .string r.a, .string r.b, .string r.c, vv], .agg #[.int .i64 s.cls, .int .i64 s.kind, .int .u64 s.frm, .int .i64 s.time, .int .u64 s.key, .int .u64 s.key2, .int .u64 s.key3, .int .i64 s.n, .int .i64 s.m, .string s.a, .string s.b, .string s.c, uu]] w fun e w' => e = .returned (.bool t) ∧ Below w.heap.size w w' := by
  obtain ⟨A1, c1, rfl, _, _⟩ := h1.open_
  obtain ⟨A2, c2, rfl, _, _⟩ := h2.open_
  obtain ⟨W, hW⟩ : ∃ W, W = (w.alloc (.cells #[.int .i64 r.cls, .int .i64 r.kind, .int .u64 r.frm, .int .i64 r.time, .int .u64 r.key, .int .u64 r.key2, .int .u64 r.key3, .int .i64 r.n, .int .i64 r.m, .string r.a, .string r.b, .string r.c, .slice A1 r.vars.length c1] 25)).alloc (.cells #[.int .i64 s.cls, .int .i64 s.kind, .int .u64 s.frm, .int .i64 s.time, .int .u64 s.key, .int .u64 s.key2, .int .u64 s.key3, .int .i64 s.n, .int .i64 s.m, .string s.a, .string s.b, .string s.c, .slice A2 s.vars.length c2] 25) := ⟨_, rfl⟩
  have hb : Below w.heap.size w W := by rw [hW]; exact ((Below.refl _ _).alloc (Nat.le_refl _) _).alloc (by simp) _
  have b1 : W.heap[w.heap.size]? = some (.cells #[.int .i64 r.cls, .int .i64 r.kind, .int .u64 r.frm, .int .i64 r.time, .int .u64 r.key, .int .u64 r.key2, .int .u64 r.key3, .int .i64 r.n, .int .i64 r.m, .string r.a, .string r.b, .string r.c, .slice A1 r.vars.length c1] 25 (0, 0)) := by rw [hW]; exact blk_old _ (blk_new _ _ rfl)
  have b2 : W.heap[w.heap.size + 1]? = some (.cells #[.int .i64 s.cls, .int .i64 s.kind, .int .u64 s.frm, .int .i64 s.time, .int .u64 s.key, .int .u64 s.key2, .int .u64 s.key3, .int .i64 s.n, .int .i64 s.m, .string s.a, .string s.b, .string s.c, .slice A2 s.vars.length c2] 25 (0, 0)) := by rw [hW]; exact blk_new _ _ (by simp)
  have H1 := Lib.hid (h1.below hb)
  have H2 := Lib.hid (h2.below hb)
  have HB := Lib.hid hb
  have HW := Lib.hid hW
  have HB1 := Lib.hid b1
  have HB2 := Lib.hid b2
  have HT := Lib.hid ht
  clear hb b1 b2 hW h1 h2 ht
  go_enter Try.func13, Try.ntmps13
  go_wp2_with fail
  rw [← HW.out]
  have p0 := cell_regrown ((cell_of_blk HB1.out 0).trans (rfl : _ = some (Value.int .i64 r.cls)))
  have p1 := cell_regrown ((cell_of_blk HB1.out 1).trans (rfl : _ = some (Value.int .i64 r.kind)))
  have p2 := cell_regrown ((cell_of_blk HB1.out 2).trans (rfl : _ = some (Value.int .u64 r.frm)))
  have p3 := cell_regrown ((cell_of_blk HB1.out 3).trans (rfl : _ = some (Value.int .i64 r.time)))
  have p4 := cell_regrown ((cell_of_blk HB1.out 4).trans (rfl : _ = some (Value.int .u64 r.key)))
  have p5 := cell_regrown ((cell_of_blk HB1.out 5).trans (rfl : _ = some (Value.int .u64 r.key2)))
  have p6 := cell_regrown ((cell_of_blk HB1.out 6).trans (rfl : _ = some (Value.int .u64 r.key3)))
  have p7 := cell_regrown ((cell_of_blk HB1.out 7).trans (rfl : _ = some (Value.int .i64 r.n)))
  have p8 := cell_regrown ((cell_of_blk HB1.out 8).trans (rfl : _ = some (Value.int .i64 r.m)))
  have p9 := cell_regrown ((cell_of_blk HB1.out 9).trans (rfl : _ = some (Value.string r.a)))
  have p10 := cell_regrown ((cell_of_blk HB1.out 10).trans (rfl : _ = some (Value.string r.b)))
  have p11 := cell_regrown ((cell_of_blk HB1.out 11).trans (rfl : _ = some (Value.string r.c)))
  have p12 := cell_regrown ((cell_of_blk HB1.out 12).trans (rfl : _ = some (Value.slice A1 r.vars.length c1)))
  have q0 := cell_regrown ((cell_of_blk HB2.out 0).trans (rfl : _ = some (Value.int .i64 s.cls)))
  have q1 := cell_regrown ((cell_of_blk HB2.out 1).trans (rfl : _ = some (Value.int .i64 s.kind)))
  have q2 := cell_regrown ((cell_of_blk HB2.out 2).trans (rfl : _ = some (Value.int .u64 s.frm)))
  have q3 := cell_regrown ((cell_of_blk HB2.out 3).trans (rfl : _ = some (Value.int .i64 s.time)))
  have q4 := cell_regrown ((cell_of_blk HB2.out 4).trans (rfl : _ = some (Value.int .u64 s.key)))
  have q5 := cell_regrown ((cell_of_blk HB2.out 5).trans (rfl : _ = some (Value.int .u64 s.key2)))
  have q6 := cell_regrown ((cell_of_blk HB2.out 6).trans (rfl : _ = some (Value.int .u64 s.key3)))
  have q7 := cell_regrown ((cell_of_blk HB2.out 7).trans (rfl : _ = some (Value.int .i64 s.n)))
  have q8 := cell_regrown ((cell_of_blk HB2.out 8).trans (rfl : _ = some (Value.int .i64 s.m)))
  have q9 := cell_regrown ((cell_of_blk HB2.out 9).trans (rfl : _ = some (Value.string s.a)))
  have q10 := cell_regrown ((cell_of_blk HB2.out 10).trans (rfl : _ = some (Value.string s.b)))
  have q11 := cell_regrown ((cell_of_blk HB2.out 11).trans (rfl : _ = some (Value.string s.c)))
  have q12 := cell_regrown ((cell_of_blk HB2.out 12).trans (rfl : _ = some (Value.slice A2 s.vars.length c2)))
  have g := guard_bare
  have cb := fun d os => Calls.regrown_of (rec_bare r (.slice A1 r.vars.length c1) (grow (redrawn W d) os))
  have cs := fun d os => Calls.regrown_of (rec_bare s (.slice A2 s.vars.length c2) (grow (redrawn W d) os))
  by_cases hbs : bareSame r s = true
  · have hcmp := eql_bare r s true hbs
    have hte : t = true ↔ r.vars = s.vars := by rw [HT.out, rec_same]; exact ⟨fun h => h.2, fun h => ⟨hbs, h⟩⟩
    have ce := fun d os => Calls.regrown_of (sl_Equal_Var S r.vars s.vars r.vars.length s.vars.length (.slice A1 r.vars.length c1) (.slice A2 s.vars.length c2) t (grow (redrawn W d) os) rfl rfl (H1.out.below (below_regrown W d os)) (H2.out.below (below_regrown W d os)) hte)
    clear hte hbs HT
    refine wp_region_quiet_below (by kernel_rfl) (by kernel_rfl) ?_
    repeat (first | go_big_quiet_step (first | with_reducible exact cb _ _ | with_reducible exact cs _ _ | with_reducible exact ce _ _) | quiet_step (first | with_reducible exact cb _ _ | with_reducible exact cs _ _ | with_reducible exact ce _ _))
    refine wpQuiet_nil ?_
    intro _ hw'
    obtain ⟨⟨dq, osq⟩, hw''⟩ := hw'
    subst hw''
    have HQ := Lib.hid (below2 HB.out (below_regrown W dq osq))
    clear cb cs ce hcmp
    go_wp2_with fail
    go_ret
    exact ⟨rfl, HQ.out⟩
  · have hbf : bareSame r s = false := by simpa using hbs
    have hcmp := eql_bare r s false hbf
    have htf : t = false := by
      cases t
      · rfl
      · exact absurd (rec_same.1 (HT.out.1 rfl)).1 hbs
    have HTF := Lib.hid htf
    clear htf hbs hbf HT
    refine wp_region_quiet_below (by kernel_rfl) (by kernel_rfl) ?_
    repeat (first | go_big_quiet_step (first | with_reducible exact cb _ _ | with_reducible exact cs _ _) | quiet_step (first | with_reducible exact cb _ _ | with_reducible exact cs _ _))
    refine wpQuiet_nil ?_
    intro _ hw'
    obtain ⟨⟨dq, osq⟩, hw''⟩ := hw'
    subst hw''
    have HQ := Lib.hid (below2 HB.out (below_regrown W dq osq))
    clear cb cs hcmp
    go_wp2_with fail
    go_ret
    exact ⟨by rw [HTF.out]; rfl, HQ.out⟩
end Go.Proofs.Ytcfdbdmefdffdaa
