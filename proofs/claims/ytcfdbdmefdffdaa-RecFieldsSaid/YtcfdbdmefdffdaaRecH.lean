/-
  RecFields: the walk of the whole, and the statement. Printed by genh.py.
-/
import Derived.Test.YtcfdbdmefdffdaaOpen
import Derived.Test.YtcfdbdmefdffdaaRecG
import Derived.Test.YtcfdbdmefdffdaaRecF0
import Derived.Test.YtcfdbdmefdffdaaRecF1
import Derived.Test.YtcfdbdmefdffdaaRecF2
import Derived.Test.YtcfdbdmefdffdaaRecF3
import Derived.Test.YtcfdbdmefdffdaaRecF4
import Derived.Test.YtcfdbdmefdffdaaRecF5
import Derived.Test.YtcfdbdmefdffdaaRecF6
import Derived.Test.YtcfdbdmefdffdaaRecF7
import Derived.Test.YtcfdbdmefdffdaaRecF8
import Derived.Test.YtcfdbdmefdffdaaRecF9
import Derived.WalkKit
import Derived.ProofKit
import Derived.OpenShut
import Derived.ShutString
import Derived.ChangeOld
import Derived.ChangeSame
import Derived.Below
set_option linter.unusedVariables false
set_option linter.unusedSimpArgs false
namespace Go.Proofs.Ytcfdbdmefdffdaa
open Go Go.RowKit Go.Proofs.Base

theorem recB_other {r r' : GRec} (h : recText r' ≠ recText r) : ∃ p q, recB r' = (p, q) ∧ ((q != 0) = true ∨ (q = 0 ∧ (p.toList == (recText r).toList) = false)) := by
  unfold recB
  split
  · refine ⟨_, _, rfl, .inr ⟨rfl, ?_⟩⟩
    rw [beq_eq_false_iff_ne]
    intro he
    rw [toList_toL, toList_toL] at he
    exact h (toL_inj he)
  · exact ⟨_, _, rfl, .inl rfl⟩

theorem law_RecFields (r : GRec) (vv : Value) (S : Nat → Prop) (i d : Int) (w : World) (hrow : Row w S 4 r.vars.length vv (varCells r.vars)) (hw : r.wf) :
    Calls Try.prog 3 #[.agg #[.int .i64 r.cls, .int .i64 r.kind, .int .u64 r.frm, .int .i64 r.time, .int .u64 r.key, .int .u64 r.key2, .int .u64 r.key3, .int .i64 r.n, .int .i64 r.m, .string r.a, .string r.b, .string r.c, vv], .int .i64 i, .int .i64 d] w fun e w' => e = .returned (.bool true) ∧ Below w.heap.size w w' := by
  cases hm : recMay r with
  | false => exact recFields_9a r vv S i d w hrow hw hm
  | true =>
    by_cases hd : Int.tmod d 100 = 0
    · exact recFields_9b r vv S i d w hrow hw hm hd
    · obtain ⟨t1, t2⟩ := tmod_small (d := d)
      have hmay : recMayP r := of_decide_eq_true hm
      have hsize : r.a.size ≤ 8192 ∧ r.b.size ≤ 8192 ∧ r.c.size ≤ 32 := by
        obtain ⟨_, _, _, _, _, _, _, pa, pb, pc, _⟩ := hmay
        have ha : aMost r.cls r.kind ≤ 8192 := by unfold aMost; split <;> decide
        have hb : bMost r.cls r.kind ≤ 8192 := by unfold bMost; split <;> decide
        omega
      have hw' := hw
      obtain ⟨h1, h2, h3, h4, h5, h6, h7, h8, h9, h10, h11, h12, h13⟩ := hw'
      have hs : ∀ {s : ByteArray}, s.size ≤ 8192 → okS (s ++ ⟨#[120]⟩) := fun {s} h => by
        show (s ++ ⟨#[120]⟩ : ByteArray).size ≤ 140737488351232
        rw [app_size, x_size]
        omega
      by_cases e0 : i = 0
      · have ho := add_other h5 hd t1 t2
        obtain ⟨p, q, hp, hq⟩ := recB_other (fun he => ho.2 (rec_key h5 ho.1 he))
        exact recFields_0 r vv S i d p q w hrow hw hm hd (beq_t e0) ⟨h1, h2, h3, h4, ho.1, h6, h7, h8, h9, h10, h11, h12, h13⟩ hp hq
      by_cases e1 : i = 1
      · have ho := add_other h6 hd t1 t2
        obtain ⟨p, q, hp, hq⟩ := recB_other (fun he => ho.2 (rec_key2 h6 ho.1 he))
        exact recFields_1 r vv S i d p q w hrow hw hm hd ⟨beq_f e0, beq_t e1⟩ ⟨h1, h2, h3, h4, h5, ho.1, h7, h8, h9, h10, h11, h12, h13⟩ hp hq
      by_cases e2 : i = 2
      · have ho := add_other h7 hd t1 t2
        obtain ⟨p, q, hp, hq⟩ := recB_other (fun he => ho.2 (rec_key3 h7 ho.1 he))
        exact recFields_2 r vv S i d p q w hrow hw hm hd ⟨beq_f e0, beq_f e1, beq_t e2⟩ ⟨h1, h2, h3, h4, h5, h6, ho.1, h8, h9, h10, h11, h12, h13⟩ hp hq
      by_cases e3 : i = 3
      · have ho := xor_other h8 hd t1 t2
        obtain ⟨p, q, hp, hq⟩ := recB_other (fun he => ho (rec_n he))
        exact recFields_3 r vv S i d p q w hrow hw hm hd ⟨beq_f e0, beq_f e1, beq_f e2, beq_t e3⟩ ⟨h1, h2, h3, h4, h5, h6, h7, bits_i64 _ _, h9, h10, h11, h12, h13⟩ hp hq
      by_cases e4 : i = 4
      · have ho := xor_other h9 hd t1 t2
        obtain ⟨p, q, hp, hq⟩ := recB_other (fun he => ho (rec_m he))
        exact recFields_4 r vv S i d p q w hrow hw hm hd ⟨beq_f e0, beq_f e1, beq_f e2, beq_f e3, beq_t e4⟩ ⟨h1, h2, h3, h4, h5, h6, h7, h8, bits_i64 _ _, h10, h11, h12, h13⟩ hp hq
      by_cases e5 : i = 5
      · have ho := xor_other h4 hd t1 t2
        obtain ⟨p, q, hp, hq⟩ := recB_other (fun he => ho (rec_time he))
        exact recFields_5 r vv S i d p q w hrow hw hm hd ⟨beq_f e0, beq_f e1, beq_f e2, beq_f e3, beq_f e4, beq_t e5⟩ ⟨h1, h2, h3, bits_i64 _ _, h5, h6, h7, h8, h9, h10, h11, h12, h13⟩ hp hq
      by_cases e6 : i = 6
      · have ho := app_other (a := r.a)
        obtain ⟨p, q, hp, hq⟩ := recB_other (fun he => ho (rec_a he))
        exact recFields_6 r vv S i d p q w hrow hw hm hd ⟨beq_f e0, beq_f e1, beq_f e2, beq_f e3, beq_f e4, beq_f e5, beq_t e6⟩ ⟨h1, h2, h3, h4, h5, h6, h7, h8, h9, hs hsize.1, h11, h12, h13⟩ hp hq (by rw [x_size]; omega)
      by_cases e7 : i = 7
      · have ho := app_other (a := r.b)
        obtain ⟨p, q, hp, hq⟩ := recB_other (fun he => ho (rec_b he))
        exact recFields_7 r vv S i d p q w hrow hw hm hd ⟨beq_f e0, beq_f e1, beq_f e2, beq_f e3, beq_f e4, beq_f e5, beq_f e6, beq_t e7⟩ ⟨h1, h2, h3, h4, h5, h6, h7, h8, h9, h10, hs hsize.2.1, h12, h13⟩ hp hq (by rw [x_size]; omega)
      have ho := app_other (a := r.c)
      obtain ⟨p, q, hp, hq⟩ := recB_other (fun he => ho (rec_c he))
      exact recFields_8 r vv S i d p q w hrow hw hm hd ⟨beq_f e0, beq_f e1, beq_f e2, beq_f e3, beq_f e4, beq_f e5, beq_f e6, beq_f e7⟩ ⟨h1, h2, h3, h4, h5, h6, h7, h8, h9, h10, h11, hs (by omega), h13⟩ hp hq (by rw [x_size]; omega)
end Go.Proofs.Ytcfdbdmefdffdaa
