/-
  The walk of SortedTexts.
-/
import Derived.Test.YtncgcjfpoableaaSrtS
import Derived.Test.YtncgcjfpoableaaSrtIS
import Derived.Test.YtncgcjfpoableaaTail
import Derived.Lib.QuietBelow
set_option linter.unusedVariables false
set_option linter.unusedSimpArgs false
namespace Go.Proofs.Base
open Go Go.RowKit
/-- many texts put -/
def putsT (zs : List (ByteArray × ByteArray)) : List (KV ByteArray) := zs.foldl (fun l p => putK p.1 p.2 l) []
theorem putsT_snoc (zs : List (ByteArray × ByteArray)) (p : ByteArray × ByteArray) : putsT (zs ++ [p]) = putK p.1 p.2 (putsT zs) := by simp [putsT]
/-- what was put last for a key -/
def lastO (k : ByteArray) (zs : List (ByteArray × ByteArray)) : Option ByteArray := zs.foldl (fun o p => if p.1 = k then some p.2 else o) none
theorem lastO_snoc (k : ByteArray) (zs : List (ByteArray × ByteArray)) (p : ByteArray × ByteArray) : lastO k (zs ++ [p]) = if p.1 = k then some p.2 else lastO k zs := by simp [lastO]
theorem mem_put {V : Type} {k : ByteArray} {v : V} {l : List (KV V)} (hr : Rises l) {p : KV V} (hp : p ∈ putK k v l) : p = (k, v) ∨ (p ∈ l ∧ p.1 ≠ k) := by
  unfold putK at hp
  rcases List.mem_append.1 hp with hp | hp
  · refine .inr ⟨List.mem_of_mem_take hp, fun e => ?_⟩
    have := take_less p hp
    rw [e, lessS_irrefl] at this
    cases this
  · rcases List.mem_cons.1 hp with rfl | hp
    · exact .inl rfl
    · refine .inr ⟨List.mem_of_mem_drop hp, fun e => ?_⟩
      have hm := drop_more hr (k := k) (i := if hasK k l = true then idxK k l + 1 else idxK k l) (by split <;> omega) (by
        intro h
        split at h
        · omega
        · rename_i hh; simpa using hh) p hp
      rw [e, lessS_irrefl] at hm
      cases hm
theorem putsT_rises (zs : List (ByteArray × ByteArray)) : Rises (putsT zs) := by
  suffices h : ∀ (l : List (KV ByteArray)), Rises l → Rises (zs.foldl (fun l p => putK p.1 p.2 l) l) from h [] Rises.nil
  induction zs with
  | nil => exact fun l h => h
  | cons p zs ih => exact fun l h => ih _ (putK_rises p.2 h)
theorem putsT_len (zs : List (ByteArray × ByteArray)) : (putsT zs).length ≤ zs.length := by
  suffices h : ∀ (l : List (KV ByteArray)), (zs.foldl (fun l p => putK p.1 p.2 l) l).length ≤ l.length + zs.length by simpa [putsT] using h []
  induction zs with
  | nil => simp
  | cons p zs ih =>
    intro l
    have h1 := ih (putK p.1 p.2 l)
    have h2 := putK_len (k := p.1) (l := l) p.2
    rw [List.foldl_cons, List.length_cons]
    omega
theorem mem_last : ∀ (n : Nat) (zs : List (ByteArray × ByteArray)), zs.length = n → ∀ p ∈ putsT zs, lastO p.1 zs = some p.2 := by
  intro n
  induction n with
  | zero => intro zs h p hp; rw [List.eq_nil_of_length_eq_zero h] at hp; cases hp
  | succ n ih =>
    intro zs h p hp
    obtain ⟨ys, z, rfl⟩ : ∃ ys z, zs = ys ++ [z] := ⟨zs.dropLast, zs.getLast (by intro e; rw [e] at h; cases h), (List.dropLast_concat_getLast _).symm⟩
    rw [putsT_snoc] at hp
    rw [lastO_snoc]
    rcases mem_put (putsT_rises ys) hp with rfl | ⟨h1, h2⟩
    · rw [if_pos rfl]
    · rw [if_neg (fun e => h2 e.symm)]
      exact ih ys (by rw [List.length_append] at h; simpa using h) p h1
theorem putsT_keys {zs : List (ByteArray × ByteArray)} {n : Nat} (h : ∀ p ∈ zs, p.1.size ≤ n) : ∀ p ∈ putsT zs, p.1.size ≤ n := by
  suffices hh : ∀ (l : List (KV ByteArray)), (∀ p ∈ l, p.1.size ≤ n) → ∀ p ∈ zs.foldl (fun l p => putK p.1 p.2 l) l, p.1.size ≤ n from hh [] (fun _ h => by cases h)
  induction zs with
  | nil => exact fun l h => h
  | cons z zs ih =>
    intro l hl
    refine ih (fun p hp => h p (List.mem_cons_of_mem _ hp)) _ (fun p hp => ?_)
    unfold putK at hp
    rcases List.mem_append.1 hp with hp | hp
    · exact hl p (List.mem_of_mem_take hp)
    · rcases List.mem_cons.1 hp with rfl | hp
      · exact h _ (by simp)
      · exact hl p (List.mem_of_mem_drop hp)
/-- the last key that has come -/
def lastKey (pre : List (KV ByteArray)) : ByteArray := match pre.getLast? with | some p => p.1 | none => ⟨#[]⟩
theorem lastKey_snoc (pre : List (KV ByteArray)) (x : KV ByteArray) : lastKey (pre ++ [x]) = x.1 := by simp [lastKey]
theorem lastKey_less {pre L : List (KV ByteArray)} {x : KV ByteArray} (hr : Rises L) (h : pre ++ [x] <+: L) (hp : pre ≠ []) : lessS (lastKey pre) x.1 = true := by
  have hr2 : Rises (pre ++ [x]) := hr.sublist h.sublist
  obtain ⟨ys, y, rfl⟩ : ∃ ys y, pre = ys ++ [y] := ⟨pre.dropLast, pre.getLast hp, (List.dropLast_concat_getLast _).symm⟩
  rw [lastKey_snoc]
  have := List.pairwise_append.1 hr2
  exact this.2.2 y (by simp) x (by simp)
end Go.Proofs.Base
namespace Go.Proofs.Ytncgcjfpoableaa
open Go Go.RowKit Go.Shelf Go.Proofs.Base
open Go.Proofs.Ytncgcjfpoableaa.srtS
open Go.Sort (grow)
attribute [local go_sem] Oper.semAt_some
theorem Texts.mut {T : Nat → Prop} {w w' : World} {v : Value} {l : List ByteArray} (h : Texts w v l) (hb : Below w.heap.size w w') : Texts w' v l := h.below hb
theorem mapP_own {β : Type} (B : Nat → Prop) (b : Nat) (l : List (KV ByteArray)) (n : Nat) : OwnFrom n (fun (_ : β) U => MapP U B b l) := by
  rintro s W W' row ⟨hB, hlt, A, c, h1, h2, h3⟩ hg hr
  have key : ∀ (g : Nat) (o : Obj), W.heap[g]? = some o → o.isCells = true → W'.heap[g]? = W.heap[g]? := fun g o hgo hoc => hg.block g (lt_of_blk hgo) (fun e => by
    obtain ⟨_, o2, h4, h5⟩ := hr g e.symm
    rw [hgo] at h4
    injection h4 with h4
    subst h4
    rw [hoc] at h5
    cases h5)
  refine ⟨hB, fun x hx => Nat.lt_of_lt_of_le (hlt x hx) hg.size, A, c, (key b _ h1 rfl).trans h1, ⟨h2.1, ?_⟩, h3⟩
  obtain ⟨A', c', hv, k1, k2, k3, k4, k5⟩ := h2.2
  refine ⟨A', c', hv, k1, k2, k3, k4, fun hn => ?_⟩
  obtain ⟨g, o, hA, hS, hgl, hc⟩ := k5 hn
  refine ⟨g, o, hA, hS, Nat.lt_of_lt_of_le hgl hg.size, fun j u hu => ?_⟩
  have hcc := hc j u hu
  obtain ⟨o2, ho2, hoc⟩ := cells_of_cell hcc
  exact (World.cell?_of_block (w := W) (a := ⟨g, o + j, none⟩) (key g o2 ho2 hoc)).trans hcc
theorem text_end {U U1 : World} {B8 B9 : Nat} {v8 v9 : Value} (y8 y9 : Value) (hbu : Below U.heap.size U U1) (h8 : Boxed U B8 9 v8) (h9 : Boxed U B9 3 v9) (hne : B8 ≠ B9) :
    Mut (fun b => b = B8 ∨ b = B9) U ((U1.setCell ⟨B8, 0, none⟩ y8).setCell ⟨B9, 0, none⟩ y9) ∧ Boxed ((U1.setCell ⟨B8, 0, none⟩ y8).setCell ⟨B9, 0, none⟩ y9) B8 9 y8 ∧ Boxed ((U1.setCell ⟨B8, 0, none⟩ y8).setCell ⟨B9, 0, none⟩ y9) B9 3 y9 := by
  have k8 : Boxed U1 B8 9 v8 := block_below hbu h8
  have k9 : Boxed U1 B9 3 v9 := block_below hbu h9
  exact ⟨((Mut.of_below hbu (fun b => b = B8 ∨ b = B9)).setCell (p := ⟨B8, 0, none⟩) (fun _ => .inl rfl) _).setCell (p := ⟨B9, 0, none⟩) (fun _ => .inr rfl) _, (k8.set y8).other hne _, (k9.other (fun e => hne e.symm) y8).set y9⟩
theorem keepC_mut {n₀ : Nat} {T T' : Nat → Prop} {U U' : World} (hm : Mut T' U U') (hT : ∀ b, T' b → T b ∧ ∃ c t, U.heap[b]? = some (.cells c t (0, 0)) ∧ t ≠ 65 ∧ t ≠ 61 ∧ t ≠ 31) : KeepC n₀ T U U' ∧ KeepsOthers U U' := by
  refine ⟨⟨hm.size, fun b c t f hb ht => hm.blk hb (fun h => ?_), fun b o _ ho hc => hm.blk ho (fun h => ?_)⟩, ⟨hm.size, fun b o ho hc => hm.blk ho (fun h => ?_)⟩⟩
  · obtain ⟨h1, c', t', h2, h3, h4, h5⟩ := hT b h
    rw [hb] at h2
    injection h2 with h2
    injection h2 with _ h2
    subst h2
    rcases ht with ht | ht | ht | ht
    · exact ht.2 h1
    · exact h3 ht
    · exact h4 ht
    · exact h5 ht
  all_goals
    obtain ⟨h1, c', t', h2, _⟩ := hT b h
    rw [ho] at h2
    injection h2 with h2
    subst h2
    cases hc
theorem lastKey_size {pre L : List (KV ByteArray)} {n : Nat} (h : pre <+: L) (hL : ∀ p ∈ L, p.1.size ≤ n) : (lastKey pre).size ≤ n := by
  unfold lastKey
  split
  · rename_i p hp
    exact hL p (h.subset (List.mem_of_getLast? hp))
  · exact Nat.zero_le _
theorem new_mapS (w : World) (B : Nat → Prop) (hB : B w.heap.size) (hlt : ∀ x, B x → x < w.heap.size + 1) : MapP (w.alloc (.cells #[.slice none 0 0] 63)) B w.heap.size [] :=
  ⟨hB, fun x hx => by rw [World.size_alloc]; exact hlt x hx, none, 0, heap_alloc_new w _, ⟨rfl, Row.nil _ _ _⟩, Rises.nil⟩
set_option maxRecDepth 100000 in
set_option maxHeartbeats 8000000 in
theorem law_Texts (va vb : Value) (ks vs : List ByteArray) (w : World) (hk : Texts w va ks) (hv : Texts w vb vs) :
    Calls Try.prog 3 #[va, vb] w fun e w' => e = .returned (.bool true) ∧ Below w.heap.size w w' := by
  obtain ⟨A, c, rfl, hnc, hcm⟩ := hk.open_
  obtain ⟨A', c', rfl, hnc', hcm'⟩ := hv.open_
  have HK := Lib.hid hk
  have HV := Lib.hid hv
  have hkl := hk.2.2
  have hvl := hv.2.2
  have hzl : (ks.zip vs).length = min ks.length vs.length := List.length_zip
  obtain ⟨zn, hzn⟩ : ∃ zn, zn = (ks.zip vs).length := ⟨_, rfl⟩
  have hznk : zn ≤ ks.length ∧ zn ≤ vs.length := by omega
  have HZN := Lib.hid hzn
  have HZL := Lib.hid hzl
  clear hk hv hzl hzn
  obtain ⟨X, hXd⟩ : ∃ X, X = ((w.alloc (.cells #[.slice A ks.length c] 22)).alloc (.cells #[.slice A' vs.length c'] 22)).alloc (.cells #[.bool false] 4) := ⟨_, rfl⟩
  have x0 : X.heap[w.heap.size]? = some (.cells #[.slice A ks.length c] 22 (0, 0)) := by rw [hXd]; exact ((Boxed.new w _ _).alloc _).alloc _
  have x1 : X.heap[w.heap.size + 1]? = some (.cells #[.slice A' vs.length c'] 22 (0, 0)) := by
    have h := (Boxed.new (w.alloc (.cells #[.slice A ks.length c] 22)) 22 (.slice A' vs.length c')).alloc (.cells #[.bool false] 4)
    rw [World.size_alloc] at h
    rw [hXd]; exact h
  have x2 : X.heap[w.heap.size + 1 + 1]? = some (.cells #[.bool false] 4 (0, 0)) := by
    have h := Boxed.new ((w.alloc (.cells #[.slice A ks.length c] 22)).alloc (.cells #[.slice A' vs.length c'] 22)) 4 (.bool false)
    rw [World.size_alloc, World.size_alloc] at h
    rw [hXd]; exact h
  have hwX : Below w.heap.size w X := by rw [hXd]; exact below_alloc (below_alloc (below_alloc (Below.refl _ _) _) _) _
  have HXd := Lib.hid hXd
  have X0 := Lib.hid x0
  have X1 := Lib.hid x1
  have X2 := Lib.hid x2
  have HWX := Lib.hid hwX
  clear hXd x0 x1 x2 hwX
  have hsh := shown_true X
  refine (callsIn_wide (n := 0)).1 (callsIn_of_wp_marks Try.func3 rfl trivial ?_ rfl)
  simp only [Try.ntmps3, List.size_toArray, List.length_cons, List.length_nil, Nat.reduceAdd, Nat.reduceSub, Array.replicate_succ, Array.replicate_zero, List.push_toArray, List.append_toArray, List.nil_append, List.cons_append]
  refine wpIn_wide.2 ?_
  go_wp2_with fail
  rw [show ((w.alloc (.cells #[.slice A ks.length c] 22)).alloc (.cells #[.slice A' vs.length c'] 22)).alloc (.cells #[.bool false] 4) = X from HXd.out.symm]
  go_wp2_with (first
    | (go_at_call 10; refine hsh.mono ?_; rintro e w1 ⟨rfl, hb1⟩; have HB1 := Lib.hid hb1; clear hb1)
    | (go_at_call 11; refine (new_any _).mono ?_; rintro e w2 ⟨rfl, rfl⟩))
  obtain ⟨N, hNd⟩ : ∃ N, N = w1.alloc (.cells #[.slice none 0 0] 63) := ⟨_, rfl⟩
  have hX3 : X.heap.size = w.heap.size + 1 + 1 + 1 := by rw [HXd.out]; simp
  have hb1s : X.heap.size ≤ w1.heap.size := HB1.out.size
  have hM0 : MapP N (fun x => x = w1.heap.size ∨ x = w.heap.size + 1 + 1) w1.heap.size [] := by rw [hNd]; exact new_mapS w1 _ (.inl rfl) (fun x h => by omega)
  have hXN : Below X.heap.size X N := by rw [hNd]; exact below_alloc HB1.out _
  have HM0 := Lib.hid hM0
  have N0 := Lib.hid (block_below hXN X0.out)
  have N1 := Lib.hid (block_below hXN X1.out)
  have N2 := Lib.hid (block_below hXN X2.out)
  have HWN := Lib.hid (below2 HWX.out hXN)
  have HNS : Hid (N.heap.size = w1.heap.size + 1) := Lib.hid (by rw [hNd]; simp)
  have hws : w.heap.size + 1 + 1 < w1.heap.size := by omega
  have HX3 := Lib.hid hX3
  rw [← hNd]
  clear hNd hM0 hXN hX3 hsh
  go_loopw [7] (fun i wr => ∃ j : Nat, j ≤ zn ∧ i = .int .i64 j ∧ Hid (MapP wr (fun x => x = w1.heap.size ∨ x = w.heap.size + 1 + 1) w1.heap.size (putsT ((ks.zip vs).take j)) ∧ Mut (fun x => x = w1.heap.size) N wr)) (fun i _ => zn - (intOf i).toNat)
  case atStart => exact ⟨0, Nat.zero_le _, rfl, Lib.hid ⟨HM0.out, Mut.refl _ _⟩⟩
  case round =>
    obtain ⟨j, hj, rfl, HI⟩ := hrel
    have r0 := HI.out.2.blk N0.out (by omega)
    have r1 := HI.out.2.blk N1.out (by omega)
    have r2 := HI.out.2.blk N2.out (by omega)
    have HR0 := Lib.hid r0
    have HR1 := Lib.hid r1
    have HR2 := Lib.hid r2
    have HWR := Lib.hid (srtI.below_of_mut HWN.out HI.out.2 (fun b h => by omega))
    have c0 := cell_of_blk r0 0
    have c1 := cell_of_blk r1 0
    clear r0 r1 r2
    by_cases hlt : j < zn
    · have hjk : j < ks.length := by omega
      have hjv : j < vs.length := by omega
      obtain ⟨b, o, rfl, _, k0⟩ := (HK.out.below HWR.out).at_ hjk
      obtain ⟨b', o', rfl, _, k1⟩ := (HV.out.below HWR.out).at_ hjv
      have hjz : j < (ks.zip vs).length := by rw [← HZN.out]; exact hlt
      have HT : Hid (putsT ((ks.zip vs).take (j + 1)) = putK ks[j] vs[j] (putsT ((ks.zip vs).take j))) := Lib.hid (by rw [List.take_succ_eq_append_getElem hjz, putsT_snoc, List.getElem_zip])
      have hll : (putsT ((ks.zip vs).take j)).length ≤ j := Nat.le_trans (putsT_len _) (List.length_take_le _ _)
      generalize putsT ((ks.zip vs).take j) = l at *
      have HP := Lib.hid (fun W (h : MapP W (fun x => x = w1.heap.size ∨ x = w.heap.size + 1 + 1) w1.heap.size l) => put_any _ _ ks[j] vs[j] l W h (by omega))
      generalize ks[j] = x at *
      generalize vs[j] = y at *
      go_wp2_with fail
      have y0 := cell_regrown c0
      have y1 := cell_regrown c1
      have y2 := cell_regrown k0
      have y3 := cell_regrown k1
      refine wp_region_quiet_tail [_, _, _, _, _, _, _, _, _] _ (by kernel_rfl) (by kernel_rfl) (by kernel_rfl) (by kernel_rfl) (by kernel_rfl) (by kernel_rfl) ?_
      repeat (first | go_big_quiet_step (fail) | quiet_step (fail))
      refine wpQuiet_nil ?_
      intro _ hw'
      obtain ⟨⟨dq, osq⟩, hw''⟩ := hw'
      subst hw''
      have hbq := below_regrown wr dq osq
      have HMq := Lib.hid (HI.out.1.below hbq)
      have HUq := Lib.hid (mut_below HI.out.2 hbq)
      clear y0 y1 y2 y3 c0 c1 k0 k1 hbq
      generalize grow (redrawn wr dq) osq = G at *
      go_wp2_with (go_at_call 12; refine (HP.out _ HMq.out).mono ?_; rintro e w4 ⟨rfl, hM4, hm4⟩; have HM4 := Lib.hid hM4; have Hm4 := Lib.hid (HUq.out.trans hm4 (fun _ _ h => h)); clear hM4 hm4)
      go_roundw
      case rel => exact ⟨j + 1, by omega, by go_num, Lib.hid ⟨by rw [HT.out]; exact HM4.out, Hm4.out⟩⟩
      case measure => simp [intOf]; omega
    · obtain rfl : j = zn := by omega
      have hzm : j = ks.length ∨ (j < ks.length ∧ j = vs.length) := by have := HZN.out; have := HZL.out; omega
      have HTK : Hid ((ks.zip vs).take j = ks.zip vs) := Lib.hid (by rw [HZN.out, List.take_length])
      have hLs := putsT_rises (ks.zip vs)
      have hLl : (putsT (ks.zip vs)).length ≤ j := by rw [HZN.out]; exact putsT_len _
      have hLm := mem_last _ (ks.zip vs) rfl
      have hLk : ∀ p ∈ putsT (ks.zip vs), p.1.size ≤ 140737488351232 := putsT_keys (fun p hp => HK.out.2.1 _ (List.of_mem_zip hp).1)
      have hMM := HI.out.1
      rw [HTK.out] at hMM
      have HMU := Lib.hid HI.out.2
      generalize putsT (ks.zip vs) = L at *
      have HMM := Lib.hid hMM
      have HLS := Lib.hid hLs
      have HLM := Lib.hid hLm
      have HLK := Lib.hid hLk
      clear HI hMM hLs hLm hLk
      have hba : Below wr.heap.size wr ((wr.alloc (.cells #[.string ⟨#[]⟩] 9)).alloc (.cells #[.int .i64 0] 3)) := below_alloc (below_alloc (Below.refl _ _) _) _
      have hb8 : Boxed ((wr.alloc (.cells #[.string ⟨#[]⟩] 9)).alloc (.cells #[.int .i64 0] 3)) wr.heap.size 9 (.string ⟨#[]⟩) := (Boxed.new wr _ _).alloc _
      have hb9 : Boxed ((wr.alloc (.cells #[.string ⟨#[]⟩] 9)).alloc (.cells #[.int .i64 0] 3)) (wr.heap.size + 1) 3 (.int .i64 0) := by
        have h := Boxed.new (wr.alloc (.cells #[.string ⟨#[]⟩] 9)) 3 (.int .i64 0)
        rwa [World.size_alloc] at h
      have hbs : ((wr.alloc (.cells #[.string ⟨#[]⟩] 9)).alloc (.cells #[.int .i64 0] 3)).heap.size = wr.heap.size + 1 + 1 := by simp
      generalize hYd : (wr.alloc (.cells #[.string ⟨#[]⟩] 9)).alloc (.cells #[.int .i64 0] 3) = Y at *
      have HYD := Lib.hid hYd
      have hal := all_any (some ⟨w1.heap.size, 0, none⟩) Y
      obtain ⟨V, hVd⟩ : ∃ V, V = Y.alloc (.cells #[.func (.func 33) #[.pointer (some ⟨w1.heap.size, 0, none⟩)] #[]] 67) := ⟨_, rfl⟩
      rw [← hVd] at hal
      have hvb : Below Y.heap.size Y V := by rw [hVd]; exact below_alloc (Below.refl _ _) _
      have hvf : V.heap[Y.heap.size]? = some (.cells #[.func (.func 33) #[.pointer (some ⟨w1.heap.size, 0, none⟩)] #[]] 67 (0, 0)) := by rw [hVd]; exact heap_alloc_new Y _
      have hvs : V.heap.size = Y.heap.size + 1 := by rw [hVd]; simp
      have hMV : MapP V (fun x => x = w1.heap.size ∨ x = w.heap.size + 1 + 1 ∨ x = wr.heap.size ∨ x = wr.heap.size + 1) w1.heap.size L := HMM.out.more (below2 hba hvb) (.inl rfl) (fun x h => by have := HMM.out.2.1 w1.heap.size (.inl rfl); have := HMM.out.2.1 (w.heap.size + 1 + 1) (.inr rfl); omega) (fun x h => by omega)
      obtain ⟨_, _, Am, cm, hbm, hpm, _⟩ := id hMV
      have hrV := wr.heap.size
      have hTr : LRow V.heap.size (fun x => x = wr.heap.size ∨ x = wr.heap.size + 1 ∨ x = w.heap.size + 1 + 1) V Am L.length cm L := by
        obtain ⟨_, _, Am', cm', hbm', hpm', _⟩ := id HMM.out
        have e1 := block_below (below2 hba hvb) hbm'
        rw [hbm] at e1
        injection e1 with e1
        injection e1 with e1 _ _
        simp at e1
        obtain ⟨rfl, rfl⟩ := e1
        have hh := (hpm'.2.weaken (S' := fun g => ¬ (g = w1.heap.size ∨ g = w.heap.size + 1 + 1) ∧ g < wr.heap.size) (fun b hb h => ⟨h, hb⟩)).below (below2 hba hvb)
        exact ⟨hpm.1, hh.weaken (fun b hb h => ⟨by have := h.2; omega, fun h2 => by have h3 := h.1; have h4 := h.2; rcases h2 with h2 | h2 | h2; all_goals omega⟩)⟩
      have HST := Lib.hid (all_stops (some ⟨w1.heap.size, 0, none⟩) Y.heap.size V.heap.size (V.heap.size + 2) (fun x => x = wr.heap.size ∨ x = wr.heap.size + 1 ∨ x = w.heap.size + 1 + 1) Am L.length cm L V (cell_of_blk hvf 0) (.inr ⟨_, rfl, cell_of_blk hbm 0⟩) hTr)
      have HB8 := Lib.hid (block_below hvb hb8)
      have HB9 := Lib.hid (block_below hvb hb9)
      have HVR0 := Lib.hid (block_below (below2 hba hvb) HR0.out)
      have HVR1 := Lib.hid (block_below (below2 hba hvb) HR1.out)
      have HVR2 := Lib.hid (block_below (below2 hba hvb) HR2.out)
      have HWV := Lib.hid (below2 HWR.out (below2 hba hvb))
      have HMV := Lib.hid hMV
      have hr2 := lt_of_blk HR2.out
      have hw1r : w1.heap.size < wr.heap.size := HMM.out.2.1 _ (.inl rfl)
      have HBS := Lib.hid hbs
      have HVS := Lib.hid hvs
      have HV1 : Hid (wr.heap.size + 1 + 1 + 1 = V.heap.size) := Lib.hid (by omega)
      clear hba hb8 hb9 hvb hvf hMV hbm hpm hTr hYd hVd hbs hvs
      rcases hzm with rfl | ⟨hzk, rfl⟩
      · go_wp2_with (go_at_call 13; rw [HYD.out]; refine hal.mono ?_; rintro e V' ⟨rfl, rfl⟩)
        generalize wr.heap.size = rs at *
        refine (wpIn_wide (n := 0)).1 (range_law (P := Try.prog) (gf := 48) (lb := #[.pointer (some ⟨Y.heap.size, 0, none⟩)]) (by first | rfl | simp) (enters_of Try.func48 (by kernel_rfl) rfl)
          HST.out (fun h k => h.trans k) (fun W r o h => KeepC.turn W r o h) (fun _ => rfl)
          (fun pre U => (Boxed U rs 9 (.string (lastKey pre)) ∧ Boxed U (rs + 1) 3 (.int .i64 (pre.length : Nat))) ∧ (Boxed U w.heap.size 22 (.slice A ks.length c) ∧ Boxed U (w.heap.size + 1) 22 (.slice A' vs.length c') ∧ Boxed U (w.heap.size + 1 + 1) 4 (.bool false)) ∧ (Below w.heap.size w U ∧ MapP U (fun x => x = w1.heap.size ∨ x = w.heap.size + 1 + 1 ∨ x = rs ∨ x = rs + 1) w1.heap.size L))
          (fun _ _ _ => False)
          (OwnFrom.and (OwnFrom.and (Own.from (boxed_own rs 9 (fun pre : List (KV ByteArray) => .string (lastKey pre))) _) (Own.from (boxed_own (rs + 1) 3 (fun pre : List (KV ByteArray) => .int .i64 (pre.length : Nat))) _)) (OwnFrom.and (OwnFrom.and (Own.from (boxed_own _ _ _) _) (OwnFrom.and (Own.from (boxed_own _ _ _) _) (Own.from (boxed_own _ _ _) _))) (OwnFrom.and (ownFrom_below (Nat.le_refl _) HWV.out.size) (mapP_own _ _ _ _))))
          (fun _ _ _ _ _ hs _ _ => hs)
          ⟨⟨HB8.out, HB9.out⟩, ⟨HVR0.out, HVR1.out, HVR2.out⟩, HWV.out, HMV.out⟩
          (fun _ x a' _ => ∃ g7 g15 g16 g17 g18 g19 g20 g21 g22 g23 g24 g25 g26 g27 g28 g29 g30 g31 g32 g33 g34 g35 g36 g37 g38 g39 g40 g41 g42 g43 g44 g45 g46 : Value, a' = { tmps := #[.slice A ks.length c, .slice A' vs.length c', .pointer (some ⟨w.heap.size, 0, none⟩), .pointer (some ⟨w.heap.size + 1, 0, none⟩), .pointer (some ⟨w.heap.size + 1 + 1, 0, none⟩), .bool true, .pointer (some ⟨w1.heap.size, 0, none⟩), g7, .pointer (some ⟨rs, 0, none⟩), .pointer (some ⟨rs + 1, 0, none⟩), .string x.1, .string x.2, undef, undef, undef, g15, g16, g17, g18, g19, g20, g21, g22, g23, g24, g25, g26, g27, g28, g29, g30, g31, g32, g33, g34, g35, g36, g37, g38, g39, g40, g41, g42, g43, g44, g45, g46, .string x.1, .string x.2, undef, undef, undef, undef, undef, undef, undef, undef, undef, undef, undef, undef, undef, undef, undef, undef, undef, undef, undef, undef, undef, undef, undef, undef, undef, undef, undef, undef, undef, undef, undef, undef, undef, undef, undef, undef, undef, undef, undef, undef, undef], defers := [] })
          (fun _ _ _ _ _ _ _ hs _ _ => hs) ?assign ?body ?done ?stop)
        case assign =>
          rintro l2 pre x U K hi hK
          gi_wp2
          exact hK _ _ (KeepsFrom.refl _ _) (KeepC.refl _ _ _) hi ⟨_, _, _, _, _, _, _, _, _, _, _, _, _, _, _, _, _, _, _, _, _, _, _, _, _, _, _, _, _, _, _, _, _, rfl⟩
        case stop => rintro D c pre U hD hS h hK; exact h.elim
        case body =>
          rintro l2 pre x a' U hU ⟨⟨h8, h9⟩, ⟨hb0, hb1', hb2⟩, hBU, hMU⟩ ⟨g7, g15, g16, g17, g18, g19, g20, g21, g22, g23, g24, g25, g26, g27, g28, g29, g30, g31, g32, g33, g34, g35, g36, g37, g38, g39, g40, g41, g42, g43, g44, g45, g46, rfl⟩ hok
          have hxL : x ∈ L := hok.subset (by simp)
          have hpl : pre.length + 1 ≤ L.length := by have := hok.length_le; simpa using this
          have hls := lastKey_size ((List.prefix_append pre [x]).trans hok) HLK.out
          have hxs := HLK.out x hxL
          have hll := HLM.out x hxL
          have hless := ref_Less (lastKey pre) x.1 U (by omega) (by omega)
          have hgd : pre ≠ [] → lessS (lastKey pre) x.1 = true := fun h => lastKey_less HLS.out hok h
          have c8 := h8.cell
          have c9 := h9.cell
          have H8 := Lib.hid h8
          have H9 := Lib.hid h9
          have HU0 := Lib.hid hb0
          have HU1 := Lib.hid hb1'
          have HU2 := Lib.hid hb2
          have HBU := Lib.hid hBU
          have HMU2 := Lib.hid hMU
          have HLL := Lib.hid hll
          clear h8 h9 hb0 hb1' hb2 hBU hMU hxL hls hxs hll hok
          by_cases hpe : pre = []
          · subst hpe
            generalize lessS (lastKey []) x.1 = dl at *
            clear hgd
            gi_wp2
            refine ⟨trivial, rfl, CallsIn.mono (F := Fence.wide.inRound l2) (callsIn_wide.2 hless) ?_⟩
            rintro e U1 ⟨rfl, hbu⟩
            have HBu := Lib.hid hbu
            have d8 := cell_of_blk (block_below hbu H8.out) 0
            have d9 := cell_of_blk (block_below hbu H9.out) 0
            have e9 := frozen_of_blk (block_below hbu H9.out) 0
            have e8 := frozen_of_blk (block_below hbu H8.out) 0
            have d0 := cell_of_blk (block_below hbu HU0.out) 0
            have d1 := cell_of_blk (block_below hbu HU1.out) 0
            have HWU1 := Lib.hid (below2 HBU.out hbu)
            clear hbu hless c8 c9
            gi_wp2
            gi_loopw [13, 14] (fun want i wv => ∃ j2 : Nat, j2 ≤ ks.length ∧ i = .int .i64 j2 ∧ want = .string ((lastO x.1 ((ks.zip vs).take j2)).getD ⟨#[]⟩) ∧ wv = U1) (fun _ i _ => ks.length - (intOf i).toNat)
            case atStart => exact ⟨0, Nat.zero_le _, rfl, by simp [lastO], rfl⟩
            case round =>
              obtain ⟨j2, hj2, rfl, rfl, rfl⟩ := hrel
              by_cases hlt2 : j2 < ks.length
              · have hjk : j2 < ks.length := by omega
                have hjv : j2 < vs.length := by omega
                obtain ⟨b, o, rfl, _, k0⟩ := (HK.out.below HWU1.out).at_ hjk
                obtain ⟨b', o', rfl, _, k1⟩ := (HV.out.below HWU1.out).at_ hjv
                have hjz : j2 < (ks.zip vs).length := by rw [← HZN.out]; exact hlt2
                have HT : Hid (lastO x.1 ((ks.zip vs).take (j2 + 1)) = if ks[j2] = x.1 then some vs[j2] else lastO x.1 ((ks.zip vs).take j2)) := Lib.hid (by rw [List.take_succ_eq_append_getElem hjz, lastO_snoc, List.getElem_zip])
                generalize ks[j2] = ky at *
                generalize vs[j2] = vy at *
                generalize lastO x.1 ((ks.zip vs).take j2) = lo at *
                by_cases hkx : ky = x.1
                · subst hkx
                  have HT2 := Lib.hid (HT.out.trans (if_pos rfl))
                  have hq : (x.1.toList == x.1.toList) = true := beq_self_eq_true _
                  clear HT
                  gi_wp2
                  go_roundw
                  case rel => exact ⟨j2 + 1, by omega, by simp, by rw [HT2.out]; rfl, trivial⟩
                  case measure => simp [intOf]; omega
                · have HT2 := Lib.hid (HT.out.trans (if_neg hkx))
                  have hq : (ky.toList == x.1.toList) = false := by rw [beq_eq_false_iff_ne]; intro h; exact hkx (toL_inj (by rwa [toList_toL, toList_toL] at h))
                  clear HT
                  gi_wp2
                  go_roundw
                  case rel => exact ⟨j2 + 1, by omega, by simp, by rw [HT2.out], trivial⟩
                  case measure => simp [intOf]; omega
              · obtain rfl : j2 = ks.length := by omega
                have HT : Hid (lastO x.1 ((ks.zip vs).take ks.length) = some x.2) := Lib.hid (by rw [HTK.out]; exact HLL.out)
                rw [HT.out]
                have hq : (!(x.2.toList == x.2.toList)) = false := by simp
                gi_wp2
                obtain ⟨M, q8, q9⟩ := text_end (.string x.1) (.int .i64 1) HBu.out H8.out H9.out (by omega)
                have K := keepC_mut (n₀ := V'.heap.size) (T := fun x => x = rs ∨ x = rs + 1 ∨ x = w.heap.size + 1 + 1) M (fun b hb => ⟨by omega, by
                  rcases hb with rfl | rfl
                  · exact ⟨_, _, H8.out, by decide, by decide, by decide⟩
                  · exact ⟨_, _, H9.out, by decide, by decide, by decide⟩⟩)
                exact ⟨K.2.from _, K.1, ⟨by rw [lastKey_snoc]; exact q8, by simpa using q9⟩, ⟨boxed_mut HU0.out M (by omega), boxed_mut HU1.out M (by omega), boxed_mut HU2.out M (by omega)⟩, srtI.below_of_mut HBU.out M (fun b h => by omega), HMU2.out.mut M (fun g hg => ⟨by show g = w1.heap.size ∨ g = w.heap.size + 1 + 1 ∨ g = rs ∨ g = rs + 1; omega, by omega⟩)⟩
          · have hl1 := hgd hpe
            rw [hl1] at hless
            have hp0 : 0 < pre.length := List.length_pos_iff.2 hpe
            clear hgd hl1 hpe
            gi_wp2
            refine ⟨trivial, rfl, CallsIn.mono (F := Fence.wide.inRound l2) (callsIn_wide.2 hless) ?_⟩
            rintro e U1 ⟨rfl, hbu⟩
            have HBu := Lib.hid hbu
            have d8 := cell_of_blk (block_below hbu H8.out) 0
            have d9 := cell_of_blk (block_below hbu H9.out) 0
            have e9 := frozen_of_blk (block_below hbu H9.out) 0
            have e8 := frozen_of_blk (block_below hbu H8.out) 0
            have d0 := cell_of_blk (block_below hbu HU0.out) 0
            have d1 := cell_of_blk (block_below hbu HU1.out) 0
            have HWU1 := Lib.hid (below2 HBU.out hbu)
            clear hbu hless c8 c9
            gi_wp2
            gi_loopw [13, 14] (fun want i wv => ∃ j2 : Nat, j2 ≤ ks.length ∧ i = .int .i64 j2 ∧ want = .string ((lastO x.1 ((ks.zip vs).take j2)).getD ⟨#[]⟩) ∧ wv = U1) (fun _ i _ => ks.length - (intOf i).toNat)
            case atStart => exact ⟨0, Nat.zero_le _, rfl, by simp [lastO], rfl⟩
            case round =>
              obtain ⟨j2, hj2, rfl, rfl, rfl⟩ := hrel
              by_cases hlt2 : j2 < ks.length
              · have hjk : j2 < ks.length := by omega
                have hjv : j2 < vs.length := by omega
                obtain ⟨b, o, rfl, _, k0⟩ := (HK.out.below HWU1.out).at_ hjk
                obtain ⟨b', o', rfl, _, k1⟩ := (HV.out.below HWU1.out).at_ hjv
                have hjz : j2 < (ks.zip vs).length := by rw [← HZN.out]; exact hlt2
                have HT : Hid (lastO x.1 ((ks.zip vs).take (j2 + 1)) = if ks[j2] = x.1 then some vs[j2] else lastO x.1 ((ks.zip vs).take j2)) := Lib.hid (by rw [List.take_succ_eq_append_getElem hjz, lastO_snoc, List.getElem_zip])
                generalize ks[j2] = ky at *
                generalize vs[j2] = vy at *
                generalize lastO x.1 ((ks.zip vs).take j2) = lo at *
                by_cases hkx : ky = x.1
                · subst hkx
                  have HT2 := Lib.hid (HT.out.trans (if_pos rfl))
                  have hq : (x.1.toList == x.1.toList) = true := beq_self_eq_true _
                  clear HT
                  gi_wp2
                  go_roundw
                  case rel => exact ⟨j2 + 1, by omega, by simp, by rw [HT2.out]; rfl, trivial⟩
                  case measure => simp [intOf]; omega
                · have HT2 := Lib.hid (HT.out.trans (if_neg hkx))
                  have hq : (ky.toList == x.1.toList) = false := by rw [beq_eq_false_iff_ne]; intro h; exact hkx (toL_inj (by rwa [toList_toL, toList_toL] at h))
                  clear HT
                  gi_wp2
                  go_roundw
                  case rel => exact ⟨j2 + 1, by omega, by simp, by rw [HT2.out], trivial⟩
                  case measure => simp [intOf]; omega
              · obtain rfl : j2 = ks.length := by omega
                have HT : Hid (lastO x.1 ((ks.zip vs).take ks.length) = some x.2) := Lib.hid (by rw [HTK.out]; exact HLL.out)
                rw [HT.out]
                have hq : (!(x.2.toList == x.2.toList)) = false := by simp
                gi_wp2
                obtain ⟨M, q8, q9⟩ := text_end (.string x.1) (.int .i64 ((pre.length : Int) + 1)) HBu.out H8.out H9.out (by omega)
                have K := keepC_mut (n₀ := V'.heap.size) (T := fun x => x = rs ∨ x = rs + 1 ∨ x = w.heap.size + 1 + 1) M (fun b hb => ⟨by omega, by
                  rcases hb with rfl | rfl
                  · exact ⟨_, _, H8.out, by decide, by decide, by decide⟩
                  · exact ⟨_, _, H9.out, by decide, by decide, by decide⟩⟩)
                exact ⟨K.2.from _, K.1, ⟨by rw [lastKey_snoc]; exact q8, by simpa using q9⟩, ⟨boxed_mut HU0.out M (by omega), boxed_mut HU1.out M (by omega), boxed_mut HU2.out M (by omega)⟩, srtI.below_of_mut HBU.out M (fun b h => by omega), HMU2.out.mut M (fun g hg => ⟨by show g = w1.heap.size ∨ g = w.heap.size + 1 + 1 ∨ g = rs ∨ g = rs + 1; omega, by omega⟩)⟩
        case done =>
          rintro D ys U hD rfl ⟨⟨h8, h9⟩, ⟨_, _, hb2⟩, hBU, hMU⟩ hK
          obtain ⟨_, _, Az, cz, hbz, _⟩ := id hMU
          have y9 := cell_regrown h9.cell
          have e0 := fun d os => Calls.regrown_of ((len_any (some ⟨w1.heap.size, 0, none⟩) Az ys.length cz (grow (redrawn U d) os) (.inr ⟨_, rfl, cell_of_blk (block_below (below_regrown U d os) hbz) 0⟩)).mono (fun e w' h => ⟨h.1, h.2 ▸ Below.refl _ _⟩))
          have hq : ((ys.length : Int) == (ys.length : Int)) = true := beq_t rfl
          clear hbz
          go_wp2
          refine wp_region_quiet_tail [_, _, _, _] _ (by kernel_rfl) (by kernel_rfl) (by kernel_rfl) (by kernel_rfl) (by kernel_rfl) (by kernel_rfl) ?_
          repeat (first | go_big_quiet_step (with_reducible exact e0 _ _) | quiet_step (with_reducible exact e0 _ _))
          refine wpQuiet_nil ?_
          intro _ hw'
          obtain ⟨⟨dq, osq⟩, hw''⟩ := hw'
          subst hw''
          have hbq := below_regrown U dq osq
          have b2 : Boxed (grow (redrawn U dq) osq) (w.heap.size + 1 + 1) 4 (.bool false) := block_below hbq hb2
          have hKq := block_below hbq hK
          have HBq := Lib.hid (below2 hBU hbq)
          have c2 := b2.cell
          have f2 := b2.frozen
          clear hbq y9 e0
          generalize grow (redrawn U dq) osq = G at *
          go_wp2
          have hne : D ≠ w.heap.size + 1 + 1 := by
            rintro rfl
            have h := (show G.heap[w.heap.size + 1 + 1]? = _ from b2).symm.trans hKq
            cases h
          have M := (Mut.refl (fun b => b = w.heap.size + 1 + 1) G).setCell (p := ⟨w.heap.size + 1 + 1, 0, none⟩) (fun _ => rfl) (.bool true)
          have hK' := M.blk hKq hne
          have b3 : Boxed (G.setCell ⟨w.heap.size + 1 + 1, 0, none⟩ (.bool true)) (w.heap.size + 1 + 1) 4 (.bool true) := b2.set (.bool true)
          have hB3 := srtI.below_of_mut HBq.out M (fun b h => by omega)
          have c3 := b3.cell
          generalize G.setCell ⟨w.heap.size + 1 + 1, 0, none⟩ (.bool true) = G3 at *
          refine ⟨by simp, .inl ⟨_, _, rfl, run_takeDeferred hK', ?_⟩⟩
          have hc5 := cell_kept c3 (grownBy_putObj' G3 D (.deferred none)) (fun r hr => by cases hr; exact ⟨_, hK', rfl⟩)
          have hDw : w.heap.size ≤ D := by have := HWV.out.size; omega
          exact ⟨.bool true, by simp [results, Try.func3, go_sem, hc5], rfl, hB3.trans (belowK_b (w := w) (Nat.le_refl _) G3 D _ _ hDw hK' rfl rfl)⟩
      · go_wp2_with (go_at_call 13; rw [HYD.out]; refine hal.mono ?_; rintro e V' ⟨rfl, rfl⟩)
        generalize wr.heap.size = rs at *
        refine (wpIn_wide (n := 0)).1 (range_law (P := Try.prog) (gf := 48) (lb := #[.pointer (some ⟨Y.heap.size, 0, none⟩)]) (by first | rfl | simp) (enters_of Try.func48 (by kernel_rfl) rfl)
          HST.out (fun h k => h.trans k) (fun W r o h => KeepC.turn W r o h) (fun _ => rfl)
          (fun pre U => (Boxed U rs 9 (.string (lastKey pre)) ∧ Boxed U (rs + 1) 3 (.int .i64 (pre.length : Nat))) ∧ (Boxed U w.heap.size 22 (.slice A ks.length c) ∧ Boxed U (w.heap.size + 1) 22 (.slice A' vs.length c') ∧ Boxed U (w.heap.size + 1 + 1) 4 (.bool false)) ∧ (Below w.heap.size w U ∧ MapP U (fun x => x = w1.heap.size ∨ x = w.heap.size + 1 + 1 ∨ x = rs ∨ x = rs + 1) w1.heap.size L))
          (fun _ _ _ => False)
          (OwnFrom.and (OwnFrom.and (Own.from (boxed_own rs 9 (fun pre : List (KV ByteArray) => .string (lastKey pre))) _) (Own.from (boxed_own (rs + 1) 3 (fun pre : List (KV ByteArray) => .int .i64 (pre.length : Nat))) _)) (OwnFrom.and (OwnFrom.and (Own.from (boxed_own _ _ _) _) (OwnFrom.and (Own.from (boxed_own _ _ _) _) (Own.from (boxed_own _ _ _) _))) (OwnFrom.and (ownFrom_below (Nat.le_refl _) HWV.out.size) (mapP_own _ _ _ _))))
          (fun _ _ _ _ _ hs _ _ => hs)
          ⟨⟨HB8.out, HB9.out⟩, ⟨HVR0.out, HVR1.out, HVR2.out⟩, HWV.out, HMV.out⟩
          (fun _ x a' _ => ∃ g7 g15 g16 g17 g18 g19 g20 g21 g22 g23 g24 g25 g26 g27 g28 g29 g30 g31 g32 g33 g34 g35 g36 g37 g38 g39 g40 g41 g42 g43 g44 g45 g46 : Value, a' = { tmps := #[.slice A ks.length c, .slice A' vs.length c', .pointer (some ⟨w.heap.size, 0, none⟩), .pointer (some ⟨w.heap.size + 1, 0, none⟩), .pointer (some ⟨w.heap.size + 1 + 1, 0, none⟩), .bool true, .pointer (some ⟨w1.heap.size, 0, none⟩), g7, .pointer (some ⟨rs, 0, none⟩), .pointer (some ⟨rs + 1, 0, none⟩), .string x.1, .string x.2, undef, undef, undef, g15, g16, g17, g18, g19, g20, g21, g22, g23, g24, g25, g26, g27, g28, g29, g30, g31, g32, g33, g34, g35, g36, g37, g38, g39, g40, g41, g42, g43, g44, g45, g46, .string x.1, .string x.2, undef, undef, undef, undef, undef, undef, undef, undef, undef, undef, undef, undef, undef, undef, undef, undef, undef, undef, undef, undef, undef, undef, undef, undef, undef, undef, undef, undef, undef, undef, undef, undef, undef, undef, undef, undef, undef, undef, undef, undef, undef], defers := [] })
          (fun _ _ _ _ _ _ _ hs _ _ => hs) ?assign ?body ?done ?stop)
        case assign =>
          rintro l2 pre x U K hi hK
          gi_wp2
          exact hK _ _ (KeepsFrom.refl _ _) (KeepC.refl _ _ _) hi ⟨_, _, _, _, _, _, _, _, _, _, _, _, _, _, _, _, _, _, _, _, _, _, _, _, _, _, _, _, _, _, _, _, _, rfl⟩
        case stop => rintro D c pre U hD hS h hK; exact h.elim
        case body =>
          rintro l2 pre x a' U hU ⟨⟨h8, h9⟩, ⟨hb0, hb1', hb2⟩, hBU, hMU⟩ ⟨g7, g15, g16, g17, g18, g19, g20, g21, g22, g23, g24, g25, g26, g27, g28, g29, g30, g31, g32, g33, g34, g35, g36, g37, g38, g39, g40, g41, g42, g43, g44, g45, g46, rfl⟩ hok
          have hxL : x ∈ L := hok.subset (by simp)
          have hpl : pre.length + 1 ≤ L.length := by have := hok.length_le; simpa using this
          have hls := lastKey_size ((List.prefix_append pre [x]).trans hok) HLK.out
          have hxs := HLK.out x hxL
          have hll := HLM.out x hxL
          have hless := ref_Less (lastKey pre) x.1 U (by omega) (by omega)
          have hgd : pre ≠ [] → lessS (lastKey pre) x.1 = true := fun h => lastKey_less HLS.out hok h
          have c8 := h8.cell
          have c9 := h9.cell
          have H8 := Lib.hid h8
          have H9 := Lib.hid h9
          have HU0 := Lib.hid hb0
          have HU1 := Lib.hid hb1'
          have HU2 := Lib.hid hb2
          have HBU := Lib.hid hBU
          have HMU2 := Lib.hid hMU
          have HLL := Lib.hid hll
          clear h8 h9 hb0 hb1' hb2 hBU hMU hxL hls hxs hll hok
          by_cases hpe : pre = []
          · subst hpe
            generalize lessS (lastKey []) x.1 = dl at *
            clear hgd
            gi_wp2
            refine ⟨trivial, rfl, CallsIn.mono (F := Fence.wide.inRound l2) (callsIn_wide.2 hless) ?_⟩
            rintro e U1 ⟨rfl, hbu⟩
            have HBu := Lib.hid hbu
            have d8 := cell_of_blk (block_below hbu H8.out) 0
            have d9 := cell_of_blk (block_below hbu H9.out) 0
            have e9 := frozen_of_blk (block_below hbu H9.out) 0
            have e8 := frozen_of_blk (block_below hbu H8.out) 0
            have d0 := cell_of_blk (block_below hbu HU0.out) 0
            have d1 := cell_of_blk (block_below hbu HU1.out) 0
            have HWU1 := Lib.hid (below2 HBU.out hbu)
            clear hbu hless c8 c9
            gi_wp2
            gi_loopw [13, 14] (fun want i wv => ∃ j2 : Nat, j2 ≤ vs.length ∧ i = .int .i64 j2 ∧ want = .string ((lastO x.1 ((ks.zip vs).take j2)).getD ⟨#[]⟩) ∧ wv = U1) (fun _ i _ => vs.length - (intOf i).toNat)
            case atStart => exact ⟨0, Nat.zero_le _, rfl, by simp [lastO], rfl⟩
            case round =>
              obtain ⟨j2, hj2, rfl, rfl, rfl⟩ := hrel
              by_cases hlt2 : j2 < vs.length
              · have hjk : j2 < ks.length := by omega
                have hjv : j2 < vs.length := by omega
                obtain ⟨b, o, rfl, _, k0⟩ := (HK.out.below HWU1.out).at_ hjk
                obtain ⟨b', o', rfl, _, k1⟩ := (HV.out.below HWU1.out).at_ hjv
                have hjz : j2 < (ks.zip vs).length := by rw [← HZN.out]; exact hlt2
                have HT : Hid (lastO x.1 ((ks.zip vs).take (j2 + 1)) = if ks[j2] = x.1 then some vs[j2] else lastO x.1 ((ks.zip vs).take j2)) := Lib.hid (by rw [List.take_succ_eq_append_getElem hjz, lastO_snoc, List.getElem_zip])
                generalize ks[j2] = ky at *
                generalize vs[j2] = vy at *
                generalize lastO x.1 ((ks.zip vs).take j2) = lo at *
                by_cases hkx : ky = x.1
                · subst hkx
                  have HT2 := Lib.hid (HT.out.trans (if_pos rfl))
                  have hq : (x.1.toList == x.1.toList) = true := beq_self_eq_true _
                  clear HT
                  gi_wp2
                  go_roundw
                  case rel => exact ⟨j2 + 1, by omega, by simp, by rw [HT2.out]; rfl, trivial⟩
                  case measure => simp [intOf]; omega
                · have HT2 := Lib.hid (HT.out.trans (if_neg hkx))
                  have hq : (ky.toList == x.1.toList) = false := by rw [beq_eq_false_iff_ne]; intro h; exact hkx (toL_inj (by rwa [toList_toL, toList_toL] at h))
                  clear HT
                  gi_wp2
                  go_roundw
                  case rel => exact ⟨j2 + 1, by omega, by simp, by rw [HT2.out], trivial⟩
                  case measure => simp [intOf]; omega
              · obtain rfl : j2 = vs.length := by omega
                have HT : Hid (lastO x.1 ((ks.zip vs).take vs.length) = some x.2) := Lib.hid (by rw [HTK.out]; exact HLL.out)
                rw [HT.out]
                have hq : (!(x.2.toList == x.2.toList)) = false := by simp
                gi_wp2
                obtain ⟨M, q8, q9⟩ := text_end (.string x.1) (.int .i64 1) HBu.out H8.out H9.out (by omega)
                have K := keepC_mut (n₀ := V'.heap.size) (T := fun x => x = rs ∨ x = rs + 1 ∨ x = w.heap.size + 1 + 1) M (fun b hb => ⟨by omega, by
                  rcases hb with rfl | rfl
                  · exact ⟨_, _, H8.out, by decide, by decide, by decide⟩
                  · exact ⟨_, _, H9.out, by decide, by decide, by decide⟩⟩)
                exact ⟨K.2.from _, K.1, ⟨by rw [lastKey_snoc]; exact q8, by simpa using q9⟩, ⟨boxed_mut HU0.out M (by omega), boxed_mut HU1.out M (by omega), boxed_mut HU2.out M (by omega)⟩, srtI.below_of_mut HBU.out M (fun b h => by omega), HMU2.out.mut M (fun g hg => ⟨by show g = w1.heap.size ∨ g = w.heap.size + 1 + 1 ∨ g = rs ∨ g = rs + 1; omega, by omega⟩)⟩
          · have hl1 := hgd hpe
            rw [hl1] at hless
            have hp0 : 0 < pre.length := List.length_pos_iff.2 hpe
            clear hgd hl1 hpe
            gi_wp2
            refine ⟨trivial, rfl, CallsIn.mono (F := Fence.wide.inRound l2) (callsIn_wide.2 hless) ?_⟩
            rintro e U1 ⟨rfl, hbu⟩
            have HBu := Lib.hid hbu
            have d8 := cell_of_blk (block_below hbu H8.out) 0
            have d9 := cell_of_blk (block_below hbu H9.out) 0
            have e9 := frozen_of_blk (block_below hbu H9.out) 0
            have e8 := frozen_of_blk (block_below hbu H8.out) 0
            have d0 := cell_of_blk (block_below hbu HU0.out) 0
            have d1 := cell_of_blk (block_below hbu HU1.out) 0
            have HWU1 := Lib.hid (below2 HBU.out hbu)
            clear hbu hless c8 c9
            gi_wp2
            gi_loopw [13, 14] (fun want i wv => ∃ j2 : Nat, j2 ≤ vs.length ∧ i = .int .i64 j2 ∧ want = .string ((lastO x.1 ((ks.zip vs).take j2)).getD ⟨#[]⟩) ∧ wv = U1) (fun _ i _ => vs.length - (intOf i).toNat)
            case atStart => exact ⟨0, Nat.zero_le _, rfl, by simp [lastO], rfl⟩
            case round =>
              obtain ⟨j2, hj2, rfl, rfl, rfl⟩ := hrel
              by_cases hlt2 : j2 < vs.length
              · have hjk : j2 < ks.length := by omega
                have hjv : j2 < vs.length := by omega
                obtain ⟨b, o, rfl, _, k0⟩ := (HK.out.below HWU1.out).at_ hjk
                obtain ⟨b', o', rfl, _, k1⟩ := (HV.out.below HWU1.out).at_ hjv
                have hjz : j2 < (ks.zip vs).length := by rw [← HZN.out]; exact hlt2
                have HT : Hid (lastO x.1 ((ks.zip vs).take (j2 + 1)) = if ks[j2] = x.1 then some vs[j2] else lastO x.1 ((ks.zip vs).take j2)) := Lib.hid (by rw [List.take_succ_eq_append_getElem hjz, lastO_snoc, List.getElem_zip])
                generalize ks[j2] = ky at *
                generalize vs[j2] = vy at *
                generalize lastO x.1 ((ks.zip vs).take j2) = lo at *
                by_cases hkx : ky = x.1
                · subst hkx
                  have HT2 := Lib.hid (HT.out.trans (if_pos rfl))
                  have hq : (x.1.toList == x.1.toList) = true := beq_self_eq_true _
                  clear HT
                  gi_wp2
                  go_roundw
                  case rel => exact ⟨j2 + 1, by omega, by simp, by rw [HT2.out]; rfl, trivial⟩
                  case measure => simp [intOf]; omega
                · have HT2 := Lib.hid (HT.out.trans (if_neg hkx))
                  have hq : (ky.toList == x.1.toList) = false := by rw [beq_eq_false_iff_ne]; intro h; exact hkx (toL_inj (by rwa [toList_toL, toList_toL] at h))
                  clear HT
                  gi_wp2
                  go_roundw
                  case rel => exact ⟨j2 + 1, by omega, by simp, by rw [HT2.out], trivial⟩
                  case measure => simp [intOf]; omega
              · obtain rfl : j2 = vs.length := by omega
                have HT : Hid (lastO x.1 ((ks.zip vs).take vs.length) = some x.2) := Lib.hid (by rw [HTK.out]; exact HLL.out)
                rw [HT.out]
                have hq : (!(x.2.toList == x.2.toList)) = false := by simp
                gi_wp2
                obtain ⟨M, q8, q9⟩ := text_end (.string x.1) (.int .i64 ((pre.length : Int) + 1)) HBu.out H8.out H9.out (by omega)
                have K := keepC_mut (n₀ := V'.heap.size) (T := fun x => x = rs ∨ x = rs + 1 ∨ x = w.heap.size + 1 + 1) M (fun b hb => ⟨by omega, by
                  rcases hb with rfl | rfl
                  · exact ⟨_, _, H8.out, by decide, by decide, by decide⟩
                  · exact ⟨_, _, H9.out, by decide, by decide, by decide⟩⟩)
                exact ⟨K.2.from _, K.1, ⟨by rw [lastKey_snoc]; exact q8, by simpa using q9⟩, ⟨boxed_mut HU0.out M (by omega), boxed_mut HU1.out M (by omega), boxed_mut HU2.out M (by omega)⟩, srtI.below_of_mut HBU.out M (fun b h => by omega), HMU2.out.mut M (fun g hg => ⟨by show g = w1.heap.size ∨ g = w.heap.size + 1 + 1 ∨ g = rs ∨ g = rs + 1; omega, by omega⟩)⟩
        case done =>
          rintro D ys U hD rfl ⟨⟨h8, h9⟩, ⟨_, _, hb2⟩, hBU, hMU⟩ hK
          obtain ⟨_, _, Az, cz, hbz, _⟩ := id hMU
          have y9 := cell_regrown h9.cell
          have e0 := fun d os => Calls.regrown_of ((len_any (some ⟨w1.heap.size, 0, none⟩) Az ys.length cz (grow (redrawn U d) os) (.inr ⟨_, rfl, cell_of_blk (block_below (below_regrown U d os) hbz) 0⟩)).mono (fun e w' h => ⟨h.1, h.2 ▸ Below.refl _ _⟩))
          have hq : ((ys.length : Int) == (ys.length : Int)) = true := beq_t rfl
          clear hbz
          go_wp2
          refine wp_region_quiet_tail [_, _, _, _] _ (by kernel_rfl) (by kernel_rfl) (by kernel_rfl) (by kernel_rfl) (by kernel_rfl) (by kernel_rfl) ?_
          repeat (first | go_big_quiet_step (with_reducible exact e0 _ _) | quiet_step (with_reducible exact e0 _ _))
          refine wpQuiet_nil ?_
          intro _ hw'
          obtain ⟨⟨dq, osq⟩, hw''⟩ := hw'
          subst hw''
          have hbq := below_regrown U dq osq
          have b2 : Boxed (grow (redrawn U dq) osq) (w.heap.size + 1 + 1) 4 (.bool false) := block_below hbq hb2
          have hKq := block_below hbq hK
          have HBq := Lib.hid (below2 hBU hbq)
          have c2 := b2.cell
          have f2 := b2.frozen
          clear hbq y9 e0
          generalize grow (redrawn U dq) osq = G at *
          go_wp2
          have hne : D ≠ w.heap.size + 1 + 1 := by
            rintro rfl
            have h := (show G.heap[w.heap.size + 1 + 1]? = _ from b2).symm.trans hKq
            cases h
          have M := (Mut.refl (fun b => b = w.heap.size + 1 + 1) G).setCell (p := ⟨w.heap.size + 1 + 1, 0, none⟩) (fun _ => rfl) (.bool true)
          have hK' := M.blk hKq hne
          have b3 : Boxed (G.setCell ⟨w.heap.size + 1 + 1, 0, none⟩ (.bool true)) (w.heap.size + 1 + 1) 4 (.bool true) := b2.set (.bool true)
          have hB3 := srtI.below_of_mut HBq.out M (fun b h => by omega)
          have c3 := b3.cell
          generalize G.setCell ⟨w.heap.size + 1 + 1, 0, none⟩ (.bool true) = G3 at *
          refine ⟨by simp, .inl ⟨_, _, rfl, run_takeDeferred hK', ?_⟩⟩
          have hc5 := cell_kept c3 (grownBy_putObj' G3 D (.deferred none)) (fun r hr => by cases hr; exact ⟨_, hK', rfl⟩)
          have hDw : w.heap.size ≤ D := by have := HWV.out.size; omega
          exact ⟨.bool true, by simp [results, Try.func3, go_sem, hc5], rfl, hB3.trans (belowK_b (w := w) (Nat.le_refl _) G3 D _ _ hDw hK' rfl rfl)⟩
end Go.Proofs.Ytncgcjfpoableaa
