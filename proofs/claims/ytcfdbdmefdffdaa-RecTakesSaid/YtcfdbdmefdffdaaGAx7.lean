-- Printed by a program of this session over the kit's print, with contracts of our own where functions are given.
import Derived.Test.YtcfdbdmefdffdaaGAx2
import Derived.Test.YtcfdbdmefdffdaaGAx6
namespace Go.Proofs.Ytcfdbdmefdffdaa.GA
open Go.RowKit Go.Proofs.YtcfdbdmefdffdaaW.PrintWords Go.Proofs.YtcfdbdmefdffdaaW.PrintLast Go.Proofs.YtcfdbdmefdffdaaW.PrintMore
attribute [local go_sem] max2_int min2_int max_two min_two max_three min_three max_four min_four   -- for this text's walks alone
set_option linter.unusedVariables false
set_option linter.unusedSimpArgs false
mutual
def wherryref12_May.j0 : Nat → Bool → Int → Int → Int → Int → Int → Int → Int → Int → Int → ByteArray → ByteArray → ByteArray → List (S52) → Option (Bool)
  | 0, _, _, _, _, _, _, _, _, _, _, _, _, _, _ => none
  | k + 1, x33, x138000, x138001, x138002, x138003, x138004, x138005, x138006, x138007, x138008, x138009, x138010, x138011, x138012 => if x33 = true then (some false) else (if x138000 = 1 then (if x138002 = 0 then (if x138003 < 0 then (wherryref12_May.j1 k true x138000 x138001 x138002 x138003 x138004 x138005 x138006 x138007 x138008 x138009 x138010 x138011 x138012) else (wherryref12_May.j1 k (decide (x138003 > 1099511627776)) x138000 x138001 x138002 x138003 x138004 x138005 x138006 x138007 x138008 x138009 x138010 x138011 x138012)) else (wherryref12_May.j1 k true x138000 x138001 x138002 x138003 x138004 x138005 x138006 x138007 x138008 x138009 x138010 x138011 x138012)) else (if x138002 = 0 then (wherryref12_May.j1 k true x138000 x138001 x138002 x138003 x138004 x138005 x138006 x138007 x138008 x138009 x138010 x138011 x138012) else (if x138003 < 0 then (wherryref12_May.j1 k true x138000 x138001 x138002 x138003 x138004 x138005 x138006 x138007 x138008 x138009 x138010 x138011 x138012) else (wherryref12_May.j1 k (decide (x138003 > 1099511627776)) x138000 x138001 x138002 x138003 x138004 x138005 x138006 x138007 x138008 x138009 x138010 x138011 x138012))))
def wherryref12_May.j1 : Nat → Bool → Int → Int → Int → Int → Int → Int → Int → Int → Int → ByteArray → ByteArray → ByteArray → List (S52) → Option (Bool)
  | 0, _, _, _, _, _, _, _, _, _, _, _, _, _, _ => none
  | k + 1, x61, x138000, x138001, x138002, x138003, x138004, x138005, x138006, x138007, x138008, x138009, x138010, x138011, x138012 => if x61 = true then (some false) else (if x138000 = 1 then (wherryref12_May.j2 k 32 (x138001 == 1) x138000 x138001 x138002 x138003 x138004 x138005 x138006 x138007 x138008 x138009 x138010 x138011 x138012) else (wherryref12_May.j2 k 32 false x138000 x138001 x138002 x138003 x138004 x138005 x138006 x138007 x138008 x138009 x138010 x138011 x138012))
def wherryref12_May.j2 : Nat → Int → Bool → Int → Int → Int → Int → Int → Int → Int → Int → Int → ByteArray → ByteArray → ByteArray → List (S52) → Option (Bool)
  | 0, _, _, _, _, _, _, _, _, _, _, _, _, _, _, _ => none
  | k + 1, x3, x69, x138000, x138001, x138002, x138003, x138004, x138005, x138006, x138007, x138008, x138009, x138010, x138011, x138012 => if x69 = true then (wherryref12_May.j3 k 8192 x138000 x138001 x138002 x138003 x138004 x138005 x138006 x138007 x138008 x138009 x138010 x138011 x138012) else (wherryref12_May.j3 k x3 x138000 x138001 x138002 x138003 x138004 x138005 x138006 x138007 x138008 x138009 x138010 x138011 x138012)
def wherryref12_May.j3 : Nat → Int → Int → Int → Int → Int → Int → Int → Int → Int → Int → ByteArray → ByteArray → ByteArray → List (S52) → Option (Bool)
  | 0, _, _, _, _, _, _, _, _, _, _, _, _, _, _ => none
  | k + 1, x3, x138000, x138001, x138002, x138003, x138004, x138005, x138006, x138007, x138008, x138009, x138010, x138011, x138012 => if x138000 = 2 then (wherryref12_May.j4 k x3 1024 (x138001 == 1) x138000 x138001 x138002 x138003 x138004 x138005 x138006 x138007 x138008 x138009 x138010 x138011 x138012) else (wherryref12_May.j4 k x3 1024 false x138000 x138001 x138002 x138003 x138004 x138005 x138006 x138007 x138008 x138009 x138010 x138011 x138012)
def wherryref12_May.j4 : Nat → Int → Int → Bool → Int → Int → Int → Int → Int → Int → Int → Int → Int → ByteArray → ByteArray → ByteArray → List (S52) → Option (Bool)
  | 0, _, _, _, _, _, _, _, _, _, _, _, _, _, _, _, _ => none
  | k + 1, x3, x4, x77, x138000, x138001, x138002, x138003, x138004, x138005, x138006, x138007, x138008, x138009, x138010, x138011, x138012 => if x77 = true then (wherryref12_May.j5 k x3 8192 x138000 x138001 x138002 x138003 x138004 x138005 x138006 x138007 x138008 x138009 x138010 x138011 x138012) else (wherryref12_May.j5 k x3 x4 x138000 x138001 x138002 x138003 x138004 x138005 x138006 x138007 x138008 x138009 x138010 x138011 x138012)
def wherryref12_May.j5 : Nat → Int → Int → Int → Int → Int → Int → Int → Int → Int → Int → Int → ByteArray → ByteArray → ByteArray → List (S52) → Option (Bool)
  | 0, _, _, _, _, _, _, _, _, _, _, _, _, _, _, _ => none
  | k + 1, x3, x4, x138000, x138001, x138002, x138003, x138004, x138005, x138006, x138007, x138008, x138009, x138010, x138011, x138012 => (wherryref09_Right.f k x138012).bind fun t138 => (if (x138009.size : Int) > x3 then (some false) else (if (x138010.size : Int) > x4 then (some false) else (if (x138011.size : Int) > 32 then (some false) else (if t138 = true then ((wherryref12_text.f k x138000 x138001 x138002 x138003 x138004 x138005 x138006 x138007 x138008 x138009 x138010 x138011 x138012).bind fun t139 => (some (decide ((t139.size : Int) ≤ 4096)))) else (some false)))))
end
def wherryref12_May.f (k : Nat) (a0_0 : Int) (a0_1 : Int) (a0_2 : Int) (a0_3 : Int) (a0_4 : Int) (a0_5 : Int) (a0_6 : Int) (a0_7 : Int) (a0_8 : Int) (a0_9 : ByteArray) (a0_10 : ByteArray) (a0_11 : ByteArray) (l0_12 : List (S52)) : Option (Bool) := if a0_0 < 1 then (wherryref12_May.j0 k true a0_0 a0_1 a0_2 a0_3 a0_4 a0_5 a0_6 a0_7 a0_8 a0_9 a0_10 a0_11 l0_12) else (if a0_0 > 3 then (wherryref12_May.j0 k true a0_0 a0_1 a0_2 a0_3 a0_4 a0_5 a0_6 a0_7 a0_8 a0_9 a0_10 a0_11 l0_12) else (if a0_1 < 1 then (wherryref12_May.j0 k true a0_0 a0_1 a0_2 a0_3 a0_4 a0_5 a0_6 a0_7 a0_8 a0_9 a0_10 a0_11 l0_12) else (if a0_1 > 24 then (wherryref12_May.j0 k true a0_0 a0_1 a0_2 a0_3 a0_4 a0_5 a0_6 a0_7 a0_8 a0_9 a0_10 a0_11 l0_12) else (if a0_0 = 2 then (wherryref12_May.j0 k false a0_0 a0_1 a0_2 a0_3 a0_4 a0_5 a0_6 a0_7 a0_8 a0_9 a0_10 a0_11 l0_12) else (wherryref12_May.j0 k (decide (a0_1 > 16)) a0_0 a0_1 a0_2 a0_3 a0_4 a0_5 a0_6 a0_7 a0_8 a0_9 a0_10 a0_11 l0_12)))))
theorem wherryref12_May.mono_l : ∀ k, (∀ y0 y1 y2 y3 y4 y5 y6 y7 y8 y9 y10 y11 y12 y13, LeO (wherryref12_May.j0 k y0 y1 y2 y3 y4 y5 y6 y7 y8 y9 y10 y11 y12 y13) (wherryref12_May.j0 (k + 1) y0 y1 y2 y3 y4 y5 y6 y7 y8 y9 y10 y11 y12 y13)) ∧ (∀ y0 y1 y2 y3 y4 y5 y6 y7 y8 y9 y10 y11 y12 y13, LeO (wherryref12_May.j1 k y0 y1 y2 y3 y4 y5 y6 y7 y8 y9 y10 y11 y12 y13) (wherryref12_May.j1 (k + 1) y0 y1 y2 y3 y4 y5 y6 y7 y8 y9 y10 y11 y12 y13)) ∧ (∀ y0 y1 y2 y3 y4 y5 y6 y7 y8 y9 y10 y11 y12 y13 y14, LeO (wherryref12_May.j2 k y0 y1 y2 y3 y4 y5 y6 y7 y8 y9 y10 y11 y12 y13 y14) (wherryref12_May.j2 (k + 1) y0 y1 y2 y3 y4 y5 y6 y7 y8 y9 y10 y11 y12 y13 y14)) ∧ (∀ y0 y1 y2 y3 y4 y5 y6 y7 y8 y9 y10 y11 y12 y13, LeO (wherryref12_May.j3 k y0 y1 y2 y3 y4 y5 y6 y7 y8 y9 y10 y11 y12 y13) (wherryref12_May.j3 (k + 1) y0 y1 y2 y3 y4 y5 y6 y7 y8 y9 y10 y11 y12 y13)) ∧ (∀ y0 y1 y2 y3 y4 y5 y6 y7 y8 y9 y10 y11 y12 y13 y14 y15, LeO (wherryref12_May.j4 k y0 y1 y2 y3 y4 y5 y6 y7 y8 y9 y10 y11 y12 y13 y14 y15) (wherryref12_May.j4 (k + 1) y0 y1 y2 y3 y4 y5 y6 y7 y8 y9 y10 y11 y12 y13 y14 y15)) ∧ (∀ y0 y1 y2 y3 y4 y5 y6 y7 y8 y9 y10 y11 y12 y13 y14, LeO (wherryref12_May.j5 k y0 y1 y2 y3 y4 y5 y6 y7 y8 y9 y10 y11 y12 y13 y14) (wherryref12_May.j5 (k + 1) y0 y1 y2 y3 y4 y5 y6 y7 y8 y9 y10 y11 y12 y13 y14))
  | 0 => ⟨fun _ _ _ _ _ _ _ _ _ _ _ _ _ _ r h => by simp [wherryref12_May.j0] at h, fun _ _ _ _ _ _ _ _ _ _ _ _ _ _ r h => by simp [wherryref12_May.j1] at h, fun _ _ _ _ _ _ _ _ _ _ _ _ _ _ _ r h => by simp [wherryref12_May.j2] at h, fun _ _ _ _ _ _ _ _ _ _ _ _ _ _ r h => by simp [wherryref12_May.j3] at h, fun _ _ _ _ _ _ _ _ _ _ _ _ _ _ _ _ r h => by simp [wherryref12_May.j4] at h, fun _ _ _ _ _ _ _ _ _ _ _ _ _ _ _ r h => by simp [wherryref12_May.j5] at h⟩
  | k + 1 => by
    obtain ⟨ih0, ih1, ih2, ih3, ih4, ih5⟩ := wherryref12_May.mono_l k
    refine ⟨?_, ?_, ?_, ?_, ?_, ?_⟩
    · intro y0 y1 y2 y3 y4 y5 y6 y7 y8 y9 y10 y11 y12 y13
      unfold wherryref12_May.j0
      repeat' first
      | (with_reducible exact ih0 _ _ _ _ _ _ _ _ _ _ _ _ _ _)
      | (with_reducible exact ih1 _ _ _ _ _ _ _ _ _ _ _ _ _ _)
      | (with_reducible exact ih2 _ _ _ _ _ _ _ _ _ _ _ _ _ _ _)
      | (with_reducible exact ih3 _ _ _ _ _ _ _ _ _ _ _ _ _ _)
      | (with_reducible exact ih4 _ _ _ _ _ _ _ _ _ _ _ _ _ _ _ _)
      | (with_reducible exact ih5 _ _ _ _ _ _ _ _ _ _ _ _ _ _ _)
      | (with_reducible exact wherryref09_Right.mono _ _)
      | (with_reducible exact wherryref12_text.mono _ _ _ _ _ _ _ _ _ _ _ _ _ _)
      | (with_reducible exact LeO.refl _)
      | (with_reducible exact LeO.none _)
      | (with_reducible refine LeO.ite ?_ ?_)
      | (with_reducible refine LeO.bind ?_ (fun _ => ?_))
      | exact ih0 _ _ _ _ _ _ _ _ _ _ _ _ _ _
      | exact ih1 _ _ _ _ _ _ _ _ _ _ _ _ _ _
      | exact ih2 _ _ _ _ _ _ _ _ _ _ _ _ _ _ _
      | exact ih3 _ _ _ _ _ _ _ _ _ _ _ _ _ _
      | exact ih4 _ _ _ _ _ _ _ _ _ _ _ _ _ _ _ _
      | exact ih5 _ _ _ _ _ _ _ _ _ _ _ _ _ _ _
      | exact wherryref09_Right.mono _ _
      | exact wherryref12_text.mono _ _ _ _ _ _ _ _ _ _ _ _ _ _
      | exact LeO.none _
      | refine LeO.ite ?_ ?_
      | refine LeO.bind ?_ (fun _ => ?_)
    · intro y0 y1 y2 y3 y4 y5 y6 y7 y8 y9 y10 y11 y12 y13
      unfold wherryref12_May.j1
      repeat' first
      | (with_reducible exact ih0 _ _ _ _ _ _ _ _ _ _ _ _ _ _)
      | (with_reducible exact ih1 _ _ _ _ _ _ _ _ _ _ _ _ _ _)
      | (with_reducible exact ih2 _ _ _ _ _ _ _ _ _ _ _ _ _ _ _)
      | (with_reducible exact ih3 _ _ _ _ _ _ _ _ _ _ _ _ _ _)
      | (with_reducible exact ih4 _ _ _ _ _ _ _ _ _ _ _ _ _ _ _ _)
      | (with_reducible exact ih5 _ _ _ _ _ _ _ _ _ _ _ _ _ _ _)
      | (with_reducible exact wherryref09_Right.mono _ _)
      | (with_reducible exact wherryref12_text.mono _ _ _ _ _ _ _ _ _ _ _ _ _ _)
      | (with_reducible exact LeO.refl _)
      | (with_reducible exact LeO.none _)
      | (with_reducible refine LeO.ite ?_ ?_)
      | (with_reducible refine LeO.bind ?_ (fun _ => ?_))
      | exact ih0 _ _ _ _ _ _ _ _ _ _ _ _ _ _
      | exact ih1 _ _ _ _ _ _ _ _ _ _ _ _ _ _
      | exact ih2 _ _ _ _ _ _ _ _ _ _ _ _ _ _ _
      | exact ih3 _ _ _ _ _ _ _ _ _ _ _ _ _ _
      | exact ih4 _ _ _ _ _ _ _ _ _ _ _ _ _ _ _ _
      | exact ih5 _ _ _ _ _ _ _ _ _ _ _ _ _ _ _
      | exact wherryref09_Right.mono _ _
      | exact wherryref12_text.mono _ _ _ _ _ _ _ _ _ _ _ _ _ _
      | exact LeO.none _
      | refine LeO.ite ?_ ?_
      | refine LeO.bind ?_ (fun _ => ?_)
    · intro y0 y1 y2 y3 y4 y5 y6 y7 y8 y9 y10 y11 y12 y13 y14
      unfold wherryref12_May.j2
      repeat' first
      | (with_reducible exact ih0 _ _ _ _ _ _ _ _ _ _ _ _ _ _)
      | (with_reducible exact ih1 _ _ _ _ _ _ _ _ _ _ _ _ _ _)
      | (with_reducible exact ih2 _ _ _ _ _ _ _ _ _ _ _ _ _ _ _)
      | (with_reducible exact ih3 _ _ _ _ _ _ _ _ _ _ _ _ _ _)
      | (with_reducible exact ih4 _ _ _ _ _ _ _ _ _ _ _ _ _ _ _ _)
      | (with_reducible exact ih5 _ _ _ _ _ _ _ _ _ _ _ _ _ _ _)
      | (with_reducible exact wherryref09_Right.mono _ _)
      | (with_reducible exact wherryref12_text.mono _ _ _ _ _ _ _ _ _ _ _ _ _ _)
      | (with_reducible exact LeO.refl _)
      | (with_reducible exact LeO.none _)
      | (with_reducible refine LeO.ite ?_ ?_)
      | (with_reducible refine LeO.bind ?_ (fun _ => ?_))
      | exact ih0 _ _ _ _ _ _ _ _ _ _ _ _ _ _
      | exact ih1 _ _ _ _ _ _ _ _ _ _ _ _ _ _
      | exact ih2 _ _ _ _ _ _ _ _ _ _ _ _ _ _ _
      | exact ih3 _ _ _ _ _ _ _ _ _ _ _ _ _ _
      | exact ih4 _ _ _ _ _ _ _ _ _ _ _ _ _ _ _ _
      | exact ih5 _ _ _ _ _ _ _ _ _ _ _ _ _ _ _
      | exact wherryref09_Right.mono _ _
      | exact wherryref12_text.mono _ _ _ _ _ _ _ _ _ _ _ _ _ _
      | exact LeO.none _
      | refine LeO.ite ?_ ?_
      | refine LeO.bind ?_ (fun _ => ?_)
    · intro y0 y1 y2 y3 y4 y5 y6 y7 y8 y9 y10 y11 y12 y13
      unfold wherryref12_May.j3
      repeat' first
      | (with_reducible exact ih0 _ _ _ _ _ _ _ _ _ _ _ _ _ _)
      | (with_reducible exact ih1 _ _ _ _ _ _ _ _ _ _ _ _ _ _)
      | (with_reducible exact ih2 _ _ _ _ _ _ _ _ _ _ _ _ _ _ _)
      | (with_reducible exact ih3 _ _ _ _ _ _ _ _ _ _ _ _ _ _)
      | (with_reducible exact ih4 _ _ _ _ _ _ _ _ _ _ _ _ _ _ _ _)
      | (with_reducible exact ih5 _ _ _ _ _ _ _ _ _ _ _ _ _ _ _)
      | (with_reducible exact wherryref09_Right.mono _ _)
      | (with_reducible exact wherryref12_text.mono _ _ _ _ _ _ _ _ _ _ _ _ _ _)
      | (with_reducible exact LeO.refl _)
      | (with_reducible exact LeO.none _)
      | (with_reducible refine LeO.ite ?_ ?_)
      | (with_reducible refine LeO.bind ?_ (fun _ => ?_))
      | exact ih0 _ _ _ _ _ _ _ _ _ _ _ _ _ _
      | exact ih1 _ _ _ _ _ _ _ _ _ _ _ _ _ _
      | exact ih2 _ _ _ _ _ _ _ _ _ _ _ _ _ _ _
      | exact ih3 _ _ _ _ _ _ _ _ _ _ _ _ _ _
      | exact ih4 _ _ _ _ _ _ _ _ _ _ _ _ _ _ _ _
      | exact ih5 _ _ _ _ _ _ _ _ _ _ _ _ _ _ _
      | exact wherryref09_Right.mono _ _
      | exact wherryref12_text.mono _ _ _ _ _ _ _ _ _ _ _ _ _ _
      | exact LeO.none _
      | refine LeO.ite ?_ ?_
      | refine LeO.bind ?_ (fun _ => ?_)
    · intro y0 y1 y2 y3 y4 y5 y6 y7 y8 y9 y10 y11 y12 y13 y14 y15
      unfold wherryref12_May.j4
      repeat' first
      | (with_reducible exact ih0 _ _ _ _ _ _ _ _ _ _ _ _ _ _)
      | (with_reducible exact ih1 _ _ _ _ _ _ _ _ _ _ _ _ _ _)
      | (with_reducible exact ih2 _ _ _ _ _ _ _ _ _ _ _ _ _ _ _)
      | (with_reducible exact ih3 _ _ _ _ _ _ _ _ _ _ _ _ _ _)
      | (with_reducible exact ih4 _ _ _ _ _ _ _ _ _ _ _ _ _ _ _ _)
      | (with_reducible exact ih5 _ _ _ _ _ _ _ _ _ _ _ _ _ _ _)
      | (with_reducible exact wherryref09_Right.mono _ _)
      | (with_reducible exact wherryref12_text.mono _ _ _ _ _ _ _ _ _ _ _ _ _ _)
      | (with_reducible exact LeO.refl _)
      | (with_reducible exact LeO.none _)
      | (with_reducible refine LeO.ite ?_ ?_)
      | (with_reducible refine LeO.bind ?_ (fun _ => ?_))
      | exact ih0 _ _ _ _ _ _ _ _ _ _ _ _ _ _
      | exact ih1 _ _ _ _ _ _ _ _ _ _ _ _ _ _
      | exact ih2 _ _ _ _ _ _ _ _ _ _ _ _ _ _ _
      | exact ih3 _ _ _ _ _ _ _ _ _ _ _ _ _ _
      | exact ih4 _ _ _ _ _ _ _ _ _ _ _ _ _ _ _ _
      | exact ih5 _ _ _ _ _ _ _ _ _ _ _ _ _ _ _
      | exact wherryref09_Right.mono _ _
      | exact wherryref12_text.mono _ _ _ _ _ _ _ _ _ _ _ _ _ _
      | exact LeO.none _
      | refine LeO.ite ?_ ?_
      | refine LeO.bind ?_ (fun _ => ?_)
    · intro y0 y1 y2 y3 y4 y5 y6 y7 y8 y9 y10 y11 y12 y13 y14
      unfold wherryref12_May.j5
      repeat' first
      | (with_reducible exact ih0 _ _ _ _ _ _ _ _ _ _ _ _ _ _)
      | (with_reducible exact ih1 _ _ _ _ _ _ _ _ _ _ _ _ _ _)
      | (with_reducible exact ih2 _ _ _ _ _ _ _ _ _ _ _ _ _ _ _)
      | (with_reducible exact ih3 _ _ _ _ _ _ _ _ _ _ _ _ _ _)
      | (with_reducible exact ih4 _ _ _ _ _ _ _ _ _ _ _ _ _ _ _ _)
      | (with_reducible exact ih5 _ _ _ _ _ _ _ _ _ _ _ _ _ _ _)
      | (with_reducible exact wherryref09_Right.mono _ _)
      | (with_reducible exact wherryref12_text.mono _ _ _ _ _ _ _ _ _ _ _ _ _ _)
      | (with_reducible exact LeO.refl _)
      | (with_reducible exact LeO.none _)
      | (with_reducible refine LeO.ite ?_ ?_)
      | (with_reducible refine LeO.bind ?_ (fun _ => ?_))
      | exact ih0 _ _ _ _ _ _ _ _ _ _ _ _ _ _
      | exact ih1 _ _ _ _ _ _ _ _ _ _ _ _ _ _
      | exact ih2 _ _ _ _ _ _ _ _ _ _ _ _ _ _ _
      | exact ih3 _ _ _ _ _ _ _ _ _ _ _ _ _ _
      | exact ih4 _ _ _ _ _ _ _ _ _ _ _ _ _ _ _ _
      | exact ih5 _ _ _ _ _ _ _ _ _ _ _ _ _ _ _
      | exact wherryref09_Right.mono _ _
      | exact wherryref12_text.mono _ _ _ _ _ _ _ _ _ _ _ _ _ _
      | exact LeO.none _
      | refine LeO.ite ?_ ?_
      | refine LeO.bind ?_ (fun _ => ?_)
theorem wherryref12_May.mono : ∀ a0 a1 a2 a3 a4 a5 a6 a7 a8 a9 a10 a11 a12 k, LeO (wherryref12_May.f k a0 a1 a2 a3 a4 a5 a6 a7 a8 a9 a10 a11 a12) (wherryref12_May.f (k + 1) a0 a1 a2 a3 a4 a5 a6 a7 a8 a9 a10 a11 a12) := by
  intro a0 a1 a2 a3 a4 a5 a6 a7 a8 a9 a10 a11 a12 k
  obtain ⟨ih0, ih1, ih2, ih3, ih4, ih5⟩ := wherryref12_May.mono_l k
  unfold wherryref12_May.f
  repeat' first
      | (with_reducible exact ih0 _ _ _ _ _ _ _ _ _ _ _ _ _ _)
      | (with_reducible exact ih1 _ _ _ _ _ _ _ _ _ _ _ _ _ _)
      | (with_reducible exact ih2 _ _ _ _ _ _ _ _ _ _ _ _ _ _ _)
      | (with_reducible exact ih3 _ _ _ _ _ _ _ _ _ _ _ _ _ _)
      | (with_reducible exact ih4 _ _ _ _ _ _ _ _ _ _ _ _ _ _ _ _)
      | (with_reducible exact ih5 _ _ _ _ _ _ _ _ _ _ _ _ _ _ _)
      | (with_reducible exact wherryref09_Right.mono _ _)
      | (with_reducible exact wherryref12_text.mono _ _ _ _ _ _ _ _ _ _ _ _ _ _)
      | (with_reducible exact LeO.refl _)
      | (with_reducible exact LeO.none _)
      | (with_reducible refine LeO.ite ?_ ?_)
      | (with_reducible refine LeO.bind ?_ (fun _ => ?_))
      | exact ih0 _ _ _ _ _ _ _ _ _ _ _ _ _ _
      | exact ih1 _ _ _ _ _ _ _ _ _ _ _ _ _ _
      | exact ih2 _ _ _ _ _ _ _ _ _ _ _ _ _ _ _
      | exact ih3 _ _ _ _ _ _ _ _ _ _ _ _ _ _
      | exact ih4 _ _ _ _ _ _ _ _ _ _ _ _ _ _ _ _
      | exact ih5 _ _ _ _ _ _ _ _ _ _ _ _ _ _ _
      | exact wherryref09_Right.mono _ _
      | exact wherryref12_text.mono _ _ _ _ _ _ _ _ _ _ _ _ _ _
      | exact LeO.none _
      | refine LeO.ite ?_ ?_
      | refine LeO.bind ?_ (fun _ => ?_)
set_option maxHeartbeats 8000000 in
set_option maxRecDepth 100000 in
theorem wherryref12_May.calls (k : Nat) (a0_0 : Int) (a0_1 : Int) (a0_2 : Int) (a0_3 : Int) (a0_4 : Int) (a0_5 : Int) (a0_6 : Int) (a0_7 : Int) (a0_8 : Int) (a0_9 : ByteArray) (a0_10 : ByteArray) (a0_11 : ByteArray) (A0_12 : Option Addr) (c0_12 : Nat) (l0_12 : List (S52)) (r : Bool) (w : World) (hr0_12 : Kd.C k52 w A0_12 l0_12.length l0_12) (hc0_12 : l0_12.length ≤ c0_12) (h : wherryref12_May.f k a0_0 a0_1 a0_2 a0_3 a0_4 a0_5 a0_6 a0_7 a0_8 a0_9 a0_10 a0_11 l0_12 = some r) :
    Calls Try.prog 12 #[.agg #[.int .i64 a0_0, .int .i64 a0_1, .int .u64 a0_2, .int .i64 a0_3, .int .u64 a0_4, .int .u64 a0_5, .int .u64 a0_6, .int .i64 a0_7, .int .i64 a0_8, .string a0_9, .string a0_10, .string a0_11, .slice A0_12 l0_12.length c0_12]] w fun e w' => e = .returned (.bool r) ∧ Below w.heap.size w w' := by
  have hu25 := Try.underlying25
  have HR0_12 := Aside0.mk hr0_12
  have HC0_12 := Aside0.mk hc0_12
  clear hr0_12 hc0_12
  have HB := Aside0.mk (Below.refl w.heap.size w)
  have H : (if a0_0 < 1 then (wherryref12_May.j0 k true a0_0 a0_1 a0_2 a0_3 a0_4 a0_5 a0_6 a0_7 a0_8 a0_9 a0_10 a0_11 l0_12) else (if a0_0 > 3 then (wherryref12_May.j0 k true a0_0 a0_1 a0_2 a0_3 a0_4 a0_5 a0_6 a0_7 a0_8 a0_9 a0_10 a0_11 l0_12) else (if a0_1 < 1 then (wherryref12_May.j0 k true a0_0 a0_1 a0_2 a0_3 a0_4 a0_5 a0_6 a0_7 a0_8 a0_9 a0_10 a0_11 l0_12) else (if a0_1 > 24 then (wherryref12_May.j0 k true a0_0 a0_1 a0_2 a0_3 a0_4 a0_5 a0_6 a0_7 a0_8 a0_9 a0_10 a0_11 l0_12) else (if a0_0 = 2 then (wherryref12_May.j0 k false a0_0 a0_1 a0_2 a0_3 a0_4 a0_5 a0_6 a0_7 a0_8 a0_9 a0_10 a0_11 l0_12) else (wherryref12_May.j0 k (decide (a0_1 > 16)) a0_0 a0_1 a0_2 a0_3 a0_4 a0_5 a0_6 a0_7 a0_8 a0_9 a0_10 a0_11 l0_12)))))) = some r := h
  clear h
  have HC2 := Aside0.mk H
  clear H
  go_enter Try.func12, Try.ntmps12
  go_upto_region 1 with (first | ((with_reducible refine gate_dst (N := 1) rfl ?_); (try (refine gate_guard (by rfl) ?_; dsimp only)); refine box_event ?hg (N := 1) ?hd (cs := #[.int .i64 a0_0, .int .i64 a0_1, .int .u64 a0_2, .int .i64 a0_3, .int .u64 a0_4, .int .u64 a0_5, .int .u64 a0_6, .int .i64 a0_7, .int .i64 a0_8, .string a0_9, .string a0_10, .string a0_11, .slice A0_12 l0_12.length c0_12]) (t := 25) ?hr ?_; (case hd => rfl); (case hg => rfl); (case hr => first | (go_simp; done) | (go_simp; rfl)); intro gb137 hg w3 hbox hb; have n0_ := Aside0.mk (below_step (by repeat (first | (with_reducible first | exact HB.out | apply below_alloc | apply pw_below_drewN | apply below_drew1) | exact HB.out)) hb); have n1_ := Aside0.mk (hbox); have n2_ := Aside0.mk ((by rw [hg]; exact (below_size (by repeat (first | (with_reducible first | exact HB.out | apply below_alloc | apply pw_below_drewN | apply below_drew1) | exact HB.out))) : w.heap.size ≤ gb137)); have n3_ := Aside0.mk ((by rw [hg]; exact (below_size (by repeat (first | (with_reducible first | exact HB.out | apply below_alloc | apply pw_below_drewN | apply below_drew1) | exact HB.out))) : w.heap.size ≤ gb137)); clear HB; have HB := n0_; have BK137 := n1_; have GW137 := n2_; have GE137 := n3_; clear n0_ n1_ n2_ n3_; clear hb hbox hg))
  (try simp only [Act.put, List.setIfInBounds_toArray, List.set_cons_zero, List.set_cons_succ])
  go_cut [33] (fun v33 wc => ∃ (kq : Nat) (x33_1 : Bool), v33 = .bool x33_1 ∧ Aside0 (wherryref12_May.j0 kq x33_1 a0_0 a0_1 a0_2 a0_3 a0_4 a0_5 a0_6 a0_7 a0_8 a0_9 a0_10 a0_11 l0_12 = some r) ∧ Aside0 (kq ≤ k) ∧ Aside0 (wc.heap[gb137]? = some (.cells #[.int .i64 a0_0, .int .i64 a0_1, .int .u64 a0_2, .int .i64 a0_3, .int .u64 a0_4, .int .u64 a0_5, .int .u64 a0_6, .int .i64 a0_7, .int .i64 a0_8, .string a0_9, .string a0_10, .string a0_11, (.slice A0_12 l0_12.length c0_12)] 25 (0, 0))) ∧ Aside0 (Below w.heap.size w wc))
  case first =>
    have H := HC2.out
    clear HC2
    by_cases c4 : a0_0 < 1
    · rw [if_pos c4] at H
      have c4b0 : decide (a0_0 < 1) = true := decide_eq_true c4
      clear c4
      (first | rw [c4b0] | (simp only [i64_w, i32_w]; rw [c4b0]) | skip)
      have H' := Aside0.mk H
      clear H
      have hcz5_0 : w3.cell? ⟨gb137, 0, none⟩ = some (.int .i64 a0_0) := (blk_cell BK137.out 0).trans rfl
      have hcz5_1 : w3.cell? ⟨gb137, 1, none⟩ = some (.int .i64 a0_1) := (blk_cell BK137.out 1).trans rfl
      have hcz5_2 : w3.cell? ⟨gb137, 2, none⟩ = some (.int .u64 a0_2) := (blk_cell BK137.out 2).trans rfl
      have hcz5_3 : w3.cell? ⟨gb137, 3, none⟩ = some (.int .i64 a0_3) := (blk_cell BK137.out 3).trans rfl
      have hcz5_4 : w3.cell? ⟨gb137, 4, none⟩ = some (.int .u64 a0_4) := (blk_cell BK137.out 4).trans rfl
      have hcz5_5 : w3.cell? ⟨gb137, 5, none⟩ = some (.int .u64 a0_5) := (blk_cell BK137.out 5).trans rfl
      have hcz5_6 : w3.cell? ⟨gb137, 6, none⟩ = some (.int .u64 a0_6) := (blk_cell BK137.out 6).trans rfl
      have hcz5_7 : w3.cell? ⟨gb137, 7, none⟩ = some (.int .i64 a0_7) := (blk_cell BK137.out 7).trans rfl
      have hcz5_8 : w3.cell? ⟨gb137, 8, none⟩ = some (.int .i64 a0_8) := (blk_cell BK137.out 8).trans rfl
      have hcz5_9 : w3.cell? ⟨gb137, 9, none⟩ = some (.string a0_9) := (blk_cell BK137.out 9).trans rfl
      have hcz5_10 : w3.cell? ⟨gb137, 10, none⟩ = some (.string a0_10) := (blk_cell BK137.out 10).trans rfl
      have hcz5_11 : w3.cell? ⟨gb137, 11, none⟩ = some (.string a0_11) := (blk_cell BK137.out 11).trans rfl
      have hcz5_12 : w3.cell? ⟨gb137, 12, none⟩ = some (.slice A0_12 l0_12.length c0_12) := (blk_cell BK137.out 12).trans rfl
      have hfz5_0 := blk_frozen BK137.out 0
      have hfz5_1 := blk_frozen BK137.out 1
      have hfz5_2 := blk_frozen BK137.out 2
      have hfz5_3 := blk_frozen BK137.out 3
      have hfz5_4 := blk_frozen BK137.out 4
      have hfz5_5 := blk_frozen BK137.out 5
      have hfz5_6 := blk_frozen BK137.out 6
      have hfz5_7 := blk_frozen BK137.out 7
      have hfz5_8 := blk_frozen BK137.out 8
      have hfz5_9 := blk_frozen BK137.out 9
      have hfz5_10 := blk_frozen BK137.out 10
      have hfz5_11 := blk_frozen BK137.out 11
      have hfz5_12 := blk_frozen BK137.out 12
      go_wp2
      go_meet
      case rel => exact ⟨_, (true), (by first | rfl | (simp; done) | (simp [*]; done)), H', ⟨by first | omega | exact Nat.le_refl _⟩, ⟨by (with_reducible repeat (first | refine blk_drewN ?_ _ | refine blk_drew ?_ | refine blk_alloc ?_ _)); exact BK137.out⟩, ⟨by repeat (first | (with_reducible first | exact HB.out | apply below_alloc | apply pw_below_drewN | apply below_drew1 | refine below_set ?_ GE137.out) | exact HB.out)⟩⟩
    · rw [if_neg c4] at H
      have c4b0 : decide (a0_0 < 1) = false := decide_eq_false c4
      clear c4
      (first | rw [c4b0] | (simp only [i64_w, i32_w]; rw [c4b0]) | skip)
      by_cases c6 : a0_0 > 3
      · rw [if_pos c6] at H
        have c6b0 : decide (3 < a0_0) = true := decide_eq_true c6
        clear c6
        have H' := Aside0.mk H
        clear H
        have hcz7_0 : w3.cell? ⟨gb137, 0, none⟩ = some (.int .i64 a0_0) := (blk_cell BK137.out 0).trans rfl
        have hcz7_1 : w3.cell? ⟨gb137, 1, none⟩ = some (.int .i64 a0_1) := (blk_cell BK137.out 1).trans rfl
        have hcz7_2 : w3.cell? ⟨gb137, 2, none⟩ = some (.int .u64 a0_2) := (blk_cell BK137.out 2).trans rfl
        have hcz7_3 : w3.cell? ⟨gb137, 3, none⟩ = some (.int .i64 a0_3) := (blk_cell BK137.out 3).trans rfl
        have hcz7_4 : w3.cell? ⟨gb137, 4, none⟩ = some (.int .u64 a0_4) := (blk_cell BK137.out 4).trans rfl
        have hcz7_5 : w3.cell? ⟨gb137, 5, none⟩ = some (.int .u64 a0_5) := (blk_cell BK137.out 5).trans rfl
        have hcz7_6 : w3.cell? ⟨gb137, 6, none⟩ = some (.int .u64 a0_6) := (blk_cell BK137.out 6).trans rfl
        have hcz7_7 : w3.cell? ⟨gb137, 7, none⟩ = some (.int .i64 a0_7) := (blk_cell BK137.out 7).trans rfl
        have hcz7_8 : w3.cell? ⟨gb137, 8, none⟩ = some (.int .i64 a0_8) := (blk_cell BK137.out 8).trans rfl
        have hcz7_9 : w3.cell? ⟨gb137, 9, none⟩ = some (.string a0_9) := (blk_cell BK137.out 9).trans rfl
        have hcz7_10 : w3.cell? ⟨gb137, 10, none⟩ = some (.string a0_10) := (blk_cell BK137.out 10).trans rfl
        have hcz7_11 : w3.cell? ⟨gb137, 11, none⟩ = some (.string a0_11) := (blk_cell BK137.out 11).trans rfl
        have hcz7_12 : w3.cell? ⟨gb137, 12, none⟩ = some (.slice A0_12 l0_12.length c0_12) := (blk_cell BK137.out 12).trans rfl
        have hfz7_0 := blk_frozen BK137.out 0
        have hfz7_1 := blk_frozen BK137.out 1
        have hfz7_2 := blk_frozen BK137.out 2
        have hfz7_3 := blk_frozen BK137.out 3
        have hfz7_4 := blk_frozen BK137.out 4
        have hfz7_5 := blk_frozen BK137.out 5
        have hfz7_6 := blk_frozen BK137.out 6
        have hfz7_7 := blk_frozen BK137.out 7
        have hfz7_8 := blk_frozen BK137.out 8
        have hfz7_9 := blk_frozen BK137.out 9
        have hfz7_10 := blk_frozen BK137.out 10
        have hfz7_11 := blk_frozen BK137.out 11
        have hfz7_12 := blk_frozen BK137.out 12
        go_wp2
        go_meet
        case rel => exact ⟨_, (true), (by first | rfl | (simp; done) | (simp [*]; done)), H', ⟨by first | omega | exact Nat.le_refl _⟩, ⟨by (with_reducible repeat (first | refine blk_drewN ?_ _ | refine blk_drew ?_ | refine blk_alloc ?_ _)); exact BK137.out⟩, ⟨by repeat (first | (with_reducible first | exact HB.out | apply below_alloc | apply pw_below_drewN | apply below_drew1 | refine below_set ?_ GE137.out) | exact HB.out)⟩⟩
      · rw [if_neg c6] at H
        have c6b0 : decide (3 < a0_0) = false := decide_eq_false c6
        clear c6
        by_cases c8 : a0_1 < 1
        · rw [if_pos c8] at H
          have c8b0 : decide (a0_1 < 1) = true := decide_eq_true c8
          clear c8
          have H' := Aside0.mk H
          clear H
          have hcz9_0 : w3.cell? ⟨gb137, 0, none⟩ = some (.int .i64 a0_0) := (blk_cell BK137.out 0).trans rfl
          have hcz9_1 : w3.cell? ⟨gb137, 1, none⟩ = some (.int .i64 a0_1) := (blk_cell BK137.out 1).trans rfl
          have hcz9_2 : w3.cell? ⟨gb137, 2, none⟩ = some (.int .u64 a0_2) := (blk_cell BK137.out 2).trans rfl
          have hcz9_3 : w3.cell? ⟨gb137, 3, none⟩ = some (.int .i64 a0_3) := (blk_cell BK137.out 3).trans rfl
          have hcz9_4 : w3.cell? ⟨gb137, 4, none⟩ = some (.int .u64 a0_4) := (blk_cell BK137.out 4).trans rfl
          have hcz9_5 : w3.cell? ⟨gb137, 5, none⟩ = some (.int .u64 a0_5) := (blk_cell BK137.out 5).trans rfl
          have hcz9_6 : w3.cell? ⟨gb137, 6, none⟩ = some (.int .u64 a0_6) := (blk_cell BK137.out 6).trans rfl
          have hcz9_7 : w3.cell? ⟨gb137, 7, none⟩ = some (.int .i64 a0_7) := (blk_cell BK137.out 7).trans rfl
          have hcz9_8 : w3.cell? ⟨gb137, 8, none⟩ = some (.int .i64 a0_8) := (blk_cell BK137.out 8).trans rfl
          have hcz9_9 : w3.cell? ⟨gb137, 9, none⟩ = some (.string a0_9) := (blk_cell BK137.out 9).trans rfl
          have hcz9_10 : w3.cell? ⟨gb137, 10, none⟩ = some (.string a0_10) := (blk_cell BK137.out 10).trans rfl
          have hcz9_11 : w3.cell? ⟨gb137, 11, none⟩ = some (.string a0_11) := (blk_cell BK137.out 11).trans rfl
          have hcz9_12 : w3.cell? ⟨gb137, 12, none⟩ = some (.slice A0_12 l0_12.length c0_12) := (blk_cell BK137.out 12).trans rfl
          have hfz9_0 := blk_frozen BK137.out 0
          have hfz9_1 := blk_frozen BK137.out 1
          have hfz9_2 := blk_frozen BK137.out 2
          have hfz9_3 := blk_frozen BK137.out 3
          have hfz9_4 := blk_frozen BK137.out 4
          have hfz9_5 := blk_frozen BK137.out 5
          have hfz9_6 := blk_frozen BK137.out 6
          have hfz9_7 := blk_frozen BK137.out 7
          have hfz9_8 := blk_frozen BK137.out 8
          have hfz9_9 := blk_frozen BK137.out 9
          have hfz9_10 := blk_frozen BK137.out 10
          have hfz9_11 := blk_frozen BK137.out 11
          have hfz9_12 := blk_frozen BK137.out 12
          go_wp2
          go_meet
          case rel => exact ⟨_, (true), (by first | rfl | (simp; done) | (simp [*]; done)), H', ⟨by first | omega | exact Nat.le_refl _⟩, ⟨by (with_reducible repeat (first | refine blk_drewN ?_ _ | refine blk_drew ?_ | refine blk_alloc ?_ _)); exact BK137.out⟩, ⟨by repeat (first | (with_reducible first | exact HB.out | apply below_alloc | apply pw_below_drewN | apply below_drew1 | refine below_set ?_ GE137.out) | exact HB.out)⟩⟩
        · rw [if_neg c8] at H
          have c8b0 : decide (a0_1 < 1) = false := decide_eq_false c8
          clear c8
          by_cases c10 : a0_1 > 24
          · rw [if_pos c10] at H
            have c10b0 : decide (24 < a0_1) = true := decide_eq_true c10
            clear c10
            have H' := Aside0.mk H
            clear H
            have hcz11_0 : w3.cell? ⟨gb137, 0, none⟩ = some (.int .i64 a0_0) := (blk_cell BK137.out 0).trans rfl
            have hcz11_1 : w3.cell? ⟨gb137, 1, none⟩ = some (.int .i64 a0_1) := (blk_cell BK137.out 1).trans rfl
            have hcz11_2 : w3.cell? ⟨gb137, 2, none⟩ = some (.int .u64 a0_2) := (blk_cell BK137.out 2).trans rfl
            have hcz11_3 : w3.cell? ⟨gb137, 3, none⟩ = some (.int .i64 a0_3) := (blk_cell BK137.out 3).trans rfl
            have hcz11_4 : w3.cell? ⟨gb137, 4, none⟩ = some (.int .u64 a0_4) := (blk_cell BK137.out 4).trans rfl
            have hcz11_5 : w3.cell? ⟨gb137, 5, none⟩ = some (.int .u64 a0_5) := (blk_cell BK137.out 5).trans rfl
            have hcz11_6 : w3.cell? ⟨gb137, 6, none⟩ = some (.int .u64 a0_6) := (blk_cell BK137.out 6).trans rfl
            have hcz11_7 : w3.cell? ⟨gb137, 7, none⟩ = some (.int .i64 a0_7) := (blk_cell BK137.out 7).trans rfl
            have hcz11_8 : w3.cell? ⟨gb137, 8, none⟩ = some (.int .i64 a0_8) := (blk_cell BK137.out 8).trans rfl
            have hcz11_9 : w3.cell? ⟨gb137, 9, none⟩ = some (.string a0_9) := (blk_cell BK137.out 9).trans rfl
            have hcz11_10 : w3.cell? ⟨gb137, 10, none⟩ = some (.string a0_10) := (blk_cell BK137.out 10).trans rfl
            have hcz11_11 : w3.cell? ⟨gb137, 11, none⟩ = some (.string a0_11) := (blk_cell BK137.out 11).trans rfl
            have hcz11_12 : w3.cell? ⟨gb137, 12, none⟩ = some (.slice A0_12 l0_12.length c0_12) := (blk_cell BK137.out 12).trans rfl
            have hfz11_0 := blk_frozen BK137.out 0
            have hfz11_1 := blk_frozen BK137.out 1
            have hfz11_2 := blk_frozen BK137.out 2
            have hfz11_3 := blk_frozen BK137.out 3
            have hfz11_4 := blk_frozen BK137.out 4
            have hfz11_5 := blk_frozen BK137.out 5
            have hfz11_6 := blk_frozen BK137.out 6
            have hfz11_7 := blk_frozen BK137.out 7
            have hfz11_8 := blk_frozen BK137.out 8
            have hfz11_9 := blk_frozen BK137.out 9
            have hfz11_10 := blk_frozen BK137.out 10
            have hfz11_11 := blk_frozen BK137.out 11
            have hfz11_12 := blk_frozen BK137.out 12
            go_wp2
            go_meet
            case rel => exact ⟨_, (true), (by first | rfl | (simp; done) | (simp [*]; done)), H', ⟨by first | omega | exact Nat.le_refl _⟩, ⟨by (with_reducible repeat (first | refine blk_drewN ?_ _ | refine blk_drew ?_ | refine blk_alloc ?_ _)); exact BK137.out⟩, ⟨by repeat (first | (with_reducible first | exact HB.out | apply below_alloc | apply pw_below_drewN | apply below_drew1 | refine below_set ?_ GE137.out) | exact HB.out)⟩⟩
          · rw [if_neg c10] at H
            have c10b0 : decide (24 < a0_1) = false := decide_eq_false c10
            clear c10
            by_cases c12 : a0_0 = 2
            · rw [if_pos c12] at H
              have c12b0 : (a0_0 == 2) = true := beq_iff_eq.mpr c12
              have c12b1 : (a0_0 != 2) = false := bne_eq_false_iff_eq.mpr c12
              clear c12
              have H' := Aside0.mk H
              clear H
              have hcz13_0 : w3.cell? ⟨gb137, 0, none⟩ = some (.int .i64 a0_0) := (blk_cell BK137.out 0).trans rfl
              have hcz13_1 : w3.cell? ⟨gb137, 1, none⟩ = some (.int .i64 a0_1) := (blk_cell BK137.out 1).trans rfl
              have hcz13_2 : w3.cell? ⟨gb137, 2, none⟩ = some (.int .u64 a0_2) := (blk_cell BK137.out 2).trans rfl
              have hcz13_3 : w3.cell? ⟨gb137, 3, none⟩ = some (.int .i64 a0_3) := (blk_cell BK137.out 3).trans rfl
              have hcz13_4 : w3.cell? ⟨gb137, 4, none⟩ = some (.int .u64 a0_4) := (blk_cell BK137.out 4).trans rfl
              have hcz13_5 : w3.cell? ⟨gb137, 5, none⟩ = some (.int .u64 a0_5) := (blk_cell BK137.out 5).trans rfl
              have hcz13_6 : w3.cell? ⟨gb137, 6, none⟩ = some (.int .u64 a0_6) := (blk_cell BK137.out 6).trans rfl
              have hcz13_7 : w3.cell? ⟨gb137, 7, none⟩ = some (.int .i64 a0_7) := (blk_cell BK137.out 7).trans rfl
              have hcz13_8 : w3.cell? ⟨gb137, 8, none⟩ = some (.int .i64 a0_8) := (blk_cell BK137.out 8).trans rfl
              have hcz13_9 : w3.cell? ⟨gb137, 9, none⟩ = some (.string a0_9) := (blk_cell BK137.out 9).trans rfl
              have hcz13_10 : w3.cell? ⟨gb137, 10, none⟩ = some (.string a0_10) := (blk_cell BK137.out 10).trans rfl
              have hcz13_11 : w3.cell? ⟨gb137, 11, none⟩ = some (.string a0_11) := (blk_cell BK137.out 11).trans rfl
              have hcz13_12 : w3.cell? ⟨gb137, 12, none⟩ = some (.slice A0_12 l0_12.length c0_12) := (blk_cell BK137.out 12).trans rfl
              have hfz13_0 := blk_frozen BK137.out 0
              have hfz13_1 := blk_frozen BK137.out 1
              have hfz13_2 := blk_frozen BK137.out 2
              have hfz13_3 := blk_frozen BK137.out 3
              have hfz13_4 := blk_frozen BK137.out 4
              have hfz13_5 := blk_frozen BK137.out 5
              have hfz13_6 := blk_frozen BK137.out 6
              have hfz13_7 := blk_frozen BK137.out 7
              have hfz13_8 := blk_frozen BK137.out 8
              have hfz13_9 := blk_frozen BK137.out 9
              have hfz13_10 := blk_frozen BK137.out 10
              have hfz13_11 := blk_frozen BK137.out 11
              have hfz13_12 := blk_frozen BK137.out 12
              go_wp2
              go_meet
              case rel => exact ⟨_, (false), (by first | rfl | (simp; done) | (simp [*]; done)), H', ⟨by first | omega | exact Nat.le_refl _⟩, ⟨by (with_reducible repeat (first | refine blk_drewN ?_ _ | refine blk_drew ?_ | refine blk_alloc ?_ _)); exact BK137.out⟩, ⟨by repeat (first | (with_reducible first | exact HB.out | apply below_alloc | apply pw_below_drewN | apply below_drew1 | refine below_set ?_ GE137.out) | exact HB.out)⟩⟩
            · rw [if_neg c12] at H
              have c12b0 : (a0_0 == 2) = false := beq_eq_false_iff_ne.mpr c12
              have c12b1 : (a0_0 != 2) = true := bne_iff_ne.mpr c12
              have H' := Aside0.mk H
              clear H
              have hcz14_0 : w3.cell? ⟨gb137, 0, none⟩ = some (.int .i64 a0_0) := (blk_cell BK137.out 0).trans rfl
              have hcz14_1 : w3.cell? ⟨gb137, 1, none⟩ = some (.int .i64 a0_1) := (blk_cell BK137.out 1).trans rfl
              have hcz14_2 : w3.cell? ⟨gb137, 2, none⟩ = some (.int .u64 a0_2) := (blk_cell BK137.out 2).trans rfl
              have hcz14_3 : w3.cell? ⟨gb137, 3, none⟩ = some (.int .i64 a0_3) := (blk_cell BK137.out 3).trans rfl
              have hcz14_4 : w3.cell? ⟨gb137, 4, none⟩ = some (.int .u64 a0_4) := (blk_cell BK137.out 4).trans rfl
              have hcz14_5 : w3.cell? ⟨gb137, 5, none⟩ = some (.int .u64 a0_5) := (blk_cell BK137.out 5).trans rfl
              have hcz14_6 : w3.cell? ⟨gb137, 6, none⟩ = some (.int .u64 a0_6) := (blk_cell BK137.out 6).trans rfl
              have hcz14_7 : w3.cell? ⟨gb137, 7, none⟩ = some (.int .i64 a0_7) := (blk_cell BK137.out 7).trans rfl
              have hcz14_8 : w3.cell? ⟨gb137, 8, none⟩ = some (.int .i64 a0_8) := (blk_cell BK137.out 8).trans rfl
              have hcz14_9 : w3.cell? ⟨gb137, 9, none⟩ = some (.string a0_9) := (blk_cell BK137.out 9).trans rfl
              have hcz14_10 : w3.cell? ⟨gb137, 10, none⟩ = some (.string a0_10) := (blk_cell BK137.out 10).trans rfl
              have hcz14_11 : w3.cell? ⟨gb137, 11, none⟩ = some (.string a0_11) := (blk_cell BK137.out 11).trans rfl
              have hcz14_12 : w3.cell? ⟨gb137, 12, none⟩ = some (.slice A0_12 l0_12.length c0_12) := (blk_cell BK137.out 12).trans rfl
              have hfz14_0 := blk_frozen BK137.out 0
              have hfz14_1 := blk_frozen BK137.out 1
              have hfz14_2 := blk_frozen BK137.out 2
              have hfz14_3 := blk_frozen BK137.out 3
              have hfz14_4 := blk_frozen BK137.out 4
              have hfz14_5 := blk_frozen BK137.out 5
              have hfz14_6 := blk_frozen BK137.out 6
              have hfz14_7 := blk_frozen BK137.out 7
              have hfz14_8 := blk_frozen BK137.out 8
              have hfz14_9 := blk_frozen BK137.out 9
              have hfz14_10 := blk_frozen BK137.out 10
              have hfz14_11 := blk_frozen BK137.out 11
              have hfz14_12 := blk_frozen BK137.out 12
              go_wp2
              go_meet
              case rel => exact ⟨_, (decide (a0_1 > 16)), (by first | rfl | (simp; done) | (simp [*]; done)), H', ⟨by first | omega | exact Nat.le_refl _⟩, ⟨by (with_reducible repeat (first | refine blk_drewN ?_ _ | refine blk_drew ?_ | refine blk_alloc ?_ _)); exact BK137.out⟩, ⟨by repeat (first | (with_reducible first | exact HB.out | apply below_alloc | apply pw_below_drewN | apply below_drew1 | refine below_set ?_ GE137.out) | exact HB.out)⟩⟩
  case rest =>
    clear HC2
    try clear c1
    try clear p2
    try clear c4
    try clear c4b0
    try clear c6
    try clear c6b0
    try clear c8
    try clear c8b0
    try clear c10
    try clear c10b0
    try clear c12
    try clear c12b0
    try clear c12b1
    try clear hcz11_0
    try clear hcz11_1
    try clear hcz11_10
    try clear hcz11_11
    try clear hcz11_12
    try clear hcz11_2
    try clear hcz11_3
    try clear hcz11_4
    try clear hcz11_5
    try clear hcz11_6
    try clear hcz11_7
    try clear hcz11_8
    try clear hcz11_9
    try clear hcz13_0
    try clear hcz13_1
    try clear hcz13_10
    try clear hcz13_11
    try clear hcz13_12
    try clear hcz13_2
    try clear hcz13_3
    try clear hcz13_4
    try clear hcz13_5
    try clear hcz13_6
    try clear hcz13_7
    try clear hcz13_8
    try clear hcz13_9
    try clear hcz14_0
    try clear hcz14_1
    try clear hcz14_10
    try clear hcz14_11
    try clear hcz14_12
    try clear hcz14_2
    try clear hcz14_3
    try clear hcz14_4
    try clear hcz14_5
    try clear hcz14_6
    try clear hcz14_7
    try clear hcz14_8
    try clear hcz14_9
    try clear hcz5_0
    try clear hcz5_1
    try clear hcz5_10
    try clear hcz5_11
    try clear hcz5_12
    try clear hcz5_2
    try clear hcz5_3
    try clear hcz5_4
    try clear hcz5_5
    try clear hcz5_6
    try clear hcz5_7
    try clear hcz5_8
    try clear hcz5_9
    try clear hcz7_0
    try clear hcz7_1
    try clear hcz7_10
    try clear hcz7_11
    try clear hcz7_12
    try clear hcz7_2
    try clear hcz7_3
    try clear hcz7_4
    try clear hcz7_5
    try clear hcz7_6
    try clear hcz7_7
    try clear hcz7_8
    try clear hcz7_9
    try clear hcz9_0
    try clear hcz9_1
    try clear hcz9_10
    try clear hcz9_11
    try clear hcz9_12
    try clear hcz9_2
    try clear hcz9_3
    try clear hcz9_4
    try clear hcz9_5
    try clear hcz9_6
    try clear hcz9_7
    try clear hcz9_8
    try clear hcz9_9
    try clear hfz11_0
    try clear hfz11_1
    try clear hfz11_10
    try clear hfz11_11
    try clear hfz11_12
    try clear hfz11_2
    try clear hfz11_3
    try clear hfz11_4
    try clear hfz11_5
    try clear hfz11_6
    try clear hfz11_7
    try clear hfz11_8
    try clear hfz11_9
    try clear hfz13_0
    try clear hfz13_1
    try clear hfz13_10
    try clear hfz13_11
    try clear hfz13_12
    try clear hfz13_2
    try clear hfz13_3
    try clear hfz13_4
    try clear hfz13_5
    try clear hfz13_6
    try clear hfz13_7
    try clear hfz13_8
    try clear hfz13_9
    try clear hfz14_0
    try clear hfz14_1
    try clear hfz14_10
    try clear hfz14_11
    try clear hfz14_12
    try clear hfz14_2
    try clear hfz14_3
    try clear hfz14_4
    try clear hfz14_5
    try clear hfz14_6
    try clear hfz14_7
    try clear hfz14_8
    try clear hfz14_9
    try clear hfz5_0
    try clear hfz5_1
    try clear hfz5_10
    try clear hfz5_11
    try clear hfz5_12
    try clear hfz5_2
    try clear hfz5_3
    try clear hfz5_4
    try clear hfz5_5
    try clear hfz5_6
    try clear hfz5_7
    try clear hfz5_8
    try clear hfz5_9
    try clear hfz7_0
    try clear hfz7_1
    try clear hfz7_10
    try clear hfz7_11
    try clear hfz7_12
    try clear hfz7_2
    try clear hfz7_3
    try clear hfz7_4
    try clear hfz7_5
    try clear hfz7_6
    try clear hfz7_7
    try clear hfz7_8
    try clear hfz7_9
    try clear hfz9_0
    try clear hfz9_1
    try clear hfz9_10
    try clear hfz9_11
    try clear hfz9_12
    try clear hfz9_2
    try clear hfz9_3
    try clear hfz9_4
    try clear hfz9_5
    try clear hfz9_6
    try clear hfz9_7
    try clear hfz9_8
    try clear hfz9_9
    obtain ⟨kq, x33_1, rfl, HA, HJ1, BK137, HB⟩ := hcut
    cases kq with
    | zero => exact absurd HA.out (by simp [wherryref12_May.j0])
    | succ kj1 =>
      have H := HA.out
      clear HA
      simp only [wherryref12_May.j0] at H
      by_cases c15 : x33_1 = true
      · subst c15
        have H1 : (some false) = some r := by rw [if_pos rfl] at H; exact H
        clear H
        have H := H1
        clear H1
        obtain rfl := Option.some.inj H
        go_wp2
        go_ret
        exact ⟨by first | rfl | (simp [errW_none, errW_some] <;> rfl) | (simp [*, errW_none, errW_some] <;> rfl), by repeat (first | (with_reducible first | exact HB.out | apply below_alloc | apply pw_below_drewN | apply below_drew1 | refine below_set ?_ GE137.out) | exact HB.out)⟩
      · replace c15 := Bool.eq_false_iff.mpr c15
        subst c15
        have H1 : (if a0_0 = 1 then (if a0_2 = 0 then (if a0_3 < 0 then (wherryref12_May.j1 kj1 true a0_0 a0_1 a0_2 a0_3 a0_4 a0_5 a0_6 a0_7 a0_8 a0_9 a0_10 a0_11 l0_12) else (wherryref12_May.j1 kj1 (decide (a0_3 > 1099511627776)) a0_0 a0_1 a0_2 a0_3 a0_4 a0_5 a0_6 a0_7 a0_8 a0_9 a0_10 a0_11 l0_12)) else (wherryref12_May.j1 kj1 true a0_0 a0_1 a0_2 a0_3 a0_4 a0_5 a0_6 a0_7 a0_8 a0_9 a0_10 a0_11 l0_12)) else (if a0_2 = 0 then (wherryref12_May.j1 kj1 true a0_0 a0_1 a0_2 a0_3 a0_4 a0_5 a0_6 a0_7 a0_8 a0_9 a0_10 a0_11 l0_12) else (if a0_3 < 0 then (wherryref12_May.j1 kj1 true a0_0 a0_1 a0_2 a0_3 a0_4 a0_5 a0_6 a0_7 a0_8 a0_9 a0_10 a0_11 l0_12) else (wherryref12_May.j1 kj1 (decide (a0_3 > 1099511627776)) a0_0 a0_1 a0_2 a0_3 a0_4 a0_5 a0_6 a0_7 a0_8 a0_9 a0_10 a0_11 l0_12)))) = some r := by rw [if_neg (show ¬ (false = true) by decide)] at H; exact H
        clear H
        have H := H1
        clear H1
        have HC16 := Aside0.mk H
        clear H
        go_upto_region 3 with (fail)
        go_cut [61] (fun v61 wc => ∃ (kq : Nat) (x61_15 : Bool), v61 = .bool x61_15 ∧ Aside0 (wherryref12_May.j1 kq x61_15 a0_0 a0_1 a0_2 a0_3 a0_4 a0_5 a0_6 a0_7 a0_8 a0_9 a0_10 a0_11 l0_12 = some r) ∧ Aside0 (kq ≤ kj1) ∧ Aside0 (wc.heap[gb137]? = some (.cells #[.int .i64 a0_0, .int .i64 a0_1, .int .u64 a0_2, .int .i64 a0_3, .int .u64 a0_4, .int .u64 a0_5, .int .u64 a0_6, .int .i64 a0_7, .int .i64 a0_8, .string a0_9, .string a0_10, .string a0_11, (.slice A0_12 l0_12.length c0_12)] 25 (0, 0))) ∧ Aside0 (Below w.heap.size w wc))
        case first =>
          have H := HC16.out
          clear HC16
          by_cases c17 : a0_0 = 1
          · rw [if_pos c17] at H
            have c17b0 : (a0_0 == 1) = true := beq_iff_eq.mpr c17
            have c17b1 : (a0_0 != 1) = false := bne_eq_false_iff_eq.mpr c17
            clear c17
            (first | rw [c17b0] | (simp only [i64_w, i32_w]; rw [c17b0]) | skip)
            by_cases c18 : a0_2 = 0
            · rw [if_pos c18] at H
              have c18b0 : (a0_2 == 0) = true := beq_iff_eq.mpr c18
              have c18b1 : (a0_2 != 0) = false := bne_eq_false_iff_eq.mpr c18
              clear c18
              by_cases c19 : a0_3 < 0
              · rw [if_pos c19] at H
                have c19b0 : decide (a0_3 < 0) = true := decide_eq_true c19
                clear c19
                have H' := Aside0.mk H
                clear H
                have hcz20_0 : wc.cell? ⟨gb137, 0, none⟩ = some (.int .i64 a0_0) := (blk_cell BK137.out 0).trans rfl
                have hcz20_1 : wc.cell? ⟨gb137, 1, none⟩ = some (.int .i64 a0_1) := (blk_cell BK137.out 1).trans rfl
                have hcz20_2 : wc.cell? ⟨gb137, 2, none⟩ = some (.int .u64 a0_2) := (blk_cell BK137.out 2).trans rfl
                have hcz20_3 : wc.cell? ⟨gb137, 3, none⟩ = some (.int .i64 a0_3) := (blk_cell BK137.out 3).trans rfl
                have hcz20_4 : wc.cell? ⟨gb137, 4, none⟩ = some (.int .u64 a0_4) := (blk_cell BK137.out 4).trans rfl
                have hcz20_5 : wc.cell? ⟨gb137, 5, none⟩ = some (.int .u64 a0_5) := (blk_cell BK137.out 5).trans rfl
                have hcz20_6 : wc.cell? ⟨gb137, 6, none⟩ = some (.int .u64 a0_6) := (blk_cell BK137.out 6).trans rfl
                have hcz20_7 : wc.cell? ⟨gb137, 7, none⟩ = some (.int .i64 a0_7) := (blk_cell BK137.out 7).trans rfl
                have hcz20_8 : wc.cell? ⟨gb137, 8, none⟩ = some (.int .i64 a0_8) := (blk_cell BK137.out 8).trans rfl
                have hcz20_9 : wc.cell? ⟨gb137, 9, none⟩ = some (.string a0_9) := (blk_cell BK137.out 9).trans rfl
                have hcz20_10 : wc.cell? ⟨gb137, 10, none⟩ = some (.string a0_10) := (blk_cell BK137.out 10).trans rfl
                have hcz20_11 : wc.cell? ⟨gb137, 11, none⟩ = some (.string a0_11) := (blk_cell BK137.out 11).trans rfl
                have hcz20_12 : wc.cell? ⟨gb137, 12, none⟩ = some (.slice A0_12 l0_12.length c0_12) := (blk_cell BK137.out 12).trans rfl
                have hfz20_0 := blk_frozen BK137.out 0
                have hfz20_1 := blk_frozen BK137.out 1
                have hfz20_2 := blk_frozen BK137.out 2
                have hfz20_3 := blk_frozen BK137.out 3
                have hfz20_4 := blk_frozen BK137.out 4
                have hfz20_5 := blk_frozen BK137.out 5
                have hfz20_6 := blk_frozen BK137.out 6
                have hfz20_7 := blk_frozen BK137.out 7
                have hfz20_8 := blk_frozen BK137.out 8
                have hfz20_9 := blk_frozen BK137.out 9
                have hfz20_10 := blk_frozen BK137.out 10
                have hfz20_11 := blk_frozen BK137.out 11
                have hfz20_12 := blk_frozen BK137.out 12
                go_wp2
                go_meet
                case rel => exact ⟨_, (true), (by first | rfl | (simp; done) | (simp [*]; done)), H', ⟨by have := HJ1.out; first | omega | exact Nat.le_refl _⟩, ⟨by (with_reducible repeat (first | refine blk_drewN ?_ _ | refine blk_drew ?_ | refine blk_alloc ?_ _)); exact BK137.out⟩, ⟨by repeat (first | (with_reducible first | exact HB.out | apply below_alloc | apply pw_below_drewN | apply below_drew1 | refine below_set ?_ GE137.out) | exact HB.out)⟩⟩
              · rw [if_neg c19] at H
                have c19b0 : decide (a0_3 < 0) = false := decide_eq_false c19
                clear c19
                have H' := Aside0.mk H
                clear H
                have hcz21_0 : wc.cell? ⟨gb137, 0, none⟩ = some (.int .i64 a0_0) := (blk_cell BK137.out 0).trans rfl
                have hcz21_1 : wc.cell? ⟨gb137, 1, none⟩ = some (.int .i64 a0_1) := (blk_cell BK137.out 1).trans rfl
                have hcz21_2 : wc.cell? ⟨gb137, 2, none⟩ = some (.int .u64 a0_2) := (blk_cell BK137.out 2).trans rfl
                have hcz21_3 : wc.cell? ⟨gb137, 3, none⟩ = some (.int .i64 a0_3) := (blk_cell BK137.out 3).trans rfl
                have hcz21_4 : wc.cell? ⟨gb137, 4, none⟩ = some (.int .u64 a0_4) := (blk_cell BK137.out 4).trans rfl
                have hcz21_5 : wc.cell? ⟨gb137, 5, none⟩ = some (.int .u64 a0_5) := (blk_cell BK137.out 5).trans rfl
                have hcz21_6 : wc.cell? ⟨gb137, 6, none⟩ = some (.int .u64 a0_6) := (blk_cell BK137.out 6).trans rfl
                have hcz21_7 : wc.cell? ⟨gb137, 7, none⟩ = some (.int .i64 a0_7) := (blk_cell BK137.out 7).trans rfl
                have hcz21_8 : wc.cell? ⟨gb137, 8, none⟩ = some (.int .i64 a0_8) := (blk_cell BK137.out 8).trans rfl
                have hcz21_9 : wc.cell? ⟨gb137, 9, none⟩ = some (.string a0_9) := (blk_cell BK137.out 9).trans rfl
                have hcz21_10 : wc.cell? ⟨gb137, 10, none⟩ = some (.string a0_10) := (blk_cell BK137.out 10).trans rfl
                have hcz21_11 : wc.cell? ⟨gb137, 11, none⟩ = some (.string a0_11) := (blk_cell BK137.out 11).trans rfl
                have hcz21_12 : wc.cell? ⟨gb137, 12, none⟩ = some (.slice A0_12 l0_12.length c0_12) := (blk_cell BK137.out 12).trans rfl
                have hfz21_0 := blk_frozen BK137.out 0
                have hfz21_1 := blk_frozen BK137.out 1
                have hfz21_2 := blk_frozen BK137.out 2
                have hfz21_3 := blk_frozen BK137.out 3
                have hfz21_4 := blk_frozen BK137.out 4
                have hfz21_5 := blk_frozen BK137.out 5
                have hfz21_6 := blk_frozen BK137.out 6
                have hfz21_7 := blk_frozen BK137.out 7
                have hfz21_8 := blk_frozen BK137.out 8
                have hfz21_9 := blk_frozen BK137.out 9
                have hfz21_10 := blk_frozen BK137.out 10
                have hfz21_11 := blk_frozen BK137.out 11
                have hfz21_12 := blk_frozen BK137.out 12
                go_wp2
                go_meet
                case rel => exact ⟨_, (decide (a0_3 > 1099511627776)), (by first | rfl | (simp; done) | (simp [*]; done)), H', ⟨by have := HJ1.out; first | omega | exact Nat.le_refl _⟩, ⟨by (with_reducible repeat (first | refine blk_drewN ?_ _ | refine blk_drew ?_ | refine blk_alloc ?_ _)); exact BK137.out⟩, ⟨by repeat (first | (with_reducible first | exact HB.out | apply below_alloc | apply pw_below_drewN | apply below_drew1 | refine below_set ?_ GE137.out) | exact HB.out)⟩⟩
            · rw [if_neg c18] at H
              have c18b0 : (a0_2 == 0) = false := beq_eq_false_iff_ne.mpr c18
              have c18b1 : (a0_2 != 0) = true := bne_iff_ne.mpr c18
              have H' := Aside0.mk H
              clear H
              have hcz22_0 : wc.cell? ⟨gb137, 0, none⟩ = some (.int .i64 a0_0) := (blk_cell BK137.out 0).trans rfl
              have hcz22_1 : wc.cell? ⟨gb137, 1, none⟩ = some (.int .i64 a0_1) := (blk_cell BK137.out 1).trans rfl
              have hcz22_2 : wc.cell? ⟨gb137, 2, none⟩ = some (.int .u64 a0_2) := (blk_cell BK137.out 2).trans rfl
              have hcz22_3 : wc.cell? ⟨gb137, 3, none⟩ = some (.int .i64 a0_3) := (blk_cell BK137.out 3).trans rfl
              have hcz22_4 : wc.cell? ⟨gb137, 4, none⟩ = some (.int .u64 a0_4) := (blk_cell BK137.out 4).trans rfl
              have hcz22_5 : wc.cell? ⟨gb137, 5, none⟩ = some (.int .u64 a0_5) := (blk_cell BK137.out 5).trans rfl
              have hcz22_6 : wc.cell? ⟨gb137, 6, none⟩ = some (.int .u64 a0_6) := (blk_cell BK137.out 6).trans rfl
              have hcz22_7 : wc.cell? ⟨gb137, 7, none⟩ = some (.int .i64 a0_7) := (blk_cell BK137.out 7).trans rfl
              have hcz22_8 : wc.cell? ⟨gb137, 8, none⟩ = some (.int .i64 a0_8) := (blk_cell BK137.out 8).trans rfl
              have hcz22_9 : wc.cell? ⟨gb137, 9, none⟩ = some (.string a0_9) := (blk_cell BK137.out 9).trans rfl
              have hcz22_10 : wc.cell? ⟨gb137, 10, none⟩ = some (.string a0_10) := (blk_cell BK137.out 10).trans rfl
              have hcz22_11 : wc.cell? ⟨gb137, 11, none⟩ = some (.string a0_11) := (blk_cell BK137.out 11).trans rfl
              have hcz22_12 : wc.cell? ⟨gb137, 12, none⟩ = some (.slice A0_12 l0_12.length c0_12) := (blk_cell BK137.out 12).trans rfl
              have hfz22_0 := blk_frozen BK137.out 0
              have hfz22_1 := blk_frozen BK137.out 1
              have hfz22_2 := blk_frozen BK137.out 2
              have hfz22_3 := blk_frozen BK137.out 3
              have hfz22_4 := blk_frozen BK137.out 4
              have hfz22_5 := blk_frozen BK137.out 5
              have hfz22_6 := blk_frozen BK137.out 6
              have hfz22_7 := blk_frozen BK137.out 7
              have hfz22_8 := blk_frozen BK137.out 8
              have hfz22_9 := blk_frozen BK137.out 9
              have hfz22_10 := blk_frozen BK137.out 10
              have hfz22_11 := blk_frozen BK137.out 11
              have hfz22_12 := blk_frozen BK137.out 12
              go_wp2
              go_meet
              case rel => exact ⟨_, (true), (by first | rfl | (simp; done) | (simp [*]; done)), H', ⟨by have := HJ1.out; first | omega | exact Nat.le_refl _⟩, ⟨by (with_reducible repeat (first | refine blk_drewN ?_ _ | refine blk_drew ?_ | refine blk_alloc ?_ _)); exact BK137.out⟩, ⟨by repeat (first | (with_reducible first | exact HB.out | apply below_alloc | apply pw_below_drewN | apply below_drew1 | refine below_set ?_ GE137.out) | exact HB.out)⟩⟩
          · rw [if_neg c17] at H
            have c17b0 : (a0_0 == 1) = false := beq_eq_false_iff_ne.mpr c17
            have c17b1 : (a0_0 != 1) = true := bne_iff_ne.mpr c17
            (first | rw [c17b0] | (simp only [i64_w, i32_w]; rw [c17b0]) | skip)
            by_cases c23 : a0_2 = 0
            · rw [if_pos c23] at H
              have c23b0 : (a0_2 == 0) = true := beq_iff_eq.mpr c23
              have c23b1 : (a0_2 != 0) = false := bne_eq_false_iff_eq.mpr c23
              clear c23
              have H' := Aside0.mk H
              clear H
              have hcz24_0 : wc.cell? ⟨gb137, 0, none⟩ = some (.int .i64 a0_0) := (blk_cell BK137.out 0).trans rfl
              have hcz24_1 : wc.cell? ⟨gb137, 1, none⟩ = some (.int .i64 a0_1) := (blk_cell BK137.out 1).trans rfl
              have hcz24_2 : wc.cell? ⟨gb137, 2, none⟩ = some (.int .u64 a0_2) := (blk_cell BK137.out 2).trans rfl
              have hcz24_3 : wc.cell? ⟨gb137, 3, none⟩ = some (.int .i64 a0_3) := (blk_cell BK137.out 3).trans rfl
              have hcz24_4 : wc.cell? ⟨gb137, 4, none⟩ = some (.int .u64 a0_4) := (blk_cell BK137.out 4).trans rfl
              have hcz24_5 : wc.cell? ⟨gb137, 5, none⟩ = some (.int .u64 a0_5) := (blk_cell BK137.out 5).trans rfl
              have hcz24_6 : wc.cell? ⟨gb137, 6, none⟩ = some (.int .u64 a0_6) := (blk_cell BK137.out 6).trans rfl
              have hcz24_7 : wc.cell? ⟨gb137, 7, none⟩ = some (.int .i64 a0_7) := (blk_cell BK137.out 7).trans rfl
              have hcz24_8 : wc.cell? ⟨gb137, 8, none⟩ = some (.int .i64 a0_8) := (blk_cell BK137.out 8).trans rfl
              have hcz24_9 : wc.cell? ⟨gb137, 9, none⟩ = some (.string a0_9) := (blk_cell BK137.out 9).trans rfl
              have hcz24_10 : wc.cell? ⟨gb137, 10, none⟩ = some (.string a0_10) := (blk_cell BK137.out 10).trans rfl
              have hcz24_11 : wc.cell? ⟨gb137, 11, none⟩ = some (.string a0_11) := (blk_cell BK137.out 11).trans rfl
              have hcz24_12 : wc.cell? ⟨gb137, 12, none⟩ = some (.slice A0_12 l0_12.length c0_12) := (blk_cell BK137.out 12).trans rfl
              have hfz24_0 := blk_frozen BK137.out 0
              have hfz24_1 := blk_frozen BK137.out 1
              have hfz24_2 := blk_frozen BK137.out 2
              have hfz24_3 := blk_frozen BK137.out 3
              have hfz24_4 := blk_frozen BK137.out 4
              have hfz24_5 := blk_frozen BK137.out 5
              have hfz24_6 := blk_frozen BK137.out 6
              have hfz24_7 := blk_frozen BK137.out 7
              have hfz24_8 := blk_frozen BK137.out 8
              have hfz24_9 := blk_frozen BK137.out 9
              have hfz24_10 := blk_frozen BK137.out 10
              have hfz24_11 := blk_frozen BK137.out 11
              have hfz24_12 := blk_frozen BK137.out 12
              go_wp2
              go_meet
              case rel => exact ⟨_, (true), (by first | rfl | (simp; done) | (simp [*]; done)), H', ⟨by have := HJ1.out; first | omega | exact Nat.le_refl _⟩, ⟨by (with_reducible repeat (first | refine blk_drewN ?_ _ | refine blk_drew ?_ | refine blk_alloc ?_ _)); exact BK137.out⟩, ⟨by repeat (first | (with_reducible first | exact HB.out | apply below_alloc | apply pw_below_drewN | apply below_drew1 | refine below_set ?_ GE137.out) | exact HB.out)⟩⟩
            · rw [if_neg c23] at H
              have c23b0 : (a0_2 == 0) = false := beq_eq_false_iff_ne.mpr c23
              have c23b1 : (a0_2 != 0) = true := bne_iff_ne.mpr c23
              by_cases c25 : a0_3 < 0
              · rw [if_pos c25] at H
                have c25b0 : decide (a0_3 < 0) = true := decide_eq_true c25
                clear c25
                have H' := Aside0.mk H
                clear H
                have hcz26_0 : wc.cell? ⟨gb137, 0, none⟩ = some (.int .i64 a0_0) := (blk_cell BK137.out 0).trans rfl
                have hcz26_1 : wc.cell? ⟨gb137, 1, none⟩ = some (.int .i64 a0_1) := (blk_cell BK137.out 1).trans rfl
                have hcz26_2 : wc.cell? ⟨gb137, 2, none⟩ = some (.int .u64 a0_2) := (blk_cell BK137.out 2).trans rfl
                have hcz26_3 : wc.cell? ⟨gb137, 3, none⟩ = some (.int .i64 a0_3) := (blk_cell BK137.out 3).trans rfl
                have hcz26_4 : wc.cell? ⟨gb137, 4, none⟩ = some (.int .u64 a0_4) := (blk_cell BK137.out 4).trans rfl
                have hcz26_5 : wc.cell? ⟨gb137, 5, none⟩ = some (.int .u64 a0_5) := (blk_cell BK137.out 5).trans rfl
                have hcz26_6 : wc.cell? ⟨gb137, 6, none⟩ = some (.int .u64 a0_6) := (blk_cell BK137.out 6).trans rfl
                have hcz26_7 : wc.cell? ⟨gb137, 7, none⟩ = some (.int .i64 a0_7) := (blk_cell BK137.out 7).trans rfl
                have hcz26_8 : wc.cell? ⟨gb137, 8, none⟩ = some (.int .i64 a0_8) := (blk_cell BK137.out 8).trans rfl
                have hcz26_9 : wc.cell? ⟨gb137, 9, none⟩ = some (.string a0_9) := (blk_cell BK137.out 9).trans rfl
                have hcz26_10 : wc.cell? ⟨gb137, 10, none⟩ = some (.string a0_10) := (blk_cell BK137.out 10).trans rfl
                have hcz26_11 : wc.cell? ⟨gb137, 11, none⟩ = some (.string a0_11) := (blk_cell BK137.out 11).trans rfl
                have hcz26_12 : wc.cell? ⟨gb137, 12, none⟩ = some (.slice A0_12 l0_12.length c0_12) := (blk_cell BK137.out 12).trans rfl
                have hfz26_0 := blk_frozen BK137.out 0
                have hfz26_1 := blk_frozen BK137.out 1
                have hfz26_2 := blk_frozen BK137.out 2
                have hfz26_3 := blk_frozen BK137.out 3
                have hfz26_4 := blk_frozen BK137.out 4
                have hfz26_5 := blk_frozen BK137.out 5
                have hfz26_6 := blk_frozen BK137.out 6
                have hfz26_7 := blk_frozen BK137.out 7
                have hfz26_8 := blk_frozen BK137.out 8
                have hfz26_9 := blk_frozen BK137.out 9
                have hfz26_10 := blk_frozen BK137.out 10
                have hfz26_11 := blk_frozen BK137.out 11
                have hfz26_12 := blk_frozen BK137.out 12
                go_wp2
                go_meet
                case rel => exact ⟨_, (true), (by first | rfl | (simp; done) | (simp [*]; done)), H', ⟨by have := HJ1.out; first | omega | exact Nat.le_refl _⟩, ⟨by (with_reducible repeat (first | refine blk_drewN ?_ _ | refine blk_drew ?_ | refine blk_alloc ?_ _)); exact BK137.out⟩, ⟨by repeat (first | (with_reducible first | exact HB.out | apply below_alloc | apply pw_below_drewN | apply below_drew1 | refine below_set ?_ GE137.out) | exact HB.out)⟩⟩
              · rw [if_neg c25] at H
                have c25b0 : decide (a0_3 < 0) = false := decide_eq_false c25
                clear c25
                have H' := Aside0.mk H
                clear H
                have hcz27_0 : wc.cell? ⟨gb137, 0, none⟩ = some (.int .i64 a0_0) := (blk_cell BK137.out 0).trans rfl
                have hcz27_1 : wc.cell? ⟨gb137, 1, none⟩ = some (.int .i64 a0_1) := (blk_cell BK137.out 1).trans rfl
                have hcz27_2 : wc.cell? ⟨gb137, 2, none⟩ = some (.int .u64 a0_2) := (blk_cell BK137.out 2).trans rfl
                have hcz27_3 : wc.cell? ⟨gb137, 3, none⟩ = some (.int .i64 a0_3) := (blk_cell BK137.out 3).trans rfl
                have hcz27_4 : wc.cell? ⟨gb137, 4, none⟩ = some (.int .u64 a0_4) := (blk_cell BK137.out 4).trans rfl
                have hcz27_5 : wc.cell? ⟨gb137, 5, none⟩ = some (.int .u64 a0_5) := (blk_cell BK137.out 5).trans rfl
                have hcz27_6 : wc.cell? ⟨gb137, 6, none⟩ = some (.int .u64 a0_6) := (blk_cell BK137.out 6).trans rfl
                have hcz27_7 : wc.cell? ⟨gb137, 7, none⟩ = some (.int .i64 a0_7) := (blk_cell BK137.out 7).trans rfl
                have hcz27_8 : wc.cell? ⟨gb137, 8, none⟩ = some (.int .i64 a0_8) := (blk_cell BK137.out 8).trans rfl
                have hcz27_9 : wc.cell? ⟨gb137, 9, none⟩ = some (.string a0_9) := (blk_cell BK137.out 9).trans rfl
                have hcz27_10 : wc.cell? ⟨gb137, 10, none⟩ = some (.string a0_10) := (blk_cell BK137.out 10).trans rfl
                have hcz27_11 : wc.cell? ⟨gb137, 11, none⟩ = some (.string a0_11) := (blk_cell BK137.out 11).trans rfl
                have hcz27_12 : wc.cell? ⟨gb137, 12, none⟩ = some (.slice A0_12 l0_12.length c0_12) := (blk_cell BK137.out 12).trans rfl
                have hfz27_0 := blk_frozen BK137.out 0
                have hfz27_1 := blk_frozen BK137.out 1
                have hfz27_2 := blk_frozen BK137.out 2
                have hfz27_3 := blk_frozen BK137.out 3
                have hfz27_4 := blk_frozen BK137.out 4
                have hfz27_5 := blk_frozen BK137.out 5
                have hfz27_6 := blk_frozen BK137.out 6
                have hfz27_7 := blk_frozen BK137.out 7
                have hfz27_8 := blk_frozen BK137.out 8
                have hfz27_9 := blk_frozen BK137.out 9
                have hfz27_10 := blk_frozen BK137.out 10
                have hfz27_11 := blk_frozen BK137.out 11
                have hfz27_12 := blk_frozen BK137.out 12
                go_wp2
                go_meet
                case rel => exact ⟨_, (decide (a0_3 > 1099511627776)), (by first | rfl | (simp; done) | (simp [*]; done)), H', ⟨by have := HJ1.out; first | omega | exact Nat.le_refl _⟩, ⟨by (with_reducible repeat (first | refine blk_drewN ?_ _ | refine blk_drew ?_ | refine blk_alloc ?_ _)); exact BK137.out⟩, ⟨by repeat (first | (with_reducible first | exact HB.out | apply below_alloc | apply pw_below_drewN | apply below_drew1 | refine below_set ?_ GE137.out) | exact HB.out)⟩⟩
        case rest =>
          clear HC16
          try clear c1
          try clear c2
          try clear p2
          try clear c4
          try clear c4b0
          try clear c6
          try clear c6b0
          try clear c8
          try clear c8b0
          try clear c10
          try clear c10b0
          try clear c12
          try clear c12b0
          try clear c12b1
          try clear c15
          try clear c17
          try clear c17b0
          try clear c17b1
          try clear c18
          try clear c18b0
          try clear c18b1
          try clear c19
          try clear c19b0
          try clear c23
          try clear c23b0
          try clear c23b1
          try clear c25
          try clear c25b0
          try clear hcz11_0
          try clear hcz11_1
          try clear hcz11_10
          try clear hcz11_11
          try clear hcz11_12
          try clear hcz11_2
          try clear hcz11_3
          try clear hcz11_4
          try clear hcz11_5
          try clear hcz11_6
          try clear hcz11_7
          try clear hcz11_8
          try clear hcz11_9
          try clear hcz13_0
          try clear hcz13_1
          try clear hcz13_10
          try clear hcz13_11
          try clear hcz13_12
          try clear hcz13_2
          try clear hcz13_3
          try clear hcz13_4
          try clear hcz13_5
          try clear hcz13_6
          try clear hcz13_7
          try clear hcz13_8
          try clear hcz13_9
          try clear hcz14_0
          try clear hcz14_1
          try clear hcz14_10
          try clear hcz14_11
          try clear hcz14_12
          try clear hcz14_2
          try clear hcz14_3
          try clear hcz14_4
          try clear hcz14_5
          try clear hcz14_6
          try clear hcz14_7
          try clear hcz14_8
          try clear hcz14_9
          try clear hcz20_0
          try clear hcz20_1
          try clear hcz20_10
          try clear hcz20_11
          try clear hcz20_12
          try clear hcz20_2
          try clear hcz20_3
          try clear hcz20_4
          try clear hcz20_5
          try clear hcz20_6
          try clear hcz20_7
          try clear hcz20_8
          try clear hcz20_9
          try clear hcz21_0
          try clear hcz21_1
          try clear hcz21_10
          try clear hcz21_11
          try clear hcz21_12
          try clear hcz21_2
          try clear hcz21_3
          try clear hcz21_4
          try clear hcz21_5
          try clear hcz21_6
          try clear hcz21_7
          try clear hcz21_8
          try clear hcz21_9
          try clear hcz22_0
          try clear hcz22_1
          try clear hcz22_10
          try clear hcz22_11
          try clear hcz22_12
          try clear hcz22_2
          try clear hcz22_3
          try clear hcz22_4
          try clear hcz22_5
          try clear hcz22_6
          try clear hcz22_7
          try clear hcz22_8
          try clear hcz22_9
          try clear hcz24_0
          try clear hcz24_1
          try clear hcz24_10
          try clear hcz24_11
          try clear hcz24_12
          try clear hcz24_2
          try clear hcz24_3
          try clear hcz24_4
          try clear hcz24_5
          try clear hcz24_6
          try clear hcz24_7
          try clear hcz24_8
          try clear hcz24_9
          try clear hcz26_0
          try clear hcz26_1
          try clear hcz26_10
          try clear hcz26_11
          try clear hcz26_12
          try clear hcz26_2
          try clear hcz26_3
          try clear hcz26_4
          try clear hcz26_5
          try clear hcz26_6
          try clear hcz26_7
          try clear hcz26_8
          try clear hcz26_9
          try clear hcz27_0
          try clear hcz27_1
          try clear hcz27_10
          try clear hcz27_11
          try clear hcz27_12
          try clear hcz27_2
          try clear hcz27_3
          try clear hcz27_4
          try clear hcz27_5
          try clear hcz27_6
          try clear hcz27_7
          try clear hcz27_8
          try clear hcz27_9
          try clear hcz5_0
          try clear hcz5_1
          try clear hcz5_10
          try clear hcz5_11
          try clear hcz5_12
          try clear hcz5_2
          try clear hcz5_3
          try clear hcz5_4
          try clear hcz5_5
          try clear hcz5_6
          try clear hcz5_7
          try clear hcz5_8
          try clear hcz5_9
          try clear hcz7_0
          try clear hcz7_1
          try clear hcz7_10
          try clear hcz7_11
          try clear hcz7_12
          try clear hcz7_2
          try clear hcz7_3
          try clear hcz7_4
          try clear hcz7_5
          try clear hcz7_6
          try clear hcz7_7
          try clear hcz7_8
          try clear hcz7_9
          try clear hcz9_0
          try clear hcz9_1
          try clear hcz9_10
          try clear hcz9_11
          try clear hcz9_12
          try clear hcz9_2
          try clear hcz9_3
          try clear hcz9_4
          try clear hcz9_5
          try clear hcz9_6
          try clear hcz9_7
          try clear hcz9_8
          try clear hcz9_9
          try clear hfz11_0
          try clear hfz11_1
          try clear hfz11_10
          try clear hfz11_11
          try clear hfz11_12
          try clear hfz11_2
          try clear hfz11_3
          try clear hfz11_4
          try clear hfz11_5
          try clear hfz11_6
          try clear hfz11_7
          try clear hfz11_8
          try clear hfz11_9
          try clear hfz13_0
          try clear hfz13_1
          try clear hfz13_10
          try clear hfz13_11
          try clear hfz13_12
          try clear hfz13_2
          try clear hfz13_3
          try clear hfz13_4
          try clear hfz13_5
          try clear hfz13_6
          try clear hfz13_7
          try clear hfz13_8
          try clear hfz13_9
          try clear hfz14_0
          try clear hfz14_1
          try clear hfz14_10
          try clear hfz14_11
          try clear hfz14_12
          try clear hfz14_2
          try clear hfz14_3
          try clear hfz14_4
          try clear hfz14_5
          try clear hfz14_6
          try clear hfz14_7
          try clear hfz14_8
          try clear hfz14_9
          try clear hfz20_0
          try clear hfz20_1
          try clear hfz20_10
          try clear hfz20_11
          try clear hfz20_12
          try clear hfz20_2
          try clear hfz20_3
          try clear hfz20_4
          try clear hfz20_5
          try clear hfz20_6
          try clear hfz20_7
          try clear hfz20_8
          try clear hfz20_9
          try clear hfz21_0
          try clear hfz21_1
          try clear hfz21_10
          try clear hfz21_11
          try clear hfz21_12
          try clear hfz21_2
          try clear hfz21_3
          try clear hfz21_4
          try clear hfz21_5
          try clear hfz21_6
          try clear hfz21_7
          try clear hfz21_8
          try clear hfz21_9
          try clear hfz22_0
          try clear hfz22_1
          try clear hfz22_10
          try clear hfz22_11
          try clear hfz22_12
          try clear hfz22_2
          try clear hfz22_3
          try clear hfz22_4
          try clear hfz22_5
          try clear hfz22_6
          try clear hfz22_7
          try clear hfz22_8
          try clear hfz22_9
          try clear hfz24_0
          try clear hfz24_1
          try clear hfz24_10
          try clear hfz24_11
          try clear hfz24_12
          try clear hfz24_2
          try clear hfz24_3
          try clear hfz24_4
          try clear hfz24_5
          try clear hfz24_6
          try clear hfz24_7
          try clear hfz24_8
          try clear hfz24_9
          try clear hfz26_0
          try clear hfz26_1
          try clear hfz26_10
          try clear hfz26_11
          try clear hfz26_12
          try clear hfz26_2
          try clear hfz26_3
          try clear hfz26_4
          try clear hfz26_5
          try clear hfz26_6
          try clear hfz26_7
          try clear hfz26_8
          try clear hfz26_9
          try clear hfz27_0
          try clear hfz27_1
          try clear hfz27_10
          try clear hfz27_11
          try clear hfz27_12
          try clear hfz27_2
          try clear hfz27_3
          try clear hfz27_4
          try clear hfz27_5
          try clear hfz27_6
          try clear hfz27_7
          try clear hfz27_8
          try clear hfz27_9
          try clear hfz5_0
          try clear hfz5_1
          try clear hfz5_10
          try clear hfz5_11
          try clear hfz5_12
          try clear hfz5_2
          try clear hfz5_3
          try clear hfz5_4
          try clear hfz5_5
          try clear hfz5_6
          try clear hfz5_7
          try clear hfz5_8
          try clear hfz5_9
          try clear hfz7_0
          try clear hfz7_1
          try clear hfz7_10
          try clear hfz7_11
          try clear hfz7_12
          try clear hfz7_2
          try clear hfz7_3
          try clear hfz7_4
          try clear hfz7_5
          try clear hfz7_6
          try clear hfz7_7
          try clear hfz7_8
          try clear hfz7_9
          try clear hfz9_0
          try clear hfz9_1
          try clear hfz9_10
          try clear hfz9_11
          try clear hfz9_12
          try clear hfz9_2
          try clear hfz9_3
          try clear hfz9_4
          try clear hfz9_5
          try clear hfz9_6
          try clear hfz9_7
          try clear hfz9_8
          try clear hfz9_9
          try clear p2
          obtain ⟨kq, x61_15, rfl, HA, HJ15, BK137, HB⟩ := hcut
          cases kq with
          | zero => exact absurd HA.out (by simp [wherryref12_May.j1])
          | succ kj15 =>
            have H := HA.out
            clear HA
            simp only [wherryref12_May.j1] at H
            by_cases c28 : x61_15 = true
            · subst c28
              have H1 : (some false) = some r := by rw [if_pos rfl] at H; exact H
              clear H
              have H := H1
              clear H1
              obtain rfl := Option.some.inj H
              go_wp2
              go_ret
              exact ⟨by first | rfl | (simp [errW_none, errW_some] <;> rfl) | (simp [*, errW_none, errW_some] <;> rfl), by repeat (first | (with_reducible first | exact HB.out | apply below_alloc | apply pw_below_drewN | apply below_drew1 | refine below_set ?_ GE137.out) | exact HB.out)⟩
            · replace c28 := Bool.eq_false_iff.mpr c28
              subst c28
              have H1 : (if a0_0 = 1 then (wherryref12_May.j2 kj15 32 (a0_1 == 1) a0_0 a0_1 a0_2 a0_3 a0_4 a0_5 a0_6 a0_7 a0_8 a0_9 a0_10 a0_11 l0_12) else (wherryref12_May.j2 kj15 32 false a0_0 a0_1 a0_2 a0_3 a0_4 a0_5 a0_6 a0_7 a0_8 a0_9 a0_10 a0_11 l0_12)) = some r := by rw [if_neg (show ¬ (false = true) by decide)] at H; exact H
              clear H
              have H := H1
              clear H1
              have HC29 := Aside0.mk H
              clear H
              go_upto_region 6 with (fail)
              go_cut [69] (fun v69 wc => ∃ (kq : Nat) (x69_28 : Bool), v69 = .bool x69_28 ∧ Aside0 (wherryref12_May.j2 kq 32 x69_28 a0_0 a0_1 a0_2 a0_3 a0_4 a0_5 a0_6 a0_7 a0_8 a0_9 a0_10 a0_11 l0_12 = some r) ∧ Aside0 (kq ≤ kj15) ∧ Aside0 (wc.heap[gb137]? = some (.cells #[.int .i64 a0_0, .int .i64 a0_1, .int .u64 a0_2, .int .i64 a0_3, .int .u64 a0_4, .int .u64 a0_5, .int .u64 a0_6, .int .i64 a0_7, .int .i64 a0_8, .string a0_9, .string a0_10, .string a0_11, (.slice A0_12 l0_12.length c0_12)] 25 (0, 0))) ∧ Aside0 (Below w.heap.size w wc))
              case first =>
                have H := HC29.out
                clear HC29
                by_cases c30 : a0_0 = 1
                · rw [if_pos c30] at H
                  have c30b0 : (a0_0 == 1) = true := beq_iff_eq.mpr c30
                  have c30b1 : (a0_0 != 1) = false := bne_eq_false_iff_eq.mpr c30
                  clear c30
                  (first | rw [c30b0] | (simp only [i64_w, i32_w]; rw [c30b0]) | skip)
                  have H' := Aside0.mk H
                  clear H
                  have hcz31_0 : wc.cell? ⟨gb137, 0, none⟩ = some (.int .i64 a0_0) := (blk_cell BK137.out 0).trans rfl
                  have hcz31_1 : wc.cell? ⟨gb137, 1, none⟩ = some (.int .i64 a0_1) := (blk_cell BK137.out 1).trans rfl
                  have hcz31_2 : wc.cell? ⟨gb137, 2, none⟩ = some (.int .u64 a0_2) := (blk_cell BK137.out 2).trans rfl
                  have hcz31_3 : wc.cell? ⟨gb137, 3, none⟩ = some (.int .i64 a0_3) := (blk_cell BK137.out 3).trans rfl
                  have hcz31_4 : wc.cell? ⟨gb137, 4, none⟩ = some (.int .u64 a0_4) := (blk_cell BK137.out 4).trans rfl
                  have hcz31_5 : wc.cell? ⟨gb137, 5, none⟩ = some (.int .u64 a0_5) := (blk_cell BK137.out 5).trans rfl
                  have hcz31_6 : wc.cell? ⟨gb137, 6, none⟩ = some (.int .u64 a0_6) := (blk_cell BK137.out 6).trans rfl
                  have hcz31_7 : wc.cell? ⟨gb137, 7, none⟩ = some (.int .i64 a0_7) := (blk_cell BK137.out 7).trans rfl
                  have hcz31_8 : wc.cell? ⟨gb137, 8, none⟩ = some (.int .i64 a0_8) := (blk_cell BK137.out 8).trans rfl
                  have hcz31_9 : wc.cell? ⟨gb137, 9, none⟩ = some (.string a0_9) := (blk_cell BK137.out 9).trans rfl
                  have hcz31_10 : wc.cell? ⟨gb137, 10, none⟩ = some (.string a0_10) := (blk_cell BK137.out 10).trans rfl
                  have hcz31_11 : wc.cell? ⟨gb137, 11, none⟩ = some (.string a0_11) := (blk_cell BK137.out 11).trans rfl
                  have hcz31_12 : wc.cell? ⟨gb137, 12, none⟩ = some (.slice A0_12 l0_12.length c0_12) := (blk_cell BK137.out 12).trans rfl
                  have hfz31_0 := blk_frozen BK137.out 0
                  have hfz31_1 := blk_frozen BK137.out 1
                  have hfz31_2 := blk_frozen BK137.out 2
                  have hfz31_3 := blk_frozen BK137.out 3
                  have hfz31_4 := blk_frozen BK137.out 4
                  have hfz31_5 := blk_frozen BK137.out 5
                  have hfz31_6 := blk_frozen BK137.out 6
                  have hfz31_7 := blk_frozen BK137.out 7
                  have hfz31_8 := blk_frozen BK137.out 8
                  have hfz31_9 := blk_frozen BK137.out 9
                  have hfz31_10 := blk_frozen BK137.out 10
                  have hfz31_11 := blk_frozen BK137.out 11
                  have hfz31_12 := blk_frozen BK137.out 12
                  go_wp2
                  go_meet
                  case rel => exact ⟨_, ((a0_1 == 1)), (by first | rfl | (simp; done) | (simp [*]; done)), H', ⟨by have := HJ1.out; have := HJ15.out; first | omega | exact Nat.le_refl _⟩, ⟨by (with_reducible repeat (first | refine blk_drewN ?_ _ | refine blk_drew ?_ | refine blk_alloc ?_ _)); exact BK137.out⟩, ⟨by repeat (first | (with_reducible first | exact HB.out | apply below_alloc | apply pw_below_drewN | apply below_drew1 | refine below_set ?_ GE137.out) | exact HB.out)⟩⟩
                · rw [if_neg c30] at H
                  have c30b0 : (a0_0 == 1) = false := beq_eq_false_iff_ne.mpr c30
                  have c30b1 : (a0_0 != 1) = true := bne_iff_ne.mpr c30
                  (first | rw [c30b0] | (simp only [i64_w, i32_w]; rw [c30b0]) | skip)
                  have H' := Aside0.mk H
                  clear H
                  have hcz32_0 : wc.cell? ⟨gb137, 0, none⟩ = some (.int .i64 a0_0) := (blk_cell BK137.out 0).trans rfl
                  have hcz32_1 : wc.cell? ⟨gb137, 1, none⟩ = some (.int .i64 a0_1) := (blk_cell BK137.out 1).trans rfl
                  have hcz32_2 : wc.cell? ⟨gb137, 2, none⟩ = some (.int .u64 a0_2) := (blk_cell BK137.out 2).trans rfl
                  have hcz32_3 : wc.cell? ⟨gb137, 3, none⟩ = some (.int .i64 a0_3) := (blk_cell BK137.out 3).trans rfl
                  have hcz32_4 : wc.cell? ⟨gb137, 4, none⟩ = some (.int .u64 a0_4) := (blk_cell BK137.out 4).trans rfl
                  have hcz32_5 : wc.cell? ⟨gb137, 5, none⟩ = some (.int .u64 a0_5) := (blk_cell BK137.out 5).trans rfl
                  have hcz32_6 : wc.cell? ⟨gb137, 6, none⟩ = some (.int .u64 a0_6) := (blk_cell BK137.out 6).trans rfl
                  have hcz32_7 : wc.cell? ⟨gb137, 7, none⟩ = some (.int .i64 a0_7) := (blk_cell BK137.out 7).trans rfl
                  have hcz32_8 : wc.cell? ⟨gb137, 8, none⟩ = some (.int .i64 a0_8) := (blk_cell BK137.out 8).trans rfl
                  have hcz32_9 : wc.cell? ⟨gb137, 9, none⟩ = some (.string a0_9) := (blk_cell BK137.out 9).trans rfl
                  have hcz32_10 : wc.cell? ⟨gb137, 10, none⟩ = some (.string a0_10) := (blk_cell BK137.out 10).trans rfl
                  have hcz32_11 : wc.cell? ⟨gb137, 11, none⟩ = some (.string a0_11) := (blk_cell BK137.out 11).trans rfl
                  have hcz32_12 : wc.cell? ⟨gb137, 12, none⟩ = some (.slice A0_12 l0_12.length c0_12) := (blk_cell BK137.out 12).trans rfl
                  have hfz32_0 := blk_frozen BK137.out 0
                  have hfz32_1 := blk_frozen BK137.out 1
                  have hfz32_2 := blk_frozen BK137.out 2
                  have hfz32_3 := blk_frozen BK137.out 3
                  have hfz32_4 := blk_frozen BK137.out 4
                  have hfz32_5 := blk_frozen BK137.out 5
                  have hfz32_6 := blk_frozen BK137.out 6
                  have hfz32_7 := blk_frozen BK137.out 7
                  have hfz32_8 := blk_frozen BK137.out 8
                  have hfz32_9 := blk_frozen BK137.out 9
                  have hfz32_10 := blk_frozen BK137.out 10
                  have hfz32_11 := blk_frozen BK137.out 11
                  have hfz32_12 := blk_frozen BK137.out 12
                  go_wp2
                  go_meet
                  case rel => exact ⟨_, (false), (by first | rfl | (simp; done) | (simp [*]; done)), H', ⟨by have := HJ1.out; have := HJ15.out; first | omega | exact Nat.le_refl _⟩, ⟨by (with_reducible repeat (first | refine blk_drewN ?_ _ | refine blk_drew ?_ | refine blk_alloc ?_ _)); exact BK137.out⟩, ⟨by repeat (first | (with_reducible first | exact HB.out | apply below_alloc | apply pw_below_drewN | apply below_drew1 | refine below_set ?_ GE137.out) | exact HB.out)⟩⟩
              case rest =>
                clear HC29
                try clear c1
                try clear c2
                try clear p2
                try clear c3
                try clear c4
                try clear c4b0
                try clear c6
                try clear c6b0
                try clear c8
                try clear c8b0
                try clear c10
                try clear c10b0
                try clear c12
                try clear c12b0
                try clear c12b1
                try clear c15
                try clear c17
                try clear c17b0
                try clear c17b1
                try clear c18
                try clear c18b0
                try clear c18b1
                try clear c19
                try clear c19b0
                try clear c23
                try clear c23b0
                try clear c23b1
                try clear c25
                try clear c25b0
                try clear c28
                try clear c30
                try clear c30b0
                try clear c30b1
                try clear hcz11_0
                try clear hcz11_1
                try clear hcz11_10
                try clear hcz11_11
                try clear hcz11_12
                try clear hcz11_2
                try clear hcz11_3
                try clear hcz11_4
                try clear hcz11_5
                try clear hcz11_6
                try clear hcz11_7
                try clear hcz11_8
                try clear hcz11_9
                try clear hcz13_0
                try clear hcz13_1
                try clear hcz13_10
                try clear hcz13_11
                try clear hcz13_12
                try clear hcz13_2
                try clear hcz13_3
                try clear hcz13_4
                try clear hcz13_5
                try clear hcz13_6
                try clear hcz13_7
                try clear hcz13_8
                try clear hcz13_9
                try clear hcz14_0
                try clear hcz14_1
                try clear hcz14_10
                try clear hcz14_11
                try clear hcz14_12
                try clear hcz14_2
                try clear hcz14_3
                try clear hcz14_4
                try clear hcz14_5
                try clear hcz14_6
                try clear hcz14_7
                try clear hcz14_8
                try clear hcz14_9
                try clear hcz20_0
                try clear hcz20_1
                try clear hcz20_10
                try clear hcz20_11
                try clear hcz20_12
                try clear hcz20_2
                try clear hcz20_3
                try clear hcz20_4
                try clear hcz20_5
                try clear hcz20_6
                try clear hcz20_7
                try clear hcz20_8
                try clear hcz20_9
                try clear hcz21_0
                try clear hcz21_1
                try clear hcz21_10
                try clear hcz21_11
                try clear hcz21_12
                try clear hcz21_2
                try clear hcz21_3
                try clear hcz21_4
                try clear hcz21_5
                try clear hcz21_6
                try clear hcz21_7
                try clear hcz21_8
                try clear hcz21_9
                try clear hcz22_0
                try clear hcz22_1
                try clear hcz22_10
                try clear hcz22_11
                try clear hcz22_12
                try clear hcz22_2
                try clear hcz22_3
                try clear hcz22_4
                try clear hcz22_5
                try clear hcz22_6
                try clear hcz22_7
                try clear hcz22_8
                try clear hcz22_9
                try clear hcz24_0
                try clear hcz24_1
                try clear hcz24_10
                try clear hcz24_11
                try clear hcz24_12
                try clear hcz24_2
                try clear hcz24_3
                try clear hcz24_4
                try clear hcz24_5
                try clear hcz24_6
                try clear hcz24_7
                try clear hcz24_8
                try clear hcz24_9
                try clear hcz26_0
                try clear hcz26_1
                try clear hcz26_10
                try clear hcz26_11
                try clear hcz26_12
                try clear hcz26_2
                try clear hcz26_3
                try clear hcz26_4
                try clear hcz26_5
                try clear hcz26_6
                try clear hcz26_7
                try clear hcz26_8
                try clear hcz26_9
                try clear hcz27_0
                try clear hcz27_1
                try clear hcz27_10
                try clear hcz27_11
                try clear hcz27_12
                try clear hcz27_2
                try clear hcz27_3
                try clear hcz27_4
                try clear hcz27_5
                try clear hcz27_6
                try clear hcz27_7
                try clear hcz27_8
                try clear hcz27_9
                try clear hcz31_0
                try clear hcz31_1
                try clear hcz31_10
                try clear hcz31_11
                try clear hcz31_12
                try clear hcz31_2
                try clear hcz31_3
                try clear hcz31_4
                try clear hcz31_5
                try clear hcz31_6
                try clear hcz31_7
                try clear hcz31_8
                try clear hcz31_9
                try clear hcz32_0
                try clear hcz32_1
                try clear hcz32_10
                try clear hcz32_11
                try clear hcz32_12
                try clear hcz32_2
                try clear hcz32_3
                try clear hcz32_4
                try clear hcz32_5
                try clear hcz32_6
                try clear hcz32_7
                try clear hcz32_8
                try clear hcz32_9
                try clear hcz5_0
                try clear hcz5_1
                try clear hcz5_10
                try clear hcz5_11
                try clear hcz5_12
                try clear hcz5_2
                try clear hcz5_3
                try clear hcz5_4
                try clear hcz5_5
                try clear hcz5_6
                try clear hcz5_7
                try clear hcz5_8
                try clear hcz5_9
                try clear hcz7_0
                try clear hcz7_1
                try clear hcz7_10
                try clear hcz7_11
                try clear hcz7_12
                try clear hcz7_2
                try clear hcz7_3
                try clear hcz7_4
                try clear hcz7_5
                try clear hcz7_6
                try clear hcz7_7
                try clear hcz7_8
                try clear hcz7_9
                try clear hcz9_0
                try clear hcz9_1
                try clear hcz9_10
                try clear hcz9_11
                try clear hcz9_12
                try clear hcz9_2
                try clear hcz9_3
                try clear hcz9_4
                try clear hcz9_5
                try clear hcz9_6
                try clear hcz9_7
                try clear hcz9_8
                try clear hcz9_9
                try clear hfz11_0
                try clear hfz11_1
                try clear hfz11_10
                try clear hfz11_11
                try clear hfz11_12
                try clear hfz11_2
                try clear hfz11_3
                try clear hfz11_4
                try clear hfz11_5
                try clear hfz11_6
                try clear hfz11_7
                try clear hfz11_8
                try clear hfz11_9
                try clear hfz13_0
                try clear hfz13_1
                try clear hfz13_10
                try clear hfz13_11
                try clear hfz13_12
                try clear hfz13_2
                try clear hfz13_3
                try clear hfz13_4
                try clear hfz13_5
                try clear hfz13_6
                try clear hfz13_7
                try clear hfz13_8
                try clear hfz13_9
                try clear hfz14_0
                try clear hfz14_1
                try clear hfz14_10
                try clear hfz14_11
                try clear hfz14_12
                try clear hfz14_2
                try clear hfz14_3
                try clear hfz14_4
                try clear hfz14_5
                try clear hfz14_6
                try clear hfz14_7
                try clear hfz14_8
                try clear hfz14_9
                try clear hfz20_0
                try clear hfz20_1
                try clear hfz20_10
                try clear hfz20_11
                try clear hfz20_12
                try clear hfz20_2
                try clear hfz20_3
                try clear hfz20_4
                try clear hfz20_5
                try clear hfz20_6
                try clear hfz20_7
                try clear hfz20_8
                try clear hfz20_9
                try clear hfz21_0
                try clear hfz21_1
                try clear hfz21_10
                try clear hfz21_11
                try clear hfz21_12
                try clear hfz21_2
                try clear hfz21_3
                try clear hfz21_4
                try clear hfz21_5
                try clear hfz21_6
                try clear hfz21_7
                try clear hfz21_8
                try clear hfz21_9
                try clear hfz22_0
                try clear hfz22_1
                try clear hfz22_10
                try clear hfz22_11
                try clear hfz22_12
                try clear hfz22_2
                try clear hfz22_3
                try clear hfz22_4
                try clear hfz22_5
                try clear hfz22_6
                try clear hfz22_7
                try clear hfz22_8
                try clear hfz22_9
                try clear hfz24_0
                try clear hfz24_1
                try clear hfz24_10
                try clear hfz24_11
                try clear hfz24_12
                try clear hfz24_2
                try clear hfz24_3
                try clear hfz24_4
                try clear hfz24_5
                try clear hfz24_6
                try clear hfz24_7
                try clear hfz24_8
                try clear hfz24_9
                try clear hfz26_0
                try clear hfz26_1
                try clear hfz26_10
                try clear hfz26_11
                try clear hfz26_12
                try clear hfz26_2
                try clear hfz26_3
                try clear hfz26_4
                try clear hfz26_5
                try clear hfz26_6
                try clear hfz26_7
                try clear hfz26_8
                try clear hfz26_9
                try clear hfz27_0
                try clear hfz27_1
                try clear hfz27_10
                try clear hfz27_11
                try clear hfz27_12
                try clear hfz27_2
                try clear hfz27_3
                try clear hfz27_4
                try clear hfz27_5
                try clear hfz27_6
                try clear hfz27_7
                try clear hfz27_8
                try clear hfz27_9
                try clear hfz31_0
                try clear hfz31_1
                try clear hfz31_10
                try clear hfz31_11
                try clear hfz31_12
                try clear hfz31_2
                try clear hfz31_3
                try clear hfz31_4
                try clear hfz31_5
                try clear hfz31_6
                try clear hfz31_7
                try clear hfz31_8
                try clear hfz31_9
                try clear hfz32_0
                try clear hfz32_1
                try clear hfz32_10
                try clear hfz32_11
                try clear hfz32_12
                try clear hfz32_2
                try clear hfz32_3
                try clear hfz32_4
                try clear hfz32_5
                try clear hfz32_6
                try clear hfz32_7
                try clear hfz32_8
                try clear hfz32_9
                try clear hfz5_0
                try clear hfz5_1
                try clear hfz5_10
                try clear hfz5_11
                try clear hfz5_12
                try clear hfz5_2
                try clear hfz5_3
                try clear hfz5_4
                try clear hfz5_5
                try clear hfz5_6
                try clear hfz5_7
                try clear hfz5_8
                try clear hfz5_9
                try clear hfz7_0
                try clear hfz7_1
                try clear hfz7_10
                try clear hfz7_11
                try clear hfz7_12
                try clear hfz7_2
                try clear hfz7_3
                try clear hfz7_4
                try clear hfz7_5
                try clear hfz7_6
                try clear hfz7_7
                try clear hfz7_8
                try clear hfz7_9
                try clear hfz9_0
                try clear hfz9_1
                try clear hfz9_10
                try clear hfz9_11
                try clear hfz9_12
                try clear hfz9_2
                try clear hfz9_3
                try clear hfz9_4
                try clear hfz9_5
                try clear hfz9_6
                try clear hfz9_7
                try clear hfz9_8
                try clear hfz9_9
                try clear p2
                obtain ⟨kq, x69_28, rfl, HA, HJ28, BK137, HB⟩ := hcut
                cases kq with
                | zero => exact absurd HA.out (by simp [wherryref12_May.j2])
                | succ kj28 =>
                  have H := HA.out
                  clear HA
                  simp only [wherryref12_May.j2] at H
                  have HC33 := Aside0.mk H
                  clear H
                  go_upto_if 69 with (fail)
                  go_cut [3] (fun v3 wc => ∃ (kq : Nat) (x3_32 : Int), v3 = .int .i64 x3_32 ∧ Aside0 (wherryref12_May.j3 kq x3_32 a0_0 a0_1 a0_2 a0_3 a0_4 a0_5 a0_6 a0_7 a0_8 a0_9 a0_10 a0_11 l0_12 = some r) ∧ Aside0 (kq ≤ kj28) ∧ Aside0 (wc.heap[gb137]? = some (.cells #[.int .i64 a0_0, .int .i64 a0_1, .int .u64 a0_2, .int .i64 a0_3, .int .u64 a0_4, .int .u64 a0_5, .int .u64 a0_6, .int .i64 a0_7, .int .i64 a0_8, .string a0_9, .string a0_10, .string a0_11, (.slice A0_12 l0_12.length c0_12)] 25 (0, 0))) ∧ Aside0 (Below w.heap.size w wc))
                  case first =>
                    have H := HC33.out
                    clear HC33
                    by_cases c34 : x69_28 = true
                    · subst c34
                      have H1 : (wherryref12_May.j3 kj28 8192 a0_0 a0_1 a0_2 a0_3 a0_4 a0_5 a0_6 a0_7 a0_8 a0_9 a0_10 a0_11 l0_12) = some r := by rw [if_pos rfl] at H; exact H
                      clear H
                      have H := H1
                      clear H1
                      have H' := Aside0.mk H
                      clear H
                      go_wp2
                      go_meet
                      case rel => exact ⟨_, (8192), (by first | rfl | (simp; done) | (simp [*]; done)), H', ⟨by have := HJ1.out; have := HJ15.out; have := HJ28.out; first | omega | exact Nat.le_refl _⟩, ⟨by (with_reducible repeat (first | refine blk_drewN ?_ _ | refine blk_drew ?_ | refine blk_alloc ?_ _)); exact BK137.out⟩, ⟨by repeat (first | (with_reducible first | exact HB.out | apply below_alloc | apply pw_below_drewN | apply below_drew1 | refine below_set ?_ GE137.out) | exact HB.out)⟩⟩
                    · replace c34 := Bool.eq_false_iff.mpr c34
                      subst c34
                      have H1 : (wherryref12_May.j3 kj28 32 a0_0 a0_1 a0_2 a0_3 a0_4 a0_5 a0_6 a0_7 a0_8 a0_9 a0_10 a0_11 l0_12) = some r := by rw [if_neg (show ¬ (false = true) by decide)] at H; exact H
                      clear H
                      have H := H1
                      clear H1
                      have H' := Aside0.mk H
                      clear H
                      go_wp2
                      go_meet
                      case rel => exact ⟨_, (32), (by first | rfl | (simp; done) | (simp [*]; done)), H', ⟨by have := HJ1.out; have := HJ15.out; have := HJ28.out; first | omega | exact Nat.le_refl _⟩, ⟨by (with_reducible repeat (first | refine blk_drewN ?_ _ | refine blk_drew ?_ | refine blk_alloc ?_ _)); exact BK137.out⟩, ⟨by repeat (first | (with_reducible first | exact HB.out | apply below_alloc | apply pw_below_drewN | apply below_drew1 | refine below_set ?_ GE137.out) | exact HB.out)⟩⟩
                  case rest =>
                    clear HC33
                    try clear c1
                    try clear c2
                    try clear p2
                    try clear c3
                    try clear c4
                    try clear c4b0
                    try clear c6
                    try clear c6b0
                    try clear c8
                    try clear c8b0
                    try clear c10
                    try clear c10b0
                    try clear c12
                    try clear c12b0
                    try clear c12b1
                    try clear c15
                    try clear c17
                    try clear c17b0
                    try clear c17b1
                    try clear c18
                    try clear c18b0
                    try clear c18b1
                    try clear c19
                    try clear c19b0
                    try clear c23
                    try clear c23b0
                    try clear c23b1
                    try clear c25
                    try clear c25b0
                    try clear c28
                    try clear c30
                    try clear c30b0
                    try clear c30b1
                    try clear c34
                    try clear hcz11_0
                    try clear hcz11_1
                    try clear hcz11_10
                    try clear hcz11_11
                    try clear hcz11_12
                    try clear hcz11_2
                    try clear hcz11_3
                    try clear hcz11_4
                    try clear hcz11_5
                    try clear hcz11_6
                    try clear hcz11_7
                    try clear hcz11_8
                    try clear hcz11_9
                    try clear hcz13_0
                    try clear hcz13_1
                    try clear hcz13_10
                    try clear hcz13_11
                    try clear hcz13_12
                    try clear hcz13_2
                    try clear hcz13_3
                    try clear hcz13_4
                    try clear hcz13_5
                    try clear hcz13_6
                    try clear hcz13_7
                    try clear hcz13_8
                    try clear hcz13_9
                    try clear hcz14_0
                    try clear hcz14_1
                    try clear hcz14_10
                    try clear hcz14_11
                    try clear hcz14_12
                    try clear hcz14_2
                    try clear hcz14_3
                    try clear hcz14_4
                    try clear hcz14_5
                    try clear hcz14_6
                    try clear hcz14_7
                    try clear hcz14_8
                    try clear hcz14_9
                    try clear hcz20_0
                    try clear hcz20_1
                    try clear hcz20_10
                    try clear hcz20_11
                    try clear hcz20_12
                    try clear hcz20_2
                    try clear hcz20_3
                    try clear hcz20_4
                    try clear hcz20_5
                    try clear hcz20_6
                    try clear hcz20_7
                    try clear hcz20_8
                    try clear hcz20_9
                    try clear hcz21_0
                    try clear hcz21_1
                    try clear hcz21_10
                    try clear hcz21_11
                    try clear hcz21_12
                    try clear hcz21_2
                    try clear hcz21_3
                    try clear hcz21_4
                    try clear hcz21_5
                    try clear hcz21_6
                    try clear hcz21_7
                    try clear hcz21_8
                    try clear hcz21_9
                    try clear hcz22_0
                    try clear hcz22_1
                    try clear hcz22_10
                    try clear hcz22_11
                    try clear hcz22_12
                    try clear hcz22_2
                    try clear hcz22_3
                    try clear hcz22_4
                    try clear hcz22_5
                    try clear hcz22_6
                    try clear hcz22_7
                    try clear hcz22_8
                    try clear hcz22_9
                    try clear hcz24_0
                    try clear hcz24_1
                    try clear hcz24_10
                    try clear hcz24_11
                    try clear hcz24_12
                    try clear hcz24_2
                    try clear hcz24_3
                    try clear hcz24_4
                    try clear hcz24_5
                    try clear hcz24_6
                    try clear hcz24_7
                    try clear hcz24_8
                    try clear hcz24_9
                    try clear hcz26_0
                    try clear hcz26_1
                    try clear hcz26_10
                    try clear hcz26_11
                    try clear hcz26_12
                    try clear hcz26_2
                    try clear hcz26_3
                    try clear hcz26_4
                    try clear hcz26_5
                    try clear hcz26_6
                    try clear hcz26_7
                    try clear hcz26_8
                    try clear hcz26_9
                    try clear hcz27_0
                    try clear hcz27_1
                    try clear hcz27_10
                    try clear hcz27_11
                    try clear hcz27_12
                    try clear hcz27_2
                    try clear hcz27_3
                    try clear hcz27_4
                    try clear hcz27_5
                    try clear hcz27_6
                    try clear hcz27_7
                    try clear hcz27_8
                    try clear hcz27_9
                    try clear hcz31_0
                    try clear hcz31_1
                    try clear hcz31_10
                    try clear hcz31_11
                    try clear hcz31_12
                    try clear hcz31_2
                    try clear hcz31_3
                    try clear hcz31_4
                    try clear hcz31_5
                    try clear hcz31_6
                    try clear hcz31_7
                    try clear hcz31_8
                    try clear hcz31_9
                    try clear hcz32_0
                    try clear hcz32_1
                    try clear hcz32_10
                    try clear hcz32_11
                    try clear hcz32_12
                    try clear hcz32_2
                    try clear hcz32_3
                    try clear hcz32_4
                    try clear hcz32_5
                    try clear hcz32_6
                    try clear hcz32_7
                    try clear hcz32_8
                    try clear hcz32_9
                    try clear hcz5_0
                    try clear hcz5_1
                    try clear hcz5_10
                    try clear hcz5_11
                    try clear hcz5_12
                    try clear hcz5_2
                    try clear hcz5_3
                    try clear hcz5_4
                    try clear hcz5_5
                    try clear hcz5_6
                    try clear hcz5_7
                    try clear hcz5_8
                    try clear hcz5_9
                    try clear hcz7_0
                    try clear hcz7_1
                    try clear hcz7_10
                    try clear hcz7_11
                    try clear hcz7_12
                    try clear hcz7_2
                    try clear hcz7_3
                    try clear hcz7_4
                    try clear hcz7_5
                    try clear hcz7_6
                    try clear hcz7_7
                    try clear hcz7_8
                    try clear hcz7_9
                    try clear hcz9_0
                    try clear hcz9_1
                    try clear hcz9_10
                    try clear hcz9_11
                    try clear hcz9_12
                    try clear hcz9_2
                    try clear hcz9_3
                    try clear hcz9_4
                    try clear hcz9_5
                    try clear hcz9_6
                    try clear hcz9_7
                    try clear hcz9_8
                    try clear hcz9_9
                    try clear hfz11_0
                    try clear hfz11_1
                    try clear hfz11_10
                    try clear hfz11_11
                    try clear hfz11_12
                    try clear hfz11_2
                    try clear hfz11_3
                    try clear hfz11_4
                    try clear hfz11_5
                    try clear hfz11_6
                    try clear hfz11_7
                    try clear hfz11_8
                    try clear hfz11_9
                    try clear hfz13_0
                    try clear hfz13_1
                    try clear hfz13_10
                    try clear hfz13_11
                    try clear hfz13_12
                    try clear hfz13_2
                    try clear hfz13_3
                    try clear hfz13_4
                    try clear hfz13_5
                    try clear hfz13_6
                    try clear hfz13_7
                    try clear hfz13_8
                    try clear hfz13_9
                    try clear hfz14_0
                    try clear hfz14_1
                    try clear hfz14_10
                    try clear hfz14_11
                    try clear hfz14_12
                    try clear hfz14_2
                    try clear hfz14_3
                    try clear hfz14_4
                    try clear hfz14_5
                    try clear hfz14_6
                    try clear hfz14_7
                    try clear hfz14_8
                    try clear hfz14_9
                    try clear hfz20_0
                    try clear hfz20_1
                    try clear hfz20_10
                    try clear hfz20_11
                    try clear hfz20_12
                    try clear hfz20_2
                    try clear hfz20_3
                    try clear hfz20_4
                    try clear hfz20_5
                    try clear hfz20_6
                    try clear hfz20_7
                    try clear hfz20_8
                    try clear hfz20_9
                    try clear hfz21_0
                    try clear hfz21_1
                    try clear hfz21_10
                    try clear hfz21_11
                    try clear hfz21_12
                    try clear hfz21_2
                    try clear hfz21_3
                    try clear hfz21_4
                    try clear hfz21_5
                    try clear hfz21_6
                    try clear hfz21_7
                    try clear hfz21_8
                    try clear hfz21_9
                    try clear hfz22_0
                    try clear hfz22_1
                    try clear hfz22_10
                    try clear hfz22_11
                    try clear hfz22_12
                    try clear hfz22_2
                    try clear hfz22_3
                    try clear hfz22_4
                    try clear hfz22_5
                    try clear hfz22_6
                    try clear hfz22_7
                    try clear hfz22_8
                    try clear hfz22_9
                    try clear hfz24_0
                    try clear hfz24_1
                    try clear hfz24_10
                    try clear hfz24_11
                    try clear hfz24_12
                    try clear hfz24_2
                    try clear hfz24_3
                    try clear hfz24_4
                    try clear hfz24_5
                    try clear hfz24_6
                    try clear hfz24_7
                    try clear hfz24_8
                    try clear hfz24_9
                    try clear hfz26_0
                    try clear hfz26_1
                    try clear hfz26_10
                    try clear hfz26_11
                    try clear hfz26_12
                    try clear hfz26_2
                    try clear hfz26_3
                    try clear hfz26_4
                    try clear hfz26_5
                    try clear hfz26_6
                    try clear hfz26_7
                    try clear hfz26_8
                    try clear hfz26_9
                    try clear hfz27_0
                    try clear hfz27_1
                    try clear hfz27_10
                    try clear hfz27_11
                    try clear hfz27_12
                    try clear hfz27_2
                    try clear hfz27_3
                    try clear hfz27_4
                    try clear hfz27_5
                    try clear hfz27_6
                    try clear hfz27_7
                    try clear hfz27_8
                    try clear hfz27_9
                    try clear hfz31_0
                    try clear hfz31_1
                    try clear hfz31_10
                    try clear hfz31_11
                    try clear hfz31_12
                    try clear hfz31_2
                    try clear hfz31_3
                    try clear hfz31_4
                    try clear hfz31_5
                    try clear hfz31_6
                    try clear hfz31_7
                    try clear hfz31_8
                    try clear hfz31_9
                    try clear hfz32_0
                    try clear hfz32_1
                    try clear hfz32_10
                    try clear hfz32_11
                    try clear hfz32_12
                    try clear hfz32_2
                    try clear hfz32_3
                    try clear hfz32_4
                    try clear hfz32_5
                    try clear hfz32_6
                    try clear hfz32_7
                    try clear hfz32_8
                    try clear hfz32_9
                    try clear hfz5_0
                    try clear hfz5_1
                    try clear hfz5_10
                    try clear hfz5_11
                    try clear hfz5_12
                    try clear hfz5_2
                    try clear hfz5_3
                    try clear hfz5_4
                    try clear hfz5_5
                    try clear hfz5_6
                    try clear hfz5_7
                    try clear hfz5_8
                    try clear hfz5_9
                    try clear hfz7_0
                    try clear hfz7_1
                    try clear hfz7_10
                    try clear hfz7_11
                    try clear hfz7_12
                    try clear hfz7_2
                    try clear hfz7_3
                    try clear hfz7_4
                    try clear hfz7_5
                    try clear hfz7_6
                    try clear hfz7_7
                    try clear hfz7_8
                    try clear hfz7_9
                    try clear hfz9_0
                    try clear hfz9_1
                    try clear hfz9_10
                    try clear hfz9_11
                    try clear hfz9_12
                    try clear hfz9_2
                    try clear hfz9_3
                    try clear hfz9_4
                    try clear hfz9_5
                    try clear hfz9_6
                    try clear hfz9_7
                    try clear hfz9_8
                    try clear hfz9_9
                    try clear p2
                    obtain ⟨kq, x3_32, rfl, HA, HJ32, BK137, HB⟩ := hcut
                    cases kq with
                    | zero => exact absurd HA.out (by simp [wherryref12_May.j3])
                    | succ kj32 =>
                      have H := HA.out
                      clear HA
                      simp only [wherryref12_May.j3] at H
                      have HC35 := Aside0.mk H
                      clear H
                      go_upto_region 9 with (fail)
                      go_cut [77] (fun v77 wc => ∃ (kq : Nat) (x77_34 : Bool), v77 = .bool x77_34 ∧ Aside0 (wherryref12_May.j4 kq x3_32 1024 x77_34 a0_0 a0_1 a0_2 a0_3 a0_4 a0_5 a0_6 a0_7 a0_8 a0_9 a0_10 a0_11 l0_12 = some r) ∧ Aside0 (kq ≤ kj32) ∧ Aside0 (wc.heap[gb137]? = some (.cells #[.int .i64 a0_0, .int .i64 a0_1, .int .u64 a0_2, .int .i64 a0_3, .int .u64 a0_4, .int .u64 a0_5, .int .u64 a0_6, .int .i64 a0_7, .int .i64 a0_8, .string a0_9, .string a0_10, .string a0_11, (.slice A0_12 l0_12.length c0_12)] 25 (0, 0))) ∧ Aside0 (Below w.heap.size w wc))
                      case first =>
                        have H := HC35.out
                        clear HC35
                        by_cases c36 : a0_0 = 2
                        · rw [if_pos c36] at H
                          have c36b0 : (a0_0 == 2) = true := beq_iff_eq.mpr c36
                          have c36b1 : (a0_0 != 2) = false := bne_eq_false_iff_eq.mpr c36
                          clear c36
                          (first | rw [c36b0] | (simp only [i64_w, i32_w]; rw [c36b0]) | skip)
                          have H' := Aside0.mk H
                          clear H
                          have hcz37_0 : wc.cell? ⟨gb137, 0, none⟩ = some (.int .i64 a0_0) := (blk_cell BK137.out 0).trans rfl
                          have hcz37_1 : wc.cell? ⟨gb137, 1, none⟩ = some (.int .i64 a0_1) := (blk_cell BK137.out 1).trans rfl
                          have hcz37_2 : wc.cell? ⟨gb137, 2, none⟩ = some (.int .u64 a0_2) := (blk_cell BK137.out 2).trans rfl
                          have hcz37_3 : wc.cell? ⟨gb137, 3, none⟩ = some (.int .i64 a0_3) := (blk_cell BK137.out 3).trans rfl
                          have hcz37_4 : wc.cell? ⟨gb137, 4, none⟩ = some (.int .u64 a0_4) := (blk_cell BK137.out 4).trans rfl
                          have hcz37_5 : wc.cell? ⟨gb137, 5, none⟩ = some (.int .u64 a0_5) := (blk_cell BK137.out 5).trans rfl
                          have hcz37_6 : wc.cell? ⟨gb137, 6, none⟩ = some (.int .u64 a0_6) := (blk_cell BK137.out 6).trans rfl
                          have hcz37_7 : wc.cell? ⟨gb137, 7, none⟩ = some (.int .i64 a0_7) := (blk_cell BK137.out 7).trans rfl
                          have hcz37_8 : wc.cell? ⟨gb137, 8, none⟩ = some (.int .i64 a0_8) := (blk_cell BK137.out 8).trans rfl
                          have hcz37_9 : wc.cell? ⟨gb137, 9, none⟩ = some (.string a0_9) := (blk_cell BK137.out 9).trans rfl
                          have hcz37_10 : wc.cell? ⟨gb137, 10, none⟩ = some (.string a0_10) := (blk_cell BK137.out 10).trans rfl
                          have hcz37_11 : wc.cell? ⟨gb137, 11, none⟩ = some (.string a0_11) := (blk_cell BK137.out 11).trans rfl
                          have hcz37_12 : wc.cell? ⟨gb137, 12, none⟩ = some (.slice A0_12 l0_12.length c0_12) := (blk_cell BK137.out 12).trans rfl
                          have hfz37_0 := blk_frozen BK137.out 0
                          have hfz37_1 := blk_frozen BK137.out 1
                          have hfz37_2 := blk_frozen BK137.out 2
                          have hfz37_3 := blk_frozen BK137.out 3
                          have hfz37_4 := blk_frozen BK137.out 4
                          have hfz37_5 := blk_frozen BK137.out 5
                          have hfz37_6 := blk_frozen BK137.out 6
                          have hfz37_7 := blk_frozen BK137.out 7
                          have hfz37_8 := blk_frozen BK137.out 8
                          have hfz37_9 := blk_frozen BK137.out 9
                          have hfz37_10 := blk_frozen BK137.out 10
                          have hfz37_11 := blk_frozen BK137.out 11
                          have hfz37_12 := blk_frozen BK137.out 12
                          go_wp2
                          go_meet
                          case rel => exact ⟨_, ((a0_1 == 1)), (by first | rfl | (simp; done) | (simp [*]; done)), H', ⟨by have := HJ1.out; have := HJ15.out; have := HJ28.out; have := HJ32.out; first | omega | exact Nat.le_refl _⟩, ⟨by (with_reducible repeat (first | refine blk_drewN ?_ _ | refine blk_drew ?_ | refine blk_alloc ?_ _)); exact BK137.out⟩, ⟨by repeat (first | (with_reducible first | exact HB.out | apply below_alloc | apply pw_below_drewN | apply below_drew1 | refine below_set ?_ GE137.out) | exact HB.out)⟩⟩
                        · rw [if_neg c36] at H
                          have c36b0 : (a0_0 == 2) = false := beq_eq_false_iff_ne.mpr c36
                          have c36b1 : (a0_0 != 2) = true := bne_iff_ne.mpr c36
                          (first | rw [c36b0] | (simp only [i64_w, i32_w]; rw [c36b0]) | skip)
                          have H' := Aside0.mk H
                          clear H
                          have hcz38_0 : wc.cell? ⟨gb137, 0, none⟩ = some (.int .i64 a0_0) := (blk_cell BK137.out 0).trans rfl
                          have hcz38_1 : wc.cell? ⟨gb137, 1, none⟩ = some (.int .i64 a0_1) := (blk_cell BK137.out 1).trans rfl
                          have hcz38_2 : wc.cell? ⟨gb137, 2, none⟩ = some (.int .u64 a0_2) := (blk_cell BK137.out 2).trans rfl
                          have hcz38_3 : wc.cell? ⟨gb137, 3, none⟩ = some (.int .i64 a0_3) := (blk_cell BK137.out 3).trans rfl
                          have hcz38_4 : wc.cell? ⟨gb137, 4, none⟩ = some (.int .u64 a0_4) := (blk_cell BK137.out 4).trans rfl
                          have hcz38_5 : wc.cell? ⟨gb137, 5, none⟩ = some (.int .u64 a0_5) := (blk_cell BK137.out 5).trans rfl
                          have hcz38_6 : wc.cell? ⟨gb137, 6, none⟩ = some (.int .u64 a0_6) := (blk_cell BK137.out 6).trans rfl
                          have hcz38_7 : wc.cell? ⟨gb137, 7, none⟩ = some (.int .i64 a0_7) := (blk_cell BK137.out 7).trans rfl
                          have hcz38_8 : wc.cell? ⟨gb137, 8, none⟩ = some (.int .i64 a0_8) := (blk_cell BK137.out 8).trans rfl
                          have hcz38_9 : wc.cell? ⟨gb137, 9, none⟩ = some (.string a0_9) := (blk_cell BK137.out 9).trans rfl
                          have hcz38_10 : wc.cell? ⟨gb137, 10, none⟩ = some (.string a0_10) := (blk_cell BK137.out 10).trans rfl
                          have hcz38_11 : wc.cell? ⟨gb137, 11, none⟩ = some (.string a0_11) := (blk_cell BK137.out 11).trans rfl
                          have hcz38_12 : wc.cell? ⟨gb137, 12, none⟩ = some (.slice A0_12 l0_12.length c0_12) := (blk_cell BK137.out 12).trans rfl
                          have hfz38_0 := blk_frozen BK137.out 0
                          have hfz38_1 := blk_frozen BK137.out 1
                          have hfz38_2 := blk_frozen BK137.out 2
                          have hfz38_3 := blk_frozen BK137.out 3
                          have hfz38_4 := blk_frozen BK137.out 4
                          have hfz38_5 := blk_frozen BK137.out 5
                          have hfz38_6 := blk_frozen BK137.out 6
                          have hfz38_7 := blk_frozen BK137.out 7
                          have hfz38_8 := blk_frozen BK137.out 8
                          have hfz38_9 := blk_frozen BK137.out 9
                          have hfz38_10 := blk_frozen BK137.out 10
                          have hfz38_11 := blk_frozen BK137.out 11
                          have hfz38_12 := blk_frozen BK137.out 12
                          go_wp2
                          go_meet
                          case rel => exact ⟨_, (false), (by first | rfl | (simp; done) | (simp [*]; done)), H', ⟨by have := HJ1.out; have := HJ15.out; have := HJ28.out; have := HJ32.out; first | omega | exact Nat.le_refl _⟩, ⟨by (with_reducible repeat (first | refine blk_drewN ?_ _ | refine blk_drew ?_ | refine blk_alloc ?_ _)); exact BK137.out⟩, ⟨by repeat (first | (with_reducible first | exact HB.out | apply below_alloc | apply pw_below_drewN | apply below_drew1 | refine below_set ?_ GE137.out) | exact HB.out)⟩⟩
                      case rest =>
                        clear HC35
                        try clear c1
                        try clear c2
                        try clear p2
                        try clear c3
                        try clear c4
                        try clear c4b0
                        try clear c6
                        try clear c6b0
                        try clear c8
                        try clear c8b0
                        try clear c10
                        try clear c10b0
                        try clear c12
                        try clear c12b0
                        try clear c12b1
                        try clear c15
                        try clear c17
                        try clear c17b0
                        try clear c17b1
                        try clear c18
                        try clear c18b0
                        try clear c18b1
                        try clear c19
                        try clear c19b0
                        try clear c23
                        try clear c23b0
                        try clear c23b1
                        try clear c25
                        try clear c25b0
                        try clear c28
                        try clear c30
                        try clear c30b0
                        try clear c30b1
                        try clear c34
                        try clear c36
                        try clear c36b0
                        try clear c36b1
                        try clear hcz11_0
                        try clear hcz11_1
                        try clear hcz11_10
                        try clear hcz11_11
                        try clear hcz11_12
                        try clear hcz11_2
                        try clear hcz11_3
                        try clear hcz11_4
                        try clear hcz11_5
                        try clear hcz11_6
                        try clear hcz11_7
                        try clear hcz11_8
                        try clear hcz11_9
                        try clear hcz13_0
                        try clear hcz13_1
                        try clear hcz13_10
                        try clear hcz13_11
                        try clear hcz13_12
                        try clear hcz13_2
                        try clear hcz13_3
                        try clear hcz13_4
                        try clear hcz13_5
                        try clear hcz13_6
                        try clear hcz13_7
                        try clear hcz13_8
                        try clear hcz13_9
                        try clear hcz14_0
                        try clear hcz14_1
                        try clear hcz14_10
                        try clear hcz14_11
                        try clear hcz14_12
                        try clear hcz14_2
                        try clear hcz14_3
                        try clear hcz14_4
                        try clear hcz14_5
                        try clear hcz14_6
                        try clear hcz14_7
                        try clear hcz14_8
                        try clear hcz14_9
                        try clear hcz20_0
                        try clear hcz20_1
                        try clear hcz20_10
                        try clear hcz20_11
                        try clear hcz20_12
                        try clear hcz20_2
                        try clear hcz20_3
                        try clear hcz20_4
                        try clear hcz20_5
                        try clear hcz20_6
                        try clear hcz20_7
                        try clear hcz20_8
                        try clear hcz20_9
                        try clear hcz21_0
                        try clear hcz21_1
                        try clear hcz21_10
                        try clear hcz21_11
                        try clear hcz21_12
                        try clear hcz21_2
                        try clear hcz21_3
                        try clear hcz21_4
                        try clear hcz21_5
                        try clear hcz21_6
                        try clear hcz21_7
                        try clear hcz21_8
                        try clear hcz21_9
                        try clear hcz22_0
                        try clear hcz22_1
                        try clear hcz22_10
                        try clear hcz22_11
                        try clear hcz22_12
                        try clear hcz22_2
                        try clear hcz22_3
                        try clear hcz22_4
                        try clear hcz22_5
                        try clear hcz22_6
                        try clear hcz22_7
                        try clear hcz22_8
                        try clear hcz22_9
                        try clear hcz24_0
                        try clear hcz24_1
                        try clear hcz24_10
                        try clear hcz24_11
                        try clear hcz24_12
                        try clear hcz24_2
                        try clear hcz24_3
                        try clear hcz24_4
                        try clear hcz24_5
                        try clear hcz24_6
                        try clear hcz24_7
                        try clear hcz24_8
                        try clear hcz24_9
                        try clear hcz26_0
                        try clear hcz26_1
                        try clear hcz26_10
                        try clear hcz26_11
                        try clear hcz26_12
                        try clear hcz26_2
                        try clear hcz26_3
                        try clear hcz26_4
                        try clear hcz26_5
                        try clear hcz26_6
                        try clear hcz26_7
                        try clear hcz26_8
                        try clear hcz26_9
                        try clear hcz27_0
                        try clear hcz27_1
                        try clear hcz27_10
                        try clear hcz27_11
                        try clear hcz27_12
                        try clear hcz27_2
                        try clear hcz27_3
                        try clear hcz27_4
                        try clear hcz27_5
                        try clear hcz27_6
                        try clear hcz27_7
                        try clear hcz27_8
                        try clear hcz27_9
                        try clear hcz31_0
                        try clear hcz31_1
                        try clear hcz31_10
                        try clear hcz31_11
                        try clear hcz31_12
                        try clear hcz31_2
                        try clear hcz31_3
                        try clear hcz31_4
                        try clear hcz31_5
                        try clear hcz31_6
                        try clear hcz31_7
                        try clear hcz31_8
                        try clear hcz31_9
                        try clear hcz32_0
                        try clear hcz32_1
                        try clear hcz32_10
                        try clear hcz32_11
                        try clear hcz32_12
                        try clear hcz32_2
                        try clear hcz32_3
                        try clear hcz32_4
                        try clear hcz32_5
                        try clear hcz32_6
                        try clear hcz32_7
                        try clear hcz32_8
                        try clear hcz32_9
                        try clear hcz37_0
                        try clear hcz37_1
                        try clear hcz37_10
                        try clear hcz37_11
                        try clear hcz37_12
                        try clear hcz37_2
                        try clear hcz37_3
                        try clear hcz37_4
                        try clear hcz37_5
                        try clear hcz37_6
                        try clear hcz37_7
                        try clear hcz37_8
                        try clear hcz37_9
                        try clear hcz38_0
                        try clear hcz38_1
                        try clear hcz38_10
                        try clear hcz38_11
                        try clear hcz38_12
                        try clear hcz38_2
                        try clear hcz38_3
                        try clear hcz38_4
                        try clear hcz38_5
                        try clear hcz38_6
                        try clear hcz38_7
                        try clear hcz38_8
                        try clear hcz38_9
                        try clear hcz5_0
                        try clear hcz5_1
                        try clear hcz5_10
                        try clear hcz5_11
                        try clear hcz5_12
                        try clear hcz5_2
                        try clear hcz5_3
                        try clear hcz5_4
                        try clear hcz5_5
                        try clear hcz5_6
                        try clear hcz5_7
                        try clear hcz5_8
                        try clear hcz5_9
                        try clear hcz7_0
                        try clear hcz7_1
                        try clear hcz7_10
                        try clear hcz7_11
                        try clear hcz7_12
                        try clear hcz7_2
                        try clear hcz7_3
                        try clear hcz7_4
                        try clear hcz7_5
                        try clear hcz7_6
                        try clear hcz7_7
                        try clear hcz7_8
                        try clear hcz7_9
                        try clear hcz9_0
                        try clear hcz9_1
                        try clear hcz9_10
                        try clear hcz9_11
                        try clear hcz9_12
                        try clear hcz9_2
                        try clear hcz9_3
                        try clear hcz9_4
                        try clear hcz9_5
                        try clear hcz9_6
                        try clear hcz9_7
                        try clear hcz9_8
                        try clear hcz9_9
                        try clear hfz11_0
                        try clear hfz11_1
                        try clear hfz11_10
                        try clear hfz11_11
                        try clear hfz11_12
                        try clear hfz11_2
                        try clear hfz11_3
                        try clear hfz11_4
                        try clear hfz11_5
                        try clear hfz11_6
                        try clear hfz11_7
                        try clear hfz11_8
                        try clear hfz11_9
                        try clear hfz13_0
                        try clear hfz13_1
                        try clear hfz13_10
                        try clear hfz13_11
                        try clear hfz13_12
                        try clear hfz13_2
                        try clear hfz13_3
                        try clear hfz13_4
                        try clear hfz13_5
                        try clear hfz13_6
                        try clear hfz13_7
                        try clear hfz13_8
                        try clear hfz13_9
                        try clear hfz14_0
                        try clear hfz14_1
                        try clear hfz14_10
                        try clear hfz14_11
                        try clear hfz14_12
                        try clear hfz14_2
                        try clear hfz14_3
                        try clear hfz14_4
                        try clear hfz14_5
                        try clear hfz14_6
                        try clear hfz14_7
                        try clear hfz14_8
                        try clear hfz14_9
                        try clear hfz20_0
                        try clear hfz20_1
                        try clear hfz20_10
                        try clear hfz20_11
                        try clear hfz20_12
                        try clear hfz20_2
                        try clear hfz20_3
                        try clear hfz20_4
                        try clear hfz20_5
                        try clear hfz20_6
                        try clear hfz20_7
                        try clear hfz20_8
                        try clear hfz20_9
                        try clear hfz21_0
                        try clear hfz21_1
                        try clear hfz21_10
                        try clear hfz21_11
                        try clear hfz21_12
                        try clear hfz21_2
                        try clear hfz21_3
                        try clear hfz21_4
                        try clear hfz21_5
                        try clear hfz21_6
                        try clear hfz21_7
                        try clear hfz21_8
                        try clear hfz21_9
                        try clear hfz22_0
                        try clear hfz22_1
                        try clear hfz22_10
                        try clear hfz22_11
                        try clear hfz22_12
                        try clear hfz22_2
                        try clear hfz22_3
                        try clear hfz22_4
                        try clear hfz22_5
                        try clear hfz22_6
                        try clear hfz22_7
                        try clear hfz22_8
                        try clear hfz22_9
                        try clear hfz24_0
                        try clear hfz24_1
                        try clear hfz24_10
                        try clear hfz24_11
                        try clear hfz24_12
                        try clear hfz24_2
                        try clear hfz24_3
                        try clear hfz24_4
                        try clear hfz24_5
                        try clear hfz24_6
                        try clear hfz24_7
                        try clear hfz24_8
                        try clear hfz24_9
                        try clear hfz26_0
                        try clear hfz26_1
                        try clear hfz26_10
                        try clear hfz26_11
                        try clear hfz26_12
                        try clear hfz26_2
                        try clear hfz26_3
                        try clear hfz26_4
                        try clear hfz26_5
                        try clear hfz26_6
                        try clear hfz26_7
                        try clear hfz26_8
                        try clear hfz26_9
                        try clear hfz27_0
                        try clear hfz27_1
                        try clear hfz27_10
                        try clear hfz27_11
                        try clear hfz27_12
                        try clear hfz27_2
                        try clear hfz27_3
                        try clear hfz27_4
                        try clear hfz27_5
                        try clear hfz27_6
                        try clear hfz27_7
                        try clear hfz27_8
                        try clear hfz27_9
                        try clear hfz31_0
                        try clear hfz31_1
                        try clear hfz31_10
                        try clear hfz31_11
                        try clear hfz31_12
                        try clear hfz31_2
                        try clear hfz31_3
                        try clear hfz31_4
                        try clear hfz31_5
                        try clear hfz31_6
                        try clear hfz31_7
                        try clear hfz31_8
                        try clear hfz31_9
                        try clear hfz32_0
                        try clear hfz32_1
                        try clear hfz32_10
                        try clear hfz32_11
                        try clear hfz32_12
                        try clear hfz32_2
                        try clear hfz32_3
                        try clear hfz32_4
                        try clear hfz32_5
                        try clear hfz32_6
                        try clear hfz32_7
                        try clear hfz32_8
                        try clear hfz32_9
                        try clear hfz37_0
                        try clear hfz37_1
                        try clear hfz37_10
                        try clear hfz37_11
                        try clear hfz37_12
                        try clear hfz37_2
                        try clear hfz37_3
                        try clear hfz37_4
                        try clear hfz37_5
                        try clear hfz37_6
                        try clear hfz37_7
                        try clear hfz37_8
                        try clear hfz37_9
                        try clear hfz38_0
                        try clear hfz38_1
                        try clear hfz38_10
                        try clear hfz38_11
                        try clear hfz38_12
                        try clear hfz38_2
                        try clear hfz38_3
                        try clear hfz38_4
                        try clear hfz38_5
                        try clear hfz38_6
                        try clear hfz38_7
                        try clear hfz38_8
                        try clear hfz38_9
                        try clear hfz5_0
                        try clear hfz5_1
                        try clear hfz5_10
                        try clear hfz5_11
                        try clear hfz5_12
                        try clear hfz5_2
                        try clear hfz5_3
                        try clear hfz5_4
                        try clear hfz5_5
                        try clear hfz5_6
                        try clear hfz5_7
                        try clear hfz5_8
                        try clear hfz5_9
                        try clear hfz7_0
                        try clear hfz7_1
                        try clear hfz7_10
                        try clear hfz7_11
                        try clear hfz7_12
                        try clear hfz7_2
                        try clear hfz7_3
                        try clear hfz7_4
                        try clear hfz7_5
                        try clear hfz7_6
                        try clear hfz7_7
                        try clear hfz7_8
                        try clear hfz7_9
                        try clear hfz9_0
                        try clear hfz9_1
                        try clear hfz9_10
                        try clear hfz9_11
                        try clear hfz9_12
                        try clear hfz9_2
                        try clear hfz9_3
                        try clear hfz9_4
                        try clear hfz9_5
                        try clear hfz9_6
                        try clear hfz9_7
                        try clear hfz9_8
                        try clear hfz9_9
                        try clear p2
                        obtain ⟨kq, x77_34, rfl, HA, HJ34, BK137, HB⟩ := hcut
                        cases kq with
                        | zero => exact absurd HA.out (by simp [wherryref12_May.j4])
                        | succ kj34 =>
                          have H := HA.out
                          clear HA
                          simp only [wherryref12_May.j4] at H
                          have HC39 := Aside0.mk H
                          clear H
                          go_upto_if 77 with (fail)
                          go_cut [4] (fun v4 wc => ∃ (kq : Nat) (x4_38 : Int), v4 = .int .i64 x4_38 ∧ Aside0 (wherryref12_May.j5 kq x3_32 x4_38 a0_0 a0_1 a0_2 a0_3 a0_4 a0_5 a0_6 a0_7 a0_8 a0_9 a0_10 a0_11 l0_12 = some r) ∧ Aside0 (kq ≤ kj34) ∧ Aside0 (wc.heap[gb137]? = some (.cells #[.int .i64 a0_0, .int .i64 a0_1, .int .u64 a0_2, .int .i64 a0_3, .int .u64 a0_4, .int .u64 a0_5, .int .u64 a0_6, .int .i64 a0_7, .int .i64 a0_8, .string a0_9, .string a0_10, .string a0_11, (.slice A0_12 l0_12.length c0_12)] 25 (0, 0))) ∧ Aside0 (Below w.heap.size w wc))
                          case first =>
                            have H := HC39.out
                            clear HC39
                            by_cases c40 : x77_34 = true
                            · subst c40
                              have H1 : (wherryref12_May.j5 kj34 x3_32 8192 a0_0 a0_1 a0_2 a0_3 a0_4 a0_5 a0_6 a0_7 a0_8 a0_9 a0_10 a0_11 l0_12) = some r := by rw [if_pos rfl] at H; exact H
                              clear H
                              have H := H1
                              clear H1
                              have H' := Aside0.mk H
                              clear H
                              go_wp2
                              go_meet
                              case rel => exact ⟨_, (8192), (by first | rfl | (simp; done) | (simp [*]; done)), H', ⟨by have := HJ1.out; have := HJ15.out; have := HJ28.out; have := HJ32.out; have := HJ34.out; first | omega | exact Nat.le_refl _⟩, ⟨by (with_reducible repeat (first | refine blk_drewN ?_ _ | refine blk_drew ?_ | refine blk_alloc ?_ _)); exact BK137.out⟩, ⟨by repeat (first | (with_reducible first | exact HB.out | apply below_alloc | apply pw_below_drewN | apply below_drew1 | refine below_set ?_ GE137.out) | exact HB.out)⟩⟩
                            · replace c40 := Bool.eq_false_iff.mpr c40
                              subst c40
                              have H1 : (wherryref12_May.j5 kj34 x3_32 1024 a0_0 a0_1 a0_2 a0_3 a0_4 a0_5 a0_6 a0_7 a0_8 a0_9 a0_10 a0_11 l0_12) = some r := by rw [if_neg (show ¬ (false = true) by decide)] at H; exact H
                              clear H
                              have H := H1
                              clear H1
                              have H' := Aside0.mk H
                              clear H
                              go_wp2
                              go_meet
                              case rel => exact ⟨_, (1024), (by first | rfl | (simp; done) | (simp [*]; done)), H', ⟨by have := HJ1.out; have := HJ15.out; have := HJ28.out; have := HJ32.out; have := HJ34.out; first | omega | exact Nat.le_refl _⟩, ⟨by (with_reducible repeat (first | refine blk_drewN ?_ _ | refine blk_drew ?_ | refine blk_alloc ?_ _)); exact BK137.out⟩, ⟨by repeat (first | (with_reducible first | exact HB.out | apply below_alloc | apply pw_below_drewN | apply below_drew1 | refine below_set ?_ GE137.out) | exact HB.out)⟩⟩
                          case rest =>
                            clear HC39
                            try clear c1
                            try clear c2
                            try clear p2
                            try clear c3
                            try clear c4
                            try clear c4b0
                            try clear c6
                            try clear c6b0
                            try clear c8
                            try clear c8b0
                            try clear c10
                            try clear c10b0
                            try clear c12
                            try clear c12b0
                            try clear c12b1
                            try clear c15
                            try clear c17
                            try clear c17b0
                            try clear c17b1
                            try clear c18
                            try clear c18b0
                            try clear c18b1
                            try clear c19
                            try clear c19b0
                            try clear c23
                            try clear c23b0
                            try clear c23b1
                            try clear c25
                            try clear c25b0
                            try clear c28
                            try clear c30
                            try clear c30b0
                            try clear c30b1
                            try clear c34
                            try clear c36
                            try clear c36b0
                            try clear c36b1
                            try clear c40
                            try clear hcz11_0
                            try clear hcz11_1
                            try clear hcz11_10
                            try clear hcz11_11
                            try clear hcz11_12
                            try clear hcz11_2
                            try clear hcz11_3
                            try clear hcz11_4
                            try clear hcz11_5
                            try clear hcz11_6
                            try clear hcz11_7
                            try clear hcz11_8
                            try clear hcz11_9
                            try clear hcz13_0
                            try clear hcz13_1
                            try clear hcz13_10
                            try clear hcz13_11
                            try clear hcz13_12
                            try clear hcz13_2
                            try clear hcz13_3
                            try clear hcz13_4
                            try clear hcz13_5
                            try clear hcz13_6
                            try clear hcz13_7
                            try clear hcz13_8
                            try clear hcz13_9
                            try clear hcz14_0
                            try clear hcz14_1
                            try clear hcz14_10
                            try clear hcz14_11
                            try clear hcz14_12
                            try clear hcz14_2
                            try clear hcz14_3
                            try clear hcz14_4
                            try clear hcz14_5
                            try clear hcz14_6
                            try clear hcz14_7
                            try clear hcz14_8
                            try clear hcz14_9
                            try clear hcz20_0
                            try clear hcz20_1
                            try clear hcz20_10
                            try clear hcz20_11
                            try clear hcz20_12
                            try clear hcz20_2
                            try clear hcz20_3
                            try clear hcz20_4
                            try clear hcz20_5
                            try clear hcz20_6
                            try clear hcz20_7
                            try clear hcz20_8
                            try clear hcz20_9
                            try clear hcz21_0
                            try clear hcz21_1
                            try clear hcz21_10
                            try clear hcz21_11
                            try clear hcz21_12
                            try clear hcz21_2
                            try clear hcz21_3
                            try clear hcz21_4
                            try clear hcz21_5
                            try clear hcz21_6
                            try clear hcz21_7
                            try clear hcz21_8
                            try clear hcz21_9
                            try clear hcz22_0
                            try clear hcz22_1
                            try clear hcz22_10
                            try clear hcz22_11
                            try clear hcz22_12
                            try clear hcz22_2
                            try clear hcz22_3
                            try clear hcz22_4
                            try clear hcz22_5
                            try clear hcz22_6
                            try clear hcz22_7
                            try clear hcz22_8
                            try clear hcz22_9
                            try clear hcz24_0
                            try clear hcz24_1
                            try clear hcz24_10
                            try clear hcz24_11
                            try clear hcz24_12
                            try clear hcz24_2
                            try clear hcz24_3
                            try clear hcz24_4
                            try clear hcz24_5
                            try clear hcz24_6
                            try clear hcz24_7
                            try clear hcz24_8
                            try clear hcz24_9
                            try clear hcz26_0
                            try clear hcz26_1
                            try clear hcz26_10
                            try clear hcz26_11
                            try clear hcz26_12
                            try clear hcz26_2
                            try clear hcz26_3
                            try clear hcz26_4
                            try clear hcz26_5
                            try clear hcz26_6
                            try clear hcz26_7
                            try clear hcz26_8
                            try clear hcz26_9
                            try clear hcz27_0
                            try clear hcz27_1
                            try clear hcz27_10
                            try clear hcz27_11
                            try clear hcz27_12
                            try clear hcz27_2
                            try clear hcz27_3
                            try clear hcz27_4
                            try clear hcz27_5
                            try clear hcz27_6
                            try clear hcz27_7
                            try clear hcz27_8
                            try clear hcz27_9
                            try clear hcz31_0
                            try clear hcz31_1
                            try clear hcz31_10
                            try clear hcz31_11
                            try clear hcz31_12
                            try clear hcz31_2
                            try clear hcz31_3
                            try clear hcz31_4
                            try clear hcz31_5
                            try clear hcz31_6
                            try clear hcz31_7
                            try clear hcz31_8
                            try clear hcz31_9
                            try clear hcz32_0
                            try clear hcz32_1
                            try clear hcz32_10
                            try clear hcz32_11
                            try clear hcz32_12
                            try clear hcz32_2
                            try clear hcz32_3
                            try clear hcz32_4
                            try clear hcz32_5
                            try clear hcz32_6
                            try clear hcz32_7
                            try clear hcz32_8
                            try clear hcz32_9
                            try clear hcz37_0
                            try clear hcz37_1
                            try clear hcz37_10
                            try clear hcz37_11
                            try clear hcz37_12
                            try clear hcz37_2
                            try clear hcz37_3
                            try clear hcz37_4
                            try clear hcz37_5
                            try clear hcz37_6
                            try clear hcz37_7
                            try clear hcz37_8
                            try clear hcz37_9
                            try clear hcz38_0
                            try clear hcz38_1
                            try clear hcz38_10
                            try clear hcz38_11
                            try clear hcz38_12
                            try clear hcz38_2
                            try clear hcz38_3
                            try clear hcz38_4
                            try clear hcz38_5
                            try clear hcz38_6
                            try clear hcz38_7
                            try clear hcz38_8
                            try clear hcz38_9
                            try clear hcz5_0
                            try clear hcz5_1
                            try clear hcz5_10
                            try clear hcz5_11
                            try clear hcz5_12
                            try clear hcz5_2
                            try clear hcz5_3
                            try clear hcz5_4
                            try clear hcz5_5
                            try clear hcz5_6
                            try clear hcz5_7
                            try clear hcz5_8
                            try clear hcz5_9
                            try clear hcz7_0
                            try clear hcz7_1
                            try clear hcz7_10
                            try clear hcz7_11
                            try clear hcz7_12
                            try clear hcz7_2
                            try clear hcz7_3
                            try clear hcz7_4
                            try clear hcz7_5
                            try clear hcz7_6
                            try clear hcz7_7
                            try clear hcz7_8
                            try clear hcz7_9
                            try clear hcz9_0
                            try clear hcz9_1
                            try clear hcz9_10
                            try clear hcz9_11
                            try clear hcz9_12
                            try clear hcz9_2
                            try clear hcz9_3
                            try clear hcz9_4
                            try clear hcz9_5
                            try clear hcz9_6
                            try clear hcz9_7
                            try clear hcz9_8
                            try clear hcz9_9
                            try clear hfz11_0
                            try clear hfz11_1
                            try clear hfz11_10
                            try clear hfz11_11
                            try clear hfz11_12
                            try clear hfz11_2
                            try clear hfz11_3
                            try clear hfz11_4
                            try clear hfz11_5
                            try clear hfz11_6
                            try clear hfz11_7
                            try clear hfz11_8
                            try clear hfz11_9
                            try clear hfz13_0
                            try clear hfz13_1
                            try clear hfz13_10
                            try clear hfz13_11
                            try clear hfz13_12
                            try clear hfz13_2
                            try clear hfz13_3
                            try clear hfz13_4
                            try clear hfz13_5
                            try clear hfz13_6
                            try clear hfz13_7
                            try clear hfz13_8
                            try clear hfz13_9
                            try clear hfz14_0
                            try clear hfz14_1
                            try clear hfz14_10
                            try clear hfz14_11
                            try clear hfz14_12
                            try clear hfz14_2
                            try clear hfz14_3
                            try clear hfz14_4
                            try clear hfz14_5
                            try clear hfz14_6
                            try clear hfz14_7
                            try clear hfz14_8
                            try clear hfz14_9
                            try clear hfz20_0
                            try clear hfz20_1
                            try clear hfz20_10
                            try clear hfz20_11
                            try clear hfz20_12
                            try clear hfz20_2
                            try clear hfz20_3
                            try clear hfz20_4
                            try clear hfz20_5
                            try clear hfz20_6
                            try clear hfz20_7
                            try clear hfz20_8
                            try clear hfz20_9
                            try clear hfz21_0
                            try clear hfz21_1
                            try clear hfz21_10
                            try clear hfz21_11
                            try clear hfz21_12
                            try clear hfz21_2
                            try clear hfz21_3
                            try clear hfz21_4
                            try clear hfz21_5
                            try clear hfz21_6
                            try clear hfz21_7
                            try clear hfz21_8
                            try clear hfz21_9
                            try clear hfz22_0
                            try clear hfz22_1
                            try clear hfz22_10
                            try clear hfz22_11
                            try clear hfz22_12
                            try clear hfz22_2
                            try clear hfz22_3
                            try clear hfz22_4
                            try clear hfz22_5
                            try clear hfz22_6
                            try clear hfz22_7
                            try clear hfz22_8
                            try clear hfz22_9
                            try clear hfz24_0
                            try clear hfz24_1
                            try clear hfz24_10
                            try clear hfz24_11
                            try clear hfz24_12
                            try clear hfz24_2
                            try clear hfz24_3
                            try clear hfz24_4
                            try clear hfz24_5
                            try clear hfz24_6
                            try clear hfz24_7
                            try clear hfz24_8
                            try clear hfz24_9
                            try clear hfz26_0
                            try clear hfz26_1
                            try clear hfz26_10
                            try clear hfz26_11
                            try clear hfz26_12
                            try clear hfz26_2
                            try clear hfz26_3
                            try clear hfz26_4
                            try clear hfz26_5
                            try clear hfz26_6
                            try clear hfz26_7
                            try clear hfz26_8
                            try clear hfz26_9
                            try clear hfz27_0
                            try clear hfz27_1
                            try clear hfz27_10
                            try clear hfz27_11
                            try clear hfz27_12
                            try clear hfz27_2
                            try clear hfz27_3
                            try clear hfz27_4
                            try clear hfz27_5
                            try clear hfz27_6
                            try clear hfz27_7
                            try clear hfz27_8
                            try clear hfz27_9
                            try clear hfz31_0
                            try clear hfz31_1
                            try clear hfz31_10
                            try clear hfz31_11
                            try clear hfz31_12
                            try clear hfz31_2
                            try clear hfz31_3
                            try clear hfz31_4
                            try clear hfz31_5
                            try clear hfz31_6
                            try clear hfz31_7
                            try clear hfz31_8
                            try clear hfz31_9
                            try clear hfz32_0
                            try clear hfz32_1
                            try clear hfz32_10
                            try clear hfz32_11
                            try clear hfz32_12
                            try clear hfz32_2
                            try clear hfz32_3
                            try clear hfz32_4
                            try clear hfz32_5
                            try clear hfz32_6
                            try clear hfz32_7
                            try clear hfz32_8
                            try clear hfz32_9
                            try clear hfz37_0
                            try clear hfz37_1
                            try clear hfz37_10
                            try clear hfz37_11
                            try clear hfz37_12
                            try clear hfz37_2
                            try clear hfz37_3
                            try clear hfz37_4
                            try clear hfz37_5
                            try clear hfz37_6
                            try clear hfz37_7
                            try clear hfz37_8
                            try clear hfz37_9
                            try clear hfz38_0
                            try clear hfz38_1
                            try clear hfz38_10
                            try clear hfz38_11
                            try clear hfz38_12
                            try clear hfz38_2
                            try clear hfz38_3
                            try clear hfz38_4
                            try clear hfz38_5
                            try clear hfz38_6
                            try clear hfz38_7
                            try clear hfz38_8
                            try clear hfz38_9
                            try clear hfz5_0
                            try clear hfz5_1
                            try clear hfz5_10
                            try clear hfz5_11
                            try clear hfz5_12
                            try clear hfz5_2
                            try clear hfz5_3
                            try clear hfz5_4
                            try clear hfz5_5
                            try clear hfz5_6
                            try clear hfz5_7
                            try clear hfz5_8
                            try clear hfz5_9
                            try clear hfz7_0
                            try clear hfz7_1
                            try clear hfz7_10
                            try clear hfz7_11
                            try clear hfz7_12
                            try clear hfz7_2
                            try clear hfz7_3
                            try clear hfz7_4
                            try clear hfz7_5
                            try clear hfz7_6
                            try clear hfz7_7
                            try clear hfz7_8
                            try clear hfz7_9
                            try clear hfz9_0
                            try clear hfz9_1
                            try clear hfz9_10
                            try clear hfz9_11
                            try clear hfz9_12
                            try clear hfz9_2
                            try clear hfz9_3
                            try clear hfz9_4
                            try clear hfz9_5
                            try clear hfz9_6
                            try clear hfz9_7
                            try clear hfz9_8
                            try clear hfz9_9
                            try clear p2
                            obtain ⟨kq, x4_38, rfl, HA, HJ38, BK137, HB⟩ := hcut
                            cases kq with
                            | zero => exact absurd HA.out (by simp [wherryref12_May.j5])
                            | succ kj38 =>
                              have H := HA.out
                              clear HA
                              simp only [wherryref12_May.j5] at H
                              replace H := Option.bind_eq_some_iff.mp H
                              obtain ⟨t138, A410, H⟩ := H
                              replace H : (if (a0_9.size : Int) > x3_32 then (some false) else (if (a0_10.size : Int) > x4_38 then (some false) else (if (a0_11.size : Int) > 32 then (some false) else (if t138 = true then ((wherryref12_text.f kj38 a0_0 a0_1 a0_2 a0_3 a0_4 a0_5 a0_6 a0_7 a0_8 a0_9 a0_10 a0_11 l0_12).bind fun t139 => (some (decide ((t139.size : Int) ≤ 4096)))) else (some false))))) = some r := H
                              have A41 := Aside0.mk A410
                              clear A410
                              by_cases c42 : (a0_9.size : Int) > x3_32
                              · rw [if_pos c42] at H
                                have c42b0 : decide (x3_32 < (a0_9.size : Int)) = true := decide_eq_true c42
                                clear c42
                                obtain rfl := Option.some.inj H
                                have hcz43_0 : wc.cell? ⟨gb137, 0, none⟩ = some (.int .i64 a0_0) := (blk_cell BK137.out 0).trans rfl
                                have hcz43_1 : wc.cell? ⟨gb137, 1, none⟩ = some (.int .i64 a0_1) := (blk_cell BK137.out 1).trans rfl
                                have hcz43_2 : wc.cell? ⟨gb137, 2, none⟩ = some (.int .u64 a0_2) := (blk_cell BK137.out 2).trans rfl
                                have hcz43_3 : wc.cell? ⟨gb137, 3, none⟩ = some (.int .i64 a0_3) := (blk_cell BK137.out 3).trans rfl
                                have hcz43_4 : wc.cell? ⟨gb137, 4, none⟩ = some (.int .u64 a0_4) := (blk_cell BK137.out 4).trans rfl
                                have hcz43_5 : wc.cell? ⟨gb137, 5, none⟩ = some (.int .u64 a0_5) := (blk_cell BK137.out 5).trans rfl
                                have hcz43_6 : wc.cell? ⟨gb137, 6, none⟩ = some (.int .u64 a0_6) := (blk_cell BK137.out 6).trans rfl
                                have hcz43_7 : wc.cell? ⟨gb137, 7, none⟩ = some (.int .i64 a0_7) := (blk_cell BK137.out 7).trans rfl
                                have hcz43_8 : wc.cell? ⟨gb137, 8, none⟩ = some (.int .i64 a0_8) := (blk_cell BK137.out 8).trans rfl
                                have hcz43_9 : wc.cell? ⟨gb137, 9, none⟩ = some (.string a0_9) := (blk_cell BK137.out 9).trans rfl
                                have hcz43_10 : wc.cell? ⟨gb137, 10, none⟩ = some (.string a0_10) := (blk_cell BK137.out 10).trans rfl
                                have hcz43_11 : wc.cell? ⟨gb137, 11, none⟩ = some (.string a0_11) := (blk_cell BK137.out 11).trans rfl
                                have hcz43_12 : wc.cell? ⟨gb137, 12, none⟩ = some (.slice A0_12 l0_12.length c0_12) := (blk_cell BK137.out 12).trans rfl
                                have hfz43_0 := blk_frozen BK137.out 0
                                have hfz43_1 := blk_frozen BK137.out 1
                                have hfz43_2 := blk_frozen BK137.out 2
                                have hfz43_3 := blk_frozen BK137.out 3
                                have hfz43_4 := blk_frozen BK137.out 4
                                have hfz43_5 := blk_frozen BK137.out 5
                                have hfz43_6 := blk_frozen BK137.out 6
                                have hfz43_7 := blk_frozen BK137.out 7
                                have hfz43_8 := blk_frozen BK137.out 8
                                have hfz43_9 := blk_frozen BK137.out 9
                                have hfz43_10 := blk_frozen BK137.out 10
                                have hfz43_11 := blk_frozen BK137.out 11
                                have hfz43_12 := blk_frozen BK137.out 12
                                go_wp2_with (first | ((with_reducible refine gate_callee (f := 21) rfl ?_); refine goesL_ (some 80) rfl rfl Try.func21 (by kernel_rfl) rfl #[.slice A0_12 l0_12.length c0_12] rfl (by (try simp only [List.map_toArray, List.map_cons, List.map_nil]); first | done | rfl | (simp only [List.length_drop, List.length_take]; rfl)) ?_; (with_reducible refine (wherryref09_Right.calls kj38 _ _ l0_12 t138 _ ?side1 ?side2 A41.out).mono ?_); (case side1 => repeat (first | exact (Kd.C_below HR0_12.out HB.out) | (with_reducible refine Kd.C_alloc ?_ _) | (with_reducible refine Kd.C_drewN ?_ _) | (with_reducible refine Kd.C_drew ?_))); (case side2 => exact HC0_12.out); rintro e w44 ⟨rfl, hb⟩; refine ⟨_, rfl, ?_⟩; have n0_ := Aside0.mk (blk_below (g := gb137) (o := .cells #[.int .i64 a0_0, .int .i64 a0_1, .int .u64 a0_2, .int .i64 a0_3, .int .u64 a0_4, .int .u64 a0_5, .int .u64 a0_6, .int .i64 a0_7, .int .i64 a0_8, .string a0_9, .string a0_10, .string a0_11, .slice A0_12 l0_12.length c0_12] 25 (0, 0)) (by (with_reducible repeat (first | refine blk_drewN ?_ _ | refine blk_drew ?_ | refine blk_alloc ?_ _)); exact BK137.out) hb); have n1_ := Aside0.mk (below_step (by repeat (first | (with_reducible first | exact HB.out | apply below_alloc | apply pw_below_drewN | apply below_drew1 | refine below_set ?_ GE137.out) | exact HB.out)) hb); clear BK137; clear HB; have BK137 := n0_; have HB := n1_; clear n0_ n1_; (try clear hb); (try clear hb2); (try clear hk); (try clear hi); have hcz45_0 : w44.cell? ⟨gb137, 0, none⟩ = some (.int .i64 a0_0) := (blk_cell BK137.out 0).trans rfl; have hcz45_1 : w44.cell? ⟨gb137, 1, none⟩ = some (.int .i64 a0_1) := (blk_cell BK137.out 1).trans rfl; have hcz45_2 : w44.cell? ⟨gb137, 2, none⟩ = some (.int .u64 a0_2) := (blk_cell BK137.out 2).trans rfl; have hcz45_3 : w44.cell? ⟨gb137, 3, none⟩ = some (.int .i64 a0_3) := (blk_cell BK137.out 3).trans rfl; have hcz45_4 : w44.cell? ⟨gb137, 4, none⟩ = some (.int .u64 a0_4) := (blk_cell BK137.out 4).trans rfl; have hcz45_5 : w44.cell? ⟨gb137, 5, none⟩ = some (.int .u64 a0_5) := (blk_cell BK137.out 5).trans rfl; have hcz45_6 : w44.cell? ⟨gb137, 6, none⟩ = some (.int .u64 a0_6) := (blk_cell BK137.out 6).trans rfl; have hcz45_7 : w44.cell? ⟨gb137, 7, none⟩ = some (.int .i64 a0_7) := (blk_cell BK137.out 7).trans rfl; have hcz45_8 : w44.cell? ⟨gb137, 8, none⟩ = some (.int .i64 a0_8) := (blk_cell BK137.out 8).trans rfl; have hcz45_9 : w44.cell? ⟨gb137, 9, none⟩ = some (.string a0_9) := (blk_cell BK137.out 9).trans rfl; have hcz45_10 : w44.cell? ⟨gb137, 10, none⟩ = some (.string a0_10) := (blk_cell BK137.out 10).trans rfl; have hcz45_11 : w44.cell? ⟨gb137, 11, none⟩ = some (.string a0_11) := (blk_cell BK137.out 11).trans rfl; have hcz45_12 : w44.cell? ⟨gb137, 12, none⟩ = some (.slice A0_12 l0_12.length c0_12) := (blk_cell BK137.out 12).trans rfl; have hfz45_0 := blk_frozen BK137.out 0; have hfz45_1 := blk_frozen BK137.out 1; have hfz45_2 := blk_frozen BK137.out 2; have hfz45_3 := blk_frozen BK137.out 3; have hfz45_4 := blk_frozen BK137.out 4; have hfz45_5 := blk_frozen BK137.out 5; have hfz45_6 := blk_frozen BK137.out 6; have hfz45_7 := blk_frozen BK137.out 7; have hfz45_8 := blk_frozen BK137.out 8; have hfz45_9 := blk_frozen BK137.out 9; have hfz45_10 := blk_frozen BK137.out 10; have hfz45_11 := blk_frozen BK137.out 11; have hfz45_12 := blk_frozen BK137.out 12))
                                go_ret
                                exact ⟨by first | rfl | (simp [errW_none, errW_some] <;> rfl) | (simp [*, errW_none, errW_some] <;> rfl), by repeat (first | (with_reducible first | exact HB.out | apply below_alloc | apply pw_below_drewN | apply below_drew1 | refine below_set ?_ GE137.out) | exact HB.out)⟩
                              · rw [if_neg c42] at H
                                have c42b0 : decide (x3_32 < (a0_9.size : Int)) = false := decide_eq_false c42
                                clear c42
                                by_cases c46 : (a0_10.size : Int) > x4_38
                                · rw [if_pos c46] at H
                                  have c46b0 : decide (x4_38 < (a0_10.size : Int)) = true := decide_eq_true c46
                                  clear c46
                                  obtain rfl := Option.some.inj H
                                  have hcz47_0 : wc.cell? ⟨gb137, 0, none⟩ = some (.int .i64 a0_0) := (blk_cell BK137.out 0).trans rfl
                                  have hcz47_1 : wc.cell? ⟨gb137, 1, none⟩ = some (.int .i64 a0_1) := (blk_cell BK137.out 1).trans rfl
                                  have hcz47_2 : wc.cell? ⟨gb137, 2, none⟩ = some (.int .u64 a0_2) := (blk_cell BK137.out 2).trans rfl
                                  have hcz47_3 : wc.cell? ⟨gb137, 3, none⟩ = some (.int .i64 a0_3) := (blk_cell BK137.out 3).trans rfl
                                  have hcz47_4 : wc.cell? ⟨gb137, 4, none⟩ = some (.int .u64 a0_4) := (blk_cell BK137.out 4).trans rfl
                                  have hcz47_5 : wc.cell? ⟨gb137, 5, none⟩ = some (.int .u64 a0_5) := (blk_cell BK137.out 5).trans rfl
                                  have hcz47_6 : wc.cell? ⟨gb137, 6, none⟩ = some (.int .u64 a0_6) := (blk_cell BK137.out 6).trans rfl
                                  have hcz47_7 : wc.cell? ⟨gb137, 7, none⟩ = some (.int .i64 a0_7) := (blk_cell BK137.out 7).trans rfl
                                  have hcz47_8 : wc.cell? ⟨gb137, 8, none⟩ = some (.int .i64 a0_8) := (blk_cell BK137.out 8).trans rfl
                                  have hcz47_9 : wc.cell? ⟨gb137, 9, none⟩ = some (.string a0_9) := (blk_cell BK137.out 9).trans rfl
                                  have hcz47_10 : wc.cell? ⟨gb137, 10, none⟩ = some (.string a0_10) := (blk_cell BK137.out 10).trans rfl
                                  have hcz47_11 : wc.cell? ⟨gb137, 11, none⟩ = some (.string a0_11) := (blk_cell BK137.out 11).trans rfl
                                  have hcz47_12 : wc.cell? ⟨gb137, 12, none⟩ = some (.slice A0_12 l0_12.length c0_12) := (blk_cell BK137.out 12).trans rfl
                                  have hfz47_0 := blk_frozen BK137.out 0
                                  have hfz47_1 := blk_frozen BK137.out 1
                                  have hfz47_2 := blk_frozen BK137.out 2
                                  have hfz47_3 := blk_frozen BK137.out 3
                                  have hfz47_4 := blk_frozen BK137.out 4
                                  have hfz47_5 := blk_frozen BK137.out 5
                                  have hfz47_6 := blk_frozen BK137.out 6
                                  have hfz47_7 := blk_frozen BK137.out 7
                                  have hfz47_8 := blk_frozen BK137.out 8
                                  have hfz47_9 := blk_frozen BK137.out 9
                                  have hfz47_10 := blk_frozen BK137.out 10
                                  have hfz47_11 := blk_frozen BK137.out 11
                                  have hfz47_12 := blk_frozen BK137.out 12
                                  go_wp2_with (first | ((with_reducible refine gate_callee (f := 21) rfl ?_); refine goesL_ (some 80) rfl rfl Try.func21 (by kernel_rfl) rfl #[.slice A0_12 l0_12.length c0_12] rfl (by (try simp only [List.map_toArray, List.map_cons, List.map_nil]); first | done | rfl | (simp only [List.length_drop, List.length_take]; rfl)) ?_; (with_reducible refine (wherryref09_Right.calls kj38 _ _ l0_12 t138 _ ?side1 ?side2 A41.out).mono ?_); (case side1 => repeat (first | exact (Kd.C_below HR0_12.out HB.out) | (with_reducible refine Kd.C_alloc ?_ _) | (with_reducible refine Kd.C_drewN ?_ _) | (with_reducible refine Kd.C_drew ?_))); (case side2 => exact HC0_12.out); rintro e w48 ⟨rfl, hb⟩; refine ⟨_, rfl, ?_⟩; have n0_ := Aside0.mk (blk_below (g := gb137) (o := .cells #[.int .i64 a0_0, .int .i64 a0_1, .int .u64 a0_2, .int .i64 a0_3, .int .u64 a0_4, .int .u64 a0_5, .int .u64 a0_6, .int .i64 a0_7, .int .i64 a0_8, .string a0_9, .string a0_10, .string a0_11, .slice A0_12 l0_12.length c0_12] 25 (0, 0)) (by (with_reducible repeat (first | refine blk_drewN ?_ _ | refine blk_drew ?_ | refine blk_alloc ?_ _)); exact BK137.out) hb); have n1_ := Aside0.mk (below_step (by repeat (first | (with_reducible first | exact HB.out | apply below_alloc | apply pw_below_drewN | apply below_drew1 | refine below_set ?_ GE137.out) | exact HB.out)) hb); clear BK137; clear HB; have BK137 := n0_; have HB := n1_; clear n0_ n1_; (try clear hb); (try clear hb2); (try clear hk); (try clear hi); have hcz49_0 : w48.cell? ⟨gb137, 0, none⟩ = some (.int .i64 a0_0) := (blk_cell BK137.out 0).trans rfl; have hcz49_1 : w48.cell? ⟨gb137, 1, none⟩ = some (.int .i64 a0_1) := (blk_cell BK137.out 1).trans rfl; have hcz49_2 : w48.cell? ⟨gb137, 2, none⟩ = some (.int .u64 a0_2) := (blk_cell BK137.out 2).trans rfl; have hcz49_3 : w48.cell? ⟨gb137, 3, none⟩ = some (.int .i64 a0_3) := (blk_cell BK137.out 3).trans rfl; have hcz49_4 : w48.cell? ⟨gb137, 4, none⟩ = some (.int .u64 a0_4) := (blk_cell BK137.out 4).trans rfl; have hcz49_5 : w48.cell? ⟨gb137, 5, none⟩ = some (.int .u64 a0_5) := (blk_cell BK137.out 5).trans rfl; have hcz49_6 : w48.cell? ⟨gb137, 6, none⟩ = some (.int .u64 a0_6) := (blk_cell BK137.out 6).trans rfl; have hcz49_7 : w48.cell? ⟨gb137, 7, none⟩ = some (.int .i64 a0_7) := (blk_cell BK137.out 7).trans rfl; have hcz49_8 : w48.cell? ⟨gb137, 8, none⟩ = some (.int .i64 a0_8) := (blk_cell BK137.out 8).trans rfl; have hcz49_9 : w48.cell? ⟨gb137, 9, none⟩ = some (.string a0_9) := (blk_cell BK137.out 9).trans rfl; have hcz49_10 : w48.cell? ⟨gb137, 10, none⟩ = some (.string a0_10) := (blk_cell BK137.out 10).trans rfl; have hcz49_11 : w48.cell? ⟨gb137, 11, none⟩ = some (.string a0_11) := (blk_cell BK137.out 11).trans rfl; have hcz49_12 : w48.cell? ⟨gb137, 12, none⟩ = some (.slice A0_12 l0_12.length c0_12) := (blk_cell BK137.out 12).trans rfl; have hfz49_0 := blk_frozen BK137.out 0; have hfz49_1 := blk_frozen BK137.out 1; have hfz49_2 := blk_frozen BK137.out 2; have hfz49_3 := blk_frozen BK137.out 3; have hfz49_4 := blk_frozen BK137.out 4; have hfz49_5 := blk_frozen BK137.out 5; have hfz49_6 := blk_frozen BK137.out 6; have hfz49_7 := blk_frozen BK137.out 7; have hfz49_8 := blk_frozen BK137.out 8; have hfz49_9 := blk_frozen BK137.out 9; have hfz49_10 := blk_frozen BK137.out 10; have hfz49_11 := blk_frozen BK137.out 11; have hfz49_12 := blk_frozen BK137.out 12))
                                  go_ret
                                  exact ⟨by first | rfl | (simp [errW_none, errW_some] <;> rfl) | (simp [*, errW_none, errW_some] <;> rfl), by repeat (first | (with_reducible first | exact HB.out | apply below_alloc | apply pw_below_drewN | apply below_drew1 | refine below_set ?_ GE137.out) | exact HB.out)⟩
                                · rw [if_neg c46] at H
                                  have c46b0 : decide (x4_38 < (a0_10.size : Int)) = false := decide_eq_false c46
                                  clear c46
                                  by_cases c50 : (a0_11.size : Int) > 32
                                  · rw [if_pos c50] at H
                                    have c50b0 : decide (32 < (a0_11.size : Int)) = true := decide_eq_true c50
                                    have c50b1 : decide (32 < a0_11.size) = true := decide_eq_true (by omega)
                                    clear c50
                                    obtain rfl := Option.some.inj H
                                    have hcz51_0 : wc.cell? ⟨gb137, 0, none⟩ = some (.int .i64 a0_0) := (blk_cell BK137.out 0).trans rfl
                                    have hcz51_1 : wc.cell? ⟨gb137, 1, none⟩ = some (.int .i64 a0_1) := (blk_cell BK137.out 1).trans rfl
                                    have hcz51_2 : wc.cell? ⟨gb137, 2, none⟩ = some (.int .u64 a0_2) := (blk_cell BK137.out 2).trans rfl
                                    have hcz51_3 : wc.cell? ⟨gb137, 3, none⟩ = some (.int .i64 a0_3) := (blk_cell BK137.out 3).trans rfl
                                    have hcz51_4 : wc.cell? ⟨gb137, 4, none⟩ = some (.int .u64 a0_4) := (blk_cell BK137.out 4).trans rfl
                                    have hcz51_5 : wc.cell? ⟨gb137, 5, none⟩ = some (.int .u64 a0_5) := (blk_cell BK137.out 5).trans rfl
                                    have hcz51_6 : wc.cell? ⟨gb137, 6, none⟩ = some (.int .u64 a0_6) := (blk_cell BK137.out 6).trans rfl
                                    have hcz51_7 : wc.cell? ⟨gb137, 7, none⟩ = some (.int .i64 a0_7) := (blk_cell BK137.out 7).trans rfl
                                    have hcz51_8 : wc.cell? ⟨gb137, 8, none⟩ = some (.int .i64 a0_8) := (blk_cell BK137.out 8).trans rfl
                                    have hcz51_9 : wc.cell? ⟨gb137, 9, none⟩ = some (.string a0_9) := (blk_cell BK137.out 9).trans rfl
                                    have hcz51_10 : wc.cell? ⟨gb137, 10, none⟩ = some (.string a0_10) := (blk_cell BK137.out 10).trans rfl
                                    have hcz51_11 : wc.cell? ⟨gb137, 11, none⟩ = some (.string a0_11) := (blk_cell BK137.out 11).trans rfl
                                    have hcz51_12 : wc.cell? ⟨gb137, 12, none⟩ = some (.slice A0_12 l0_12.length c0_12) := (blk_cell BK137.out 12).trans rfl
                                    have hfz51_0 := blk_frozen BK137.out 0
                                    have hfz51_1 := blk_frozen BK137.out 1
                                    have hfz51_2 := blk_frozen BK137.out 2
                                    have hfz51_3 := blk_frozen BK137.out 3
                                    have hfz51_4 := blk_frozen BK137.out 4
                                    have hfz51_5 := blk_frozen BK137.out 5
                                    have hfz51_6 := blk_frozen BK137.out 6
                                    have hfz51_7 := blk_frozen BK137.out 7
                                    have hfz51_8 := blk_frozen BK137.out 8
                                    have hfz51_9 := blk_frozen BK137.out 9
                                    have hfz51_10 := blk_frozen BK137.out 10
                                    have hfz51_11 := blk_frozen BK137.out 11
                                    have hfz51_12 := blk_frozen BK137.out 12
                                    go_wp2_with (first | ((with_reducible refine gate_callee (f := 21) rfl ?_); refine goesL_ (some 80) rfl rfl Try.func21 (by kernel_rfl) rfl #[.slice A0_12 l0_12.length c0_12] rfl (by (try simp only [List.map_toArray, List.map_cons, List.map_nil]); first | done | rfl | (simp only [List.length_drop, List.length_take]; rfl)) ?_; (with_reducible refine (wherryref09_Right.calls kj38 _ _ l0_12 t138 _ ?side1 ?side2 A41.out).mono ?_); (case side1 => repeat (first | exact (Kd.C_below HR0_12.out HB.out) | (with_reducible refine Kd.C_alloc ?_ _) | (with_reducible refine Kd.C_drewN ?_ _) | (with_reducible refine Kd.C_drew ?_))); (case side2 => exact HC0_12.out); rintro e w52 ⟨rfl, hb⟩; refine ⟨_, rfl, ?_⟩; have n0_ := Aside0.mk (blk_below (g := gb137) (o := .cells #[.int .i64 a0_0, .int .i64 a0_1, .int .u64 a0_2, .int .i64 a0_3, .int .u64 a0_4, .int .u64 a0_5, .int .u64 a0_6, .int .i64 a0_7, .int .i64 a0_8, .string a0_9, .string a0_10, .string a0_11, .slice A0_12 l0_12.length c0_12] 25 (0, 0)) (by (with_reducible repeat (first | refine blk_drewN ?_ _ | refine blk_drew ?_ | refine blk_alloc ?_ _)); exact BK137.out) hb); have n1_ := Aside0.mk (below_step (by repeat (first | (with_reducible first | exact HB.out | apply below_alloc | apply pw_below_drewN | apply below_drew1 | refine below_set ?_ GE137.out) | exact HB.out)) hb); clear BK137; clear HB; have BK137 := n0_; have HB := n1_; clear n0_ n1_; (try clear hb); (try clear hb2); (try clear hk); (try clear hi); have hcz53_0 : w52.cell? ⟨gb137, 0, none⟩ = some (.int .i64 a0_0) := (blk_cell BK137.out 0).trans rfl; have hcz53_1 : w52.cell? ⟨gb137, 1, none⟩ = some (.int .i64 a0_1) := (blk_cell BK137.out 1).trans rfl; have hcz53_2 : w52.cell? ⟨gb137, 2, none⟩ = some (.int .u64 a0_2) := (blk_cell BK137.out 2).trans rfl; have hcz53_3 : w52.cell? ⟨gb137, 3, none⟩ = some (.int .i64 a0_3) := (blk_cell BK137.out 3).trans rfl; have hcz53_4 : w52.cell? ⟨gb137, 4, none⟩ = some (.int .u64 a0_4) := (blk_cell BK137.out 4).trans rfl; have hcz53_5 : w52.cell? ⟨gb137, 5, none⟩ = some (.int .u64 a0_5) := (blk_cell BK137.out 5).trans rfl; have hcz53_6 : w52.cell? ⟨gb137, 6, none⟩ = some (.int .u64 a0_6) := (blk_cell BK137.out 6).trans rfl; have hcz53_7 : w52.cell? ⟨gb137, 7, none⟩ = some (.int .i64 a0_7) := (blk_cell BK137.out 7).trans rfl; have hcz53_8 : w52.cell? ⟨gb137, 8, none⟩ = some (.int .i64 a0_8) := (blk_cell BK137.out 8).trans rfl; have hcz53_9 : w52.cell? ⟨gb137, 9, none⟩ = some (.string a0_9) := (blk_cell BK137.out 9).trans rfl; have hcz53_10 : w52.cell? ⟨gb137, 10, none⟩ = some (.string a0_10) := (blk_cell BK137.out 10).trans rfl; have hcz53_11 : w52.cell? ⟨gb137, 11, none⟩ = some (.string a0_11) := (blk_cell BK137.out 11).trans rfl; have hcz53_12 : w52.cell? ⟨gb137, 12, none⟩ = some (.slice A0_12 l0_12.length c0_12) := (blk_cell BK137.out 12).trans rfl; have hfz53_0 := blk_frozen BK137.out 0; have hfz53_1 := blk_frozen BK137.out 1; have hfz53_2 := blk_frozen BK137.out 2; have hfz53_3 := blk_frozen BK137.out 3; have hfz53_4 := blk_frozen BK137.out 4; have hfz53_5 := blk_frozen BK137.out 5; have hfz53_6 := blk_frozen BK137.out 6; have hfz53_7 := blk_frozen BK137.out 7; have hfz53_8 := blk_frozen BK137.out 8; have hfz53_9 := blk_frozen BK137.out 9; have hfz53_10 := blk_frozen BK137.out 10; have hfz53_11 := blk_frozen BK137.out 11; have hfz53_12 := blk_frozen BK137.out 12))
                                    go_ret
                                    exact ⟨by first | rfl | (simp [errW_none, errW_some] <;> rfl) | (simp [*, errW_none, errW_some] <;> rfl), by repeat (first | (with_reducible first | exact HB.out | apply below_alloc | apply pw_below_drewN | apply below_drew1 | refine below_set ?_ GE137.out) | exact HB.out)⟩
                                  · rw [if_neg c50] at H
                                    have c50b0 : decide (32 < (a0_11.size : Int)) = false := decide_eq_false c50
                                    have c50b1 : decide (32 < a0_11.size) = false := decide_eq_false (by omega)
                                    clear c50
                                    by_cases c54 : t138 = true
                                    · subst c54
                                      have H1 : ((wherryref12_text.f kj38 a0_0 a0_1 a0_2 a0_3 a0_4 a0_5 a0_6 a0_7 a0_8 a0_9 a0_10 a0_11 l0_12).bind fun t139 => (some (decide ((t139.size : Int) ≤ 4096)))) = some r := by rw [if_pos rfl] at H; exact H
                                      clear H
                                      have H := H1
                                      clear H1
                                      replace H := Option.bind_eq_some_iff.mp H
                                      obtain ⟨t139, A550, H⟩ := H
                                      replace H : (some (decide ((t139.size : Int) ≤ 4096))) = some r := H
                                      have A55 := Aside0.mk A550
                                      clear A550
                                      obtain rfl := Option.some.inj H
                                      have hcz56_0 : wc.cell? ⟨gb137, 0, none⟩ = some (.int .i64 a0_0) := (blk_cell BK137.out 0).trans rfl
                                      have hcz56_1 : wc.cell? ⟨gb137, 1, none⟩ = some (.int .i64 a0_1) := (blk_cell BK137.out 1).trans rfl
                                      have hcz56_2 : wc.cell? ⟨gb137, 2, none⟩ = some (.int .u64 a0_2) := (blk_cell BK137.out 2).trans rfl
                                      have hcz56_3 : wc.cell? ⟨gb137, 3, none⟩ = some (.int .i64 a0_3) := (blk_cell BK137.out 3).trans rfl
                                      have hcz56_4 : wc.cell? ⟨gb137, 4, none⟩ = some (.int .u64 a0_4) := (blk_cell BK137.out 4).trans rfl
                                      have hcz56_5 : wc.cell? ⟨gb137, 5, none⟩ = some (.int .u64 a0_5) := (blk_cell BK137.out 5).trans rfl
                                      have hcz56_6 : wc.cell? ⟨gb137, 6, none⟩ = some (.int .u64 a0_6) := (blk_cell BK137.out 6).trans rfl
                                      have hcz56_7 : wc.cell? ⟨gb137, 7, none⟩ = some (.int .i64 a0_7) := (blk_cell BK137.out 7).trans rfl
                                      have hcz56_8 : wc.cell? ⟨gb137, 8, none⟩ = some (.int .i64 a0_8) := (blk_cell BK137.out 8).trans rfl
                                      have hcz56_9 : wc.cell? ⟨gb137, 9, none⟩ = some (.string a0_9) := (blk_cell BK137.out 9).trans rfl
                                      have hcz56_10 : wc.cell? ⟨gb137, 10, none⟩ = some (.string a0_10) := (blk_cell BK137.out 10).trans rfl
                                      have hcz56_11 : wc.cell? ⟨gb137, 11, none⟩ = some (.string a0_11) := (blk_cell BK137.out 11).trans rfl
                                      have hcz56_12 : wc.cell? ⟨gb137, 12, none⟩ = some (.slice A0_12 l0_12.length c0_12) := (blk_cell BK137.out 12).trans rfl
                                      have hfz56_0 := blk_frozen BK137.out 0
                                      have hfz56_1 := blk_frozen BK137.out 1
                                      have hfz56_2 := blk_frozen BK137.out 2
                                      have hfz56_3 := blk_frozen BK137.out 3
                                      have hfz56_4 := blk_frozen BK137.out 4
                                      have hfz56_5 := blk_frozen BK137.out 5
                                      have hfz56_6 := blk_frozen BK137.out 6
                                      have hfz56_7 := blk_frozen BK137.out 7
                                      have hfz56_8 := blk_frozen BK137.out 8
                                      have hfz56_9 := blk_frozen BK137.out 9
                                      have hfz56_10 := blk_frozen BK137.out 10
                                      have hfz56_11 := blk_frozen BK137.out 11
                                      have hfz56_12 := blk_frozen BK137.out 12
                                      go_wp2_with (first | ((with_reducible refine gate_callee (f := 21) rfl ?_); refine goesL_ (some 80) rfl rfl Try.func21 (by kernel_rfl) rfl #[.slice A0_12 l0_12.length c0_12] rfl (by (try simp only [List.map_toArray, List.map_cons, List.map_nil]); first | done | rfl | (simp only [List.length_drop, List.length_take]; rfl)) ?_; (with_reducible refine (wherryref09_Right.calls kj38 _ _ l0_12 true _ ?side1 ?side2 A41.out).mono ?_); (case side1 => repeat (first | exact (Kd.C_below HR0_12.out HB.out) | (with_reducible refine Kd.C_alloc ?_ _) | (with_reducible refine Kd.C_drewN ?_ _) | (with_reducible refine Kd.C_drew ?_))); (case side2 => exact HC0_12.out); rintro e w57 ⟨rfl, hb⟩; refine ⟨_, rfl, ?_⟩; have n0_ := Aside0.mk (blk_below (g := gb137) (o := .cells #[.int .i64 a0_0, .int .i64 a0_1, .int .u64 a0_2, .int .i64 a0_3, .int .u64 a0_4, .int .u64 a0_5, .int .u64 a0_6, .int .i64 a0_7, .int .i64 a0_8, .string a0_9, .string a0_10, .string a0_11, .slice A0_12 l0_12.length c0_12] 25 (0, 0)) (by (with_reducible repeat (first | refine blk_drewN ?_ _ | refine blk_drew ?_ | refine blk_alloc ?_ _)); exact BK137.out) hb); have n1_ := Aside0.mk (below_step (by repeat (first | (with_reducible first | exact HB.out | apply below_alloc | apply pw_below_drewN | apply below_drew1 | refine below_set ?_ GE137.out) | exact HB.out)) hb); clear BK137; clear HB; have BK137 := n0_; have HB := n1_; clear n0_ n1_; (try clear hb); (try clear hb2); (try clear hk); (try clear hi); have hcz58_0 : w57.cell? ⟨gb137, 0, none⟩ = some (.int .i64 a0_0) := (blk_cell BK137.out 0).trans rfl; have hcz58_1 : w57.cell? ⟨gb137, 1, none⟩ = some (.int .i64 a0_1) := (blk_cell BK137.out 1).trans rfl; have hcz58_2 : w57.cell? ⟨gb137, 2, none⟩ = some (.int .u64 a0_2) := (blk_cell BK137.out 2).trans rfl; have hcz58_3 : w57.cell? ⟨gb137, 3, none⟩ = some (.int .i64 a0_3) := (blk_cell BK137.out 3).trans rfl; have hcz58_4 : w57.cell? ⟨gb137, 4, none⟩ = some (.int .u64 a0_4) := (blk_cell BK137.out 4).trans rfl; have hcz58_5 : w57.cell? ⟨gb137, 5, none⟩ = some (.int .u64 a0_5) := (blk_cell BK137.out 5).trans rfl; have hcz58_6 : w57.cell? ⟨gb137, 6, none⟩ = some (.int .u64 a0_6) := (blk_cell BK137.out 6).trans rfl; have hcz58_7 : w57.cell? ⟨gb137, 7, none⟩ = some (.int .i64 a0_7) := (blk_cell BK137.out 7).trans rfl; have hcz58_8 : w57.cell? ⟨gb137, 8, none⟩ = some (.int .i64 a0_8) := (blk_cell BK137.out 8).trans rfl; have hcz58_9 : w57.cell? ⟨gb137, 9, none⟩ = some (.string a0_9) := (blk_cell BK137.out 9).trans rfl; have hcz58_10 : w57.cell? ⟨gb137, 10, none⟩ = some (.string a0_10) := (blk_cell BK137.out 10).trans rfl; have hcz58_11 : w57.cell? ⟨gb137, 11, none⟩ = some (.string a0_11) := (blk_cell BK137.out 11).trans rfl; have hcz58_12 : w57.cell? ⟨gb137, 12, none⟩ = some (.slice A0_12 l0_12.length c0_12) := (blk_cell BK137.out 12).trans rfl; have hfz58_0 := blk_frozen BK137.out 0; have hfz58_1 := blk_frozen BK137.out 1; have hfz58_2 := blk_frozen BK137.out 2; have hfz58_3 := blk_frozen BK137.out 3; have hfz58_4 := blk_frozen BK137.out 4; have hfz58_5 := blk_frozen BK137.out 5; have hfz58_6 := blk_frozen BK137.out 6; have hfz58_7 := blk_frozen BK137.out 7; have hfz58_8 := blk_frozen BK137.out 8; have hfz58_9 := blk_frozen BK137.out 9; have hfz58_10 := blk_frozen BK137.out 10; have hfz58_11 := blk_frozen BK137.out 11; have hfz58_12 := blk_frozen BK137.out 12) | ((with_reducible refine gate_callee (f := 18) rfl ?_); refine goesL_ (some 104) rfl rfl Try.func18 (by kernel_rfl) rfl #[.agg #[.int .i64 a0_0, .int .i64 a0_1, .int .u64 a0_2, .int .i64 a0_3, .int .u64 a0_4, .int .u64 a0_5, .int .u64 a0_6, .int .i64 a0_7, .int .i64 a0_8, .string a0_9, .string a0_10, .string a0_11, .slice A0_12 l0_12.length c0_12]] rfl (by (try simp only [List.map_toArray, List.map_cons, List.map_nil]); first | done | rfl | (simp only [List.length_drop, List.length_take]; rfl)) ?_; (with_reducible refine (wherryref12_text.calls kj38 a0_0 a0_1 a0_2 a0_3 a0_4 a0_5 a0_6 a0_7 a0_8 a0_9 a0_10 a0_11 _ _ l0_12 t139 _ ?side1 ?side2 A55.out).mono ?_); (case side1 => repeat (first | exact (Kd.C_below HR0_12.out HB.out) | (with_reducible refine Kd.C_alloc ?_ _) | (with_reducible refine Kd.C_drewN ?_ _) | (with_reducible refine Kd.C_drew ?_))); (case side2 => exact HC0_12.out); rintro e w59 ⟨rfl, hb⟩; refine ⟨_, rfl, ?_⟩; have n0_ := Aside0.mk (blk_below (g := gb137) (o := .cells #[.int .i64 a0_0, .int .i64 a0_1, .int .u64 a0_2, .int .i64 a0_3, .int .u64 a0_4, .int .u64 a0_5, .int .u64 a0_6, .int .i64 a0_7, .int .i64 a0_8, .string a0_9, .string a0_10, .string a0_11, .slice A0_12 l0_12.length c0_12] 25 (0, 0)) (by (with_reducible repeat (first | refine blk_drewN ?_ _ | refine blk_drew ?_ | refine blk_alloc ?_ _)); exact BK137.out) hb); have n1_ := Aside0.mk (below_step (by repeat (first | (with_reducible first | exact HB.out | apply below_alloc | apply pw_below_drewN | apply below_drew1 | refine below_set ?_ GE137.out) | exact HB.out)) hb); clear BK137; clear HB; have BK137 := n0_; have HB := n1_; clear n0_ n1_; (try clear hb); (try clear hb2); (try clear hk); (try clear hi)))
                                      go_ret
                                      exact ⟨by first | rfl | (simp [errW_none, errW_some] <;> rfl) | (simp [*, errW_none, errW_some] <;> rfl), by repeat (first | (with_reducible first | exact HB.out | apply below_alloc | apply pw_below_drewN | apply below_drew1 | refine below_set ?_ GE137.out) | exact HB.out)⟩
                                    · replace c54 := Bool.eq_false_iff.mpr c54
                                      subst c54
                                      have H1 : (some false) = some r := by rw [if_neg (show ¬ (false = true) by decide)] at H; exact H
                                      clear H
                                      have H := H1
                                      clear H1
                                      obtain rfl := Option.some.inj H
                                      have hcz60_0 : wc.cell? ⟨gb137, 0, none⟩ = some (.int .i64 a0_0) := (blk_cell BK137.out 0).trans rfl
                                      have hcz60_1 : wc.cell? ⟨gb137, 1, none⟩ = some (.int .i64 a0_1) := (blk_cell BK137.out 1).trans rfl
                                      have hcz60_2 : wc.cell? ⟨gb137, 2, none⟩ = some (.int .u64 a0_2) := (blk_cell BK137.out 2).trans rfl
                                      have hcz60_3 : wc.cell? ⟨gb137, 3, none⟩ = some (.int .i64 a0_3) := (blk_cell BK137.out 3).trans rfl
                                      have hcz60_4 : wc.cell? ⟨gb137, 4, none⟩ = some (.int .u64 a0_4) := (blk_cell BK137.out 4).trans rfl
                                      have hcz60_5 : wc.cell? ⟨gb137, 5, none⟩ = some (.int .u64 a0_5) := (blk_cell BK137.out 5).trans rfl
                                      have hcz60_6 : wc.cell? ⟨gb137, 6, none⟩ = some (.int .u64 a0_6) := (blk_cell BK137.out 6).trans rfl
                                      have hcz60_7 : wc.cell? ⟨gb137, 7, none⟩ = some (.int .i64 a0_7) := (blk_cell BK137.out 7).trans rfl
                                      have hcz60_8 : wc.cell? ⟨gb137, 8, none⟩ = some (.int .i64 a0_8) := (blk_cell BK137.out 8).trans rfl
                                      have hcz60_9 : wc.cell? ⟨gb137, 9, none⟩ = some (.string a0_9) := (blk_cell BK137.out 9).trans rfl
                                      have hcz60_10 : wc.cell? ⟨gb137, 10, none⟩ = some (.string a0_10) := (blk_cell BK137.out 10).trans rfl
                                      have hcz60_11 : wc.cell? ⟨gb137, 11, none⟩ = some (.string a0_11) := (blk_cell BK137.out 11).trans rfl
                                      have hcz60_12 : wc.cell? ⟨gb137, 12, none⟩ = some (.slice A0_12 l0_12.length c0_12) := (blk_cell BK137.out 12).trans rfl
                                      have hfz60_0 := blk_frozen BK137.out 0
                                      have hfz60_1 := blk_frozen BK137.out 1
                                      have hfz60_2 := blk_frozen BK137.out 2
                                      have hfz60_3 := blk_frozen BK137.out 3
                                      have hfz60_4 := blk_frozen BK137.out 4
                                      have hfz60_5 := blk_frozen BK137.out 5
                                      have hfz60_6 := blk_frozen BK137.out 6
                                      have hfz60_7 := blk_frozen BK137.out 7
                                      have hfz60_8 := blk_frozen BK137.out 8
                                      have hfz60_9 := blk_frozen BK137.out 9
                                      have hfz60_10 := blk_frozen BK137.out 10
                                      have hfz60_11 := blk_frozen BK137.out 11
                                      have hfz60_12 := blk_frozen BK137.out 12
                                      go_wp2_with (first | ((with_reducible refine gate_callee (f := 21) rfl ?_); refine goesL_ (some 80) rfl rfl Try.func21 (by kernel_rfl) rfl #[.slice A0_12 l0_12.length c0_12] rfl (by (try simp only [List.map_toArray, List.map_cons, List.map_nil]); first | done | rfl | (simp only [List.length_drop, List.length_take]; rfl)) ?_; (with_reducible refine (wherryref09_Right.calls kj38 _ _ l0_12 false _ ?side1 ?side2 A41.out).mono ?_); (case side1 => repeat (first | exact (Kd.C_below HR0_12.out HB.out) | (with_reducible refine Kd.C_alloc ?_ _) | (with_reducible refine Kd.C_drewN ?_ _) | (with_reducible refine Kd.C_drew ?_))); (case side2 => exact HC0_12.out); rintro e w61 ⟨rfl, hb⟩; refine ⟨_, rfl, ?_⟩; have n0_ := Aside0.mk (blk_below (g := gb137) (o := .cells #[.int .i64 a0_0, .int .i64 a0_1, .int .u64 a0_2, .int .i64 a0_3, .int .u64 a0_4, .int .u64 a0_5, .int .u64 a0_6, .int .i64 a0_7, .int .i64 a0_8, .string a0_9, .string a0_10, .string a0_11, .slice A0_12 l0_12.length c0_12] 25 (0, 0)) (by (with_reducible repeat (first | refine blk_drewN ?_ _ | refine blk_drew ?_ | refine blk_alloc ?_ _)); exact BK137.out) hb); have n1_ := Aside0.mk (below_step (by repeat (first | (with_reducible first | exact HB.out | apply below_alloc | apply pw_below_drewN | apply below_drew1 | refine below_set ?_ GE137.out) | exact HB.out)) hb); clear BK137; clear HB; have BK137 := n0_; have HB := n1_; clear n0_ n1_; (try clear hb); (try clear hb2); (try clear hk); (try clear hi); have hcz62_0 : w61.cell? ⟨gb137, 0, none⟩ = some (.int .i64 a0_0) := (blk_cell BK137.out 0).trans rfl; have hcz62_1 : w61.cell? ⟨gb137, 1, none⟩ = some (.int .i64 a0_1) := (blk_cell BK137.out 1).trans rfl; have hcz62_2 : w61.cell? ⟨gb137, 2, none⟩ = some (.int .u64 a0_2) := (blk_cell BK137.out 2).trans rfl; have hcz62_3 : w61.cell? ⟨gb137, 3, none⟩ = some (.int .i64 a0_3) := (blk_cell BK137.out 3).trans rfl; have hcz62_4 : w61.cell? ⟨gb137, 4, none⟩ = some (.int .u64 a0_4) := (blk_cell BK137.out 4).trans rfl; have hcz62_5 : w61.cell? ⟨gb137, 5, none⟩ = some (.int .u64 a0_5) := (blk_cell BK137.out 5).trans rfl; have hcz62_6 : w61.cell? ⟨gb137, 6, none⟩ = some (.int .u64 a0_6) := (blk_cell BK137.out 6).trans rfl; have hcz62_7 : w61.cell? ⟨gb137, 7, none⟩ = some (.int .i64 a0_7) := (blk_cell BK137.out 7).trans rfl; have hcz62_8 : w61.cell? ⟨gb137, 8, none⟩ = some (.int .i64 a0_8) := (blk_cell BK137.out 8).trans rfl; have hcz62_9 : w61.cell? ⟨gb137, 9, none⟩ = some (.string a0_9) := (blk_cell BK137.out 9).trans rfl; have hcz62_10 : w61.cell? ⟨gb137, 10, none⟩ = some (.string a0_10) := (blk_cell BK137.out 10).trans rfl; have hcz62_11 : w61.cell? ⟨gb137, 11, none⟩ = some (.string a0_11) := (blk_cell BK137.out 11).trans rfl; have hcz62_12 : w61.cell? ⟨gb137, 12, none⟩ = some (.slice A0_12 l0_12.length c0_12) := (blk_cell BK137.out 12).trans rfl; have hfz62_0 := blk_frozen BK137.out 0; have hfz62_1 := blk_frozen BK137.out 1; have hfz62_2 := blk_frozen BK137.out 2; have hfz62_3 := blk_frozen BK137.out 3; have hfz62_4 := blk_frozen BK137.out 4; have hfz62_5 := blk_frozen BK137.out 5; have hfz62_6 := blk_frozen BK137.out 6; have hfz62_7 := blk_frozen BK137.out 7; have hfz62_8 := blk_frozen BK137.out 8; have hfz62_9 := blk_frozen BK137.out 9; have hfz62_10 := blk_frozen BK137.out 10; have hfz62_11 := blk_frozen BK137.out 11; have hfz62_12 := blk_frozen BK137.out 12))
                                      go_ret
                                      exact ⟨by first | rfl | (simp [errW_none, errW_some] <;> rfl) | (simp [*, errW_none, errW_some] <;> rfl), by repeat (first | (with_reducible first | exact HB.out | apply below_alloc | apply pw_below_drewN | apply below_drew1 | refine below_set ?_ GE137.out) | exact HB.out)⟩
end Go.Proofs.Ytcfdbdmefdffdaa.GA
