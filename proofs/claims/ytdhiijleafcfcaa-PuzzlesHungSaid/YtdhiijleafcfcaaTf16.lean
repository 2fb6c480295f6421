-- PRINTED by print.py (a twelfth state) out of the translation. Not trusted: Lean checks it.
import Derived.Test.YtdhiijleafcfcaaT0
import Derived.Test.YtdhiijleafcfcaaTo
import Derived.Test.YtdhiijleafcfcaaTh
import Derived.Test.YtdhiijleafcfcaaThr
import Derived.Test.YtdhiijleafcfcaaHg
import Derived.Test.YtdhiijleafcfcaaWk
namespace Go.Proofs.Ytdhiijleafcfcaa.T
open Go.RowKit Go.Proofs.YtdhiijleafcfcaaW.PrintWords Go.Proofs.YtdhiijleafcfcaaW.PrintLast Go.Proofs.YtdhiijleafcfcaaW.PrintMore
attribute [local go_sem] max2_int min2_int max_two min_two max_three min_three max_four min_four   -- for this text's walks alone
set_option linter.unusedVariables false
set_option linter.unusedSimpArgs false

/-! ### padlocklaw03_PuzzlesHung: function 16 -/
mutual
def padlocklaw03_PuzzlesHung.j0 : Nat → Int → List (S76) → Bool → Int → Int → Int → Int → Bool → Option (Bool)
 | 0, _, _, _, _, _, _, _, _ => none
 | k + 1, x0, x1, x34, x766000, x766001, x766002, x766003, x766004 => if x34 = true then ((padlocklaw03_works.f k).bind fun t771 => (some t771)) else ((puzzles_Hangings.f k x0 x1).bind fun bt773 => (if ([] : List (S76)).length + x1.length < 3518437208883 then ((some (([] : List (S76)) ++ x1 : List (S76))).bind fun y775 => ((some (([(⟨x766000, x766001, x766002, x766003, x766004⟩ : S76)] : List (S76)) : List (S76))).bind fun y778 => (if y775.length + y778.length < 3518437208883 then ((puzzles_Hangings.f k x0 (y775 ++ y778)).bind fun bt784 => ((some (([] : List (S76)) ++ x1 : List (S76))).bind fun y786 => ((some (([(⟨x766000, x766001, x766002, x766003, !x766004⟩ : S76)] : List (S76)) : List (S76))).bind fun y789 => (if y786.length + y789.length < 3518437208883 then ((puzzles_Hangings.f k x0 (y786 ++ y789)).bind fun bt795 => ((puzzles_Hang.f k x0 x1 64).bind fun bt797 => (if bt773.2 = 0 then (if bt784.2 = 0 then (if bt795.2 = 0 then (if bt797.2 = 0 then (if (wrap64 (bt784.1 + bt795.1)) = bt773.1 then (padlocklaw03_PuzzlesHung.j1 k x0 x1 bt797.1 ((bt797.1.length : Int) != (mn bt773.1 64))) else (padlocklaw03_PuzzlesHung.j1 k x0 x1 bt797.1 true)) else (padlocklaw03_PuzzlesHung.j1 k x0 x1 bt797.1 true)) else (padlocklaw03_PuzzlesHung.j1 k x0 x1 bt797.1 true)) else (padlocklaw03_PuzzlesHung.j1 k x0 x1 bt797.1 true)) else (padlocklaw03_PuzzlesHung.j1 k x0 x1 bt797.1 true)))) else (none))))) else (none)))) else (none)))
def padlocklaw03_PuzzlesHung.j1 : Nat → Int → List (S76) → List (List Int) → Bool → Option (Bool)
 | 0, _, _, _, _ => none
 | k + 1, x0, x1, x14, x100 => if x100 = true then (some false) else (padlocklaw03_PuzzlesHung.l0 k x0 x1 x14 0)
def padlocklaw03_PuzzlesHung.l0 : Nat → Int → List (S76) → List (List Int) → Int → Option (Bool)
 | 0, _, _, _, _ => none
 | k + 1, x0, x1, x14, x16 => if x16 < (x14.length : Int) then (if 0 ≤ x16 then (if ((rd_L1 x14 x16).length : Int) = x0 then (if x16 > 0 then (if 0 ≤ (wrap64 (x16 - 1)) then (if (wrap64 (x16 - 1)) < (x14.length : Int) then ((padlocklaw03_earlier.f k (rd_L1 x14 (wrap64 (x16 - 1))) (rd_L1 x14 x16)).bind fun t805 => (padlocklaw03_PuzzlesHung.j3 k x0 x1 x14 x16 (!t805))) else (none)) else (none)) else (padlocklaw03_PuzzlesHung.j3 k x0 x1 x14 x16 false)) else (padlocklaw03_PuzzlesHung.j3 k x0 x1 x14 x16 true)) else (none)) else ((padlocklaw03_works.f k).bind fun t801 => (some t801))
def padlocklaw03_PuzzlesHung.j3 : Nat → Int → List (S76) → List (List Int) → Int → Bool → Option (Bool)
 | 0, _, _, _, _, _ => none
 | k + 1, x0, x1, x14, x16, x130 => if x130 = true then (some false) else (padlocklaw03_PuzzlesHung.l1 k x0 x1 x14 x16 0)
def padlocklaw03_PuzzlesHung.l1 : Nat → Int → List (S76) → List (List Int) → Int → Int → Option (Bool)
 | 0, _, _, _, _, _ => none
 | k + 1, x0, x1, x14, x16, x17 => if x17 < x0 then (if 0 ≤ x16 then (if x16 < (x14.length : Int) then ((padlocklaw03_has.f k (rd_L1 x14 x16) x17).bind fun t807 => (if t807 = true then (padlocklaw03_PuzzlesHung.l1 k x0 x1 x14 x16 (wrap64 (x17 + 1))) else (some false))) else (none)) else (none)) else (padlocklaw03_PuzzlesHung.l2 k x0 x1 x14 x16 0)
def padlocklaw03_PuzzlesHung.l2 : Nat → Int → List (S76) → List (List Int) → Int → Int → Option (Bool)
 | 0, _, _, _, _, _ => none
 | k + 1, x0, x1, x14, x16, x18 => if x18 < (x1.length : Int) then (if 0 ≤ x18 then (if 0 ≤ x16 then (if x16 < (x14.length : Int) then ((padlockref03_True.f k ((rd_T76 x1 x18).f0) ((rd_T76 x1 x18).f1) ((rd_T76 x1 x18).f2) ((rd_T76 x1 x18).f3) ((rd_T76 x1 x18).f4) (rd_L1 x14 x16)).bind fun t810 => (if t810 = true then (padlocklaw03_PuzzlesHung.l2 k x0 x1 x14 x16 (wrap64 (x18 + 1))) else (some false))) else (none)) else (none)) else (none)) else (padlocklaw03_PuzzlesHung.l0 k x0 x1 x14 (wrap64 (x16 + 1)))
end
def padlocklaw03_PuzzlesHung.f (k : Nat) (a0 : Int) (l1 : List (S76)) (a2_0 : Int) (a2_1 : Int) (a2_2 : Int) (a2_3 : Int) (a2_4 : Bool) : Option (Bool) := (padlockref03_CheckPortraits.f k a0 l1).bind fun t766 => (if t766 = 0 then ((padlockref03_CheckPortraits.f k a0 (([(⟨a2_0, a2_1, a2_2, a2_3, a2_4⟩ : S76)] : List (S76)))).bind fun t770 => (if t770 = 0 then (padlocklaw03_PuzzlesHung.j0 k a0 l1 (decide ((l1.length : Int) ≥ 20)) a2_0 a2_1 a2_2 a2_3 a2_4) else (padlocklaw03_PuzzlesHung.j0 k a0 l1 true a2_0 a2_1 a2_2 a2_3 a2_4))) else (padlocklaw03_PuzzlesHung.j0 k a0 l1 true a2_0 a2_1 a2_2 a2_3 a2_4))
theorem padlocklaw03_PuzzlesHung.mono_l : ∀ k, (∀ y0 y1 y2 y3 y4 y5 y6 y7, LeO (padlocklaw03_PuzzlesHung.j0 k y0 y1 y2 y3 y4 y5 y6 y7) (padlocklaw03_PuzzlesHung.j0 (k + 1) y0 y1 y2 y3 y4 y5 y6 y7)) ∧ (∀ y0 y1 y2 y3, LeO (padlocklaw03_PuzzlesHung.j1 k y0 y1 y2 y3) (padlocklaw03_PuzzlesHung.j1 (k + 1) y0 y1 y2 y3)) ∧ (∀ y0 y1 y2 y3, LeO (padlocklaw03_PuzzlesHung.l0 k y0 y1 y2 y3) (padlocklaw03_PuzzlesHung.l0 (k + 1) y0 y1 y2 y3)) ∧ (∀ y0 y1 y2 y3 y4, LeO (padlocklaw03_PuzzlesHung.j3 k y0 y1 y2 y3 y4) (padlocklaw03_PuzzlesHung.j3 (k + 1) y0 y1 y2 y3 y4)) ∧ (∀ y0 y1 y2 y3 y4, LeO (padlocklaw03_PuzzlesHung.l1 k y0 y1 y2 y3 y4) (padlocklaw03_PuzzlesHung.l1 (k + 1) y0 y1 y2 y3 y4)) ∧ (∀ y0 y1 y2 y3 y4, LeO (padlocklaw03_PuzzlesHung.l2 k y0 y1 y2 y3 y4) (padlocklaw03_PuzzlesHung.l2 (k + 1) y0 y1 y2 y3 y4))
 | 0 => ⟨fun _ _ _ _ _ _ _ _ r h => by simp [padlocklaw03_PuzzlesHung.j0] at h, fun _ _ _ _ r h => by simp [padlocklaw03_PuzzlesHung.j1] at h, fun _ _ _ _ r h => by simp [padlocklaw03_PuzzlesHung.l0] at h, fun _ _ _ _ _ r h => by simp [padlocklaw03_PuzzlesHung.j3] at h, fun _ _ _ _ _ r h => by simp [padlocklaw03_PuzzlesHung.l1] at h, fun _ _ _ _ _ r h => by simp [padlocklaw03_PuzzlesHung.l2] at h⟩
 | k + 1 => by
  obtain ⟨ih0, ih1, ih2, ih3, ih4, ih5⟩ := padlocklaw03_PuzzlesHung.mono_l k
  refine ⟨?_, ?_, ?_, ?_, ?_, ?_⟩
  ·intro y0 y1 y2 y3 y4 y5 y6 y7
   unfold padlocklaw03_PuzzlesHung.j0
   repeat' first
   | (with_reducible exact ih0 _ _ _ _ _ _ _ _)
   | (with_reducible exact ih1 _ _ _ _)
   | (with_reducible exact ih2 _ _ _ _)
   | (with_reducible exact ih3 _ _ _ _ _)
   | (with_reducible exact ih4 _ _ _ _ _)
   | (with_reducible exact ih5 _ _ _ _ _)
   | (with_reducible exact padlocklaw03_earlier.mono _ _ _)
   | (with_reducible exact padlocklaw03_has.mono _ _ _)
   | (with_reducible exact padlocklaw03_works.mono _)
   | (with_reducible exact padlockref03_CheckPortraits.mono _ _ _)
   | (with_reducible exact padlockref03_True.mono _ _ _ _ _ _ _)
   | (with_reducible exact puzzles_Hang.mono _ _ _ _)
   | (with_reducible exact puzzles_Hangings.mono _ _ _)
   | (with_reducible exact LeO.refl _)
   | (with_reducible exact LeO.none _)
   | (with_reducible refine LeO.ite ?_ ?_)
   | (with_reducible refine LeO.bind ?_ (fun _ => ?_))
   | exact ih0 _ _ _ _ _ _ _ _
   | exact ih1 _ _ _ _
   | exact ih2 _ _ _ _
   | exact ih3 _ _ _ _ _
   | exact ih4 _ _ _ _ _
   | exact ih5 _ _ _ _ _
   | exact padlocklaw03_earlier.mono _ _ _
   | exact padlocklaw03_has.mono _ _ _
   | exact padlocklaw03_works.mono _
   | exact padlockref03_CheckPortraits.mono _ _ _
   | exact padlockref03_True.mono _ _ _ _ _ _ _
   | exact puzzles_Hang.mono _ _ _ _
   | exact puzzles_Hangings.mono _ _ _
   | exact LeO.none _
   | refine LeO.ite ?_ ?_
   | refine LeO.bind ?_ (fun _ => ?_)
  ·intro y0 y1 y2 y3
   unfold padlocklaw03_PuzzlesHung.j1
   repeat' first
   | (with_reducible exact ih0 _ _ _ _ _ _ _ _)
   | (with_reducible exact ih1 _ _ _ _)
   | (with_reducible exact ih2 _ _ _ _)
   | (with_reducible exact ih3 _ _ _ _ _)
   | (with_reducible exact ih4 _ _ _ _ _)
   | (with_reducible exact ih5 _ _ _ _ _)
   | (with_reducible exact padlocklaw03_earlier.mono _ _ _)
   | (with_reducible exact padlocklaw03_has.mono _ _ _)
   | (with_reducible exact padlocklaw03_works.mono _)
   | (with_reducible exact padlockref03_CheckPortraits.mono _ _ _)
   | (with_reducible exact padlockref03_True.mono _ _ _ _ _ _ _)
   | (with_reducible exact puzzles_Hang.mono _ _ _ _)
   | (with_reducible exact puzzles_Hangings.mono _ _ _)
   | (with_reducible exact LeO.refl _)
   | (with_reducible exact LeO.none _)
   | (with_reducible refine LeO.ite ?_ ?_)
   | (with_reducible refine LeO.bind ?_ (fun _ => ?_))
   | exact ih0 _ _ _ _ _ _ _ _
   | exact ih1 _ _ _ _
   | exact ih2 _ _ _ _
   | exact ih3 _ _ _ _ _
   | exact ih4 _ _ _ _ _
   | exact ih5 _ _ _ _ _
   | exact padlocklaw03_earlier.mono _ _ _
   | exact padlocklaw03_has.mono _ _ _
   | exact padlocklaw03_works.mono _
   | exact padlockref03_CheckPortraits.mono _ _ _
   | exact padlockref03_True.mono _ _ _ _ _ _ _
   | exact puzzles_Hang.mono _ _ _ _
   | exact puzzles_Hangings.mono _ _ _
   | exact LeO.none _
   | refine LeO.ite ?_ ?_
   | refine LeO.bind ?_ (fun _ => ?_)
  ·intro y0 y1 y2 y3
   unfold padlocklaw03_PuzzlesHung.l0
   repeat' first
   | (with_reducible exact ih0 _ _ _ _ _ _ _ _)
   | (with_reducible exact ih1 _ _ _ _)
   | (with_reducible exact ih2 _ _ _ _)
   | (with_reducible exact ih3 _ _ _ _ _)
   | (with_reducible exact ih4 _ _ _ _ _)
   | (with_reducible exact ih5 _ _ _ _ _)
   | (with_reducible exact padlocklaw03_earlier.mono _ _ _)
   | (with_reducible exact padlocklaw03_has.mono _ _ _)
   | (with_reducible exact padlocklaw03_works.mono _)
   | (with_reducible exact padlockref03_CheckPortraits.mono _ _ _)
   | (with_reducible exact padlockref03_True.mono _ _ _ _ _ _ _)
   | (with_reducible exact puzzles_Hang.mono _ _ _ _)
   | (with_reducible exact puzzles_Hangings.mono _ _ _)
   | (with_reducible exact LeO.refl _)
   | (with_reducible exact LeO.none _)
   | (with_reducible refine LeO.ite ?_ ?_)
   | (with_reducible refine LeO.bind ?_ (fun _ => ?_))
   | exact ih0 _ _ _ _ _ _ _ _
   | exact ih1 _ _ _ _
   | exact ih2 _ _ _ _
   | exact ih3 _ _ _ _ _
   | exact ih4 _ _ _ _ _
   | exact ih5 _ _ _ _ _
   | exact padlocklaw03_earlier.mono _ _ _
   | exact padlocklaw03_has.mono _ _ _
   | exact padlocklaw03_works.mono _
   | exact padlockref03_CheckPortraits.mono _ _ _
   | exact padlockref03_True.mono _ _ _ _ _ _ _
   | exact puzzles_Hang.mono _ _ _ _
   | exact puzzles_Hangings.mono _ _ _
   | exact LeO.none _
   | refine LeO.ite ?_ ?_
   | refine LeO.bind ?_ (fun _ => ?_)
  ·intro y0 y1 y2 y3 y4
   unfold padlocklaw03_PuzzlesHung.j3
   repeat' first
   | (with_reducible exact ih0 _ _ _ _ _ _ _ _)
   | (with_reducible exact ih1 _ _ _ _)
   | (with_reducible exact ih2 _ _ _ _)
   | (with_reducible exact ih3 _ _ _ _ _)
   | (with_reducible exact ih4 _ _ _ _ _)
   | (with_reducible exact ih5 _ _ _ _ _)
   | (with_reducible exact padlocklaw03_earlier.mono _ _ _)
   | (with_reducible exact padlocklaw03_has.mono _ _ _)
   | (with_reducible exact padlocklaw03_works.mono _)
   | (with_reducible exact padlockref03_CheckPortraits.mono _ _ _)
   | (with_reducible exact padlockref03_True.mono _ _ _ _ _ _ _)
   | (with_reducible exact puzzles_Hang.mono _ _ _ _)
   | (with_reducible exact puzzles_Hangings.mono _ _ _)
   | (with_reducible exact LeO.refl _)
   | (with_reducible exact LeO.none _)
   | (with_reducible refine LeO.ite ?_ ?_)
   | (with_reducible refine LeO.bind ?_ (fun _ => ?_))
   | exact ih0 _ _ _ _ _ _ _ _
   | exact ih1 _ _ _ _
   | exact ih2 _ _ _ _
   | exact ih3 _ _ _ _ _
   | exact ih4 _ _ _ _ _
   | exact ih5 _ _ _ _ _
   | exact padlocklaw03_earlier.mono _ _ _
   | exact padlocklaw03_has.mono _ _ _
   | exact padlocklaw03_works.mono _
   | exact padlockref03_CheckPortraits.mono _ _ _
   | exact padlockref03_True.mono _ _ _ _ _ _ _
   | exact puzzles_Hang.mono _ _ _ _
   | exact puzzles_Hangings.mono _ _ _
   | exact LeO.none _
   | refine LeO.ite ?_ ?_
   | refine LeO.bind ?_ (fun _ => ?_)
  ·intro y0 y1 y2 y3 y4
   unfold padlocklaw03_PuzzlesHung.l1
   repeat' first
   | (with_reducible exact ih0 _ _ _ _ _ _ _ _)
   | (with_reducible exact ih1 _ _ _ _)
   | (with_reducible exact ih2 _ _ _ _)
   | (with_reducible exact ih3 _ _ _ _ _)
   | (with_reducible exact ih4 _ _ _ _ _)
   | (with_reducible exact ih5 _ _ _ _ _)
   | (with_reducible exact padlocklaw03_earlier.mono _ _ _)
   | (with_reducible exact padlocklaw03_has.mono _ _ _)
   | (with_reducible exact padlocklaw03_works.mono _)
   | (with_reducible exact padlockref03_CheckPortraits.mono _ _ _)
   | (with_reducible exact padlockref03_True.mono _ _ _ _ _ _ _)
   | (with_reducible exact puzzles_Hang.mono _ _ _ _)
   | (with_reducible exact puzzles_Hangings.mono _ _ _)
   | (with_reducible exact LeO.refl _)
   | (with_reducible exact LeO.none _)
   | (with_reducible refine LeO.ite ?_ ?_)
   | (with_reducible refine LeO.bind ?_ (fun _ => ?_))
   | exact ih0 _ _ _ _ _ _ _ _
   | exact ih1 _ _ _ _
   | exact ih2 _ _ _ _
   | exact ih3 _ _ _ _ _
   | exact ih4 _ _ _ _ _
   | exact ih5 _ _ _ _ _
   | exact padlocklaw03_earlier.mono _ _ _
   | exact padlocklaw03_has.mono _ _ _
   | exact padlocklaw03_works.mono _
   | exact padlockref03_CheckPortraits.mono _ _ _
   | exact padlockref03_True.mono _ _ _ _ _ _ _
   | exact puzzles_Hang.mono _ _ _ _
   | exact puzzles_Hangings.mono _ _ _
   | exact LeO.none _
   | refine LeO.ite ?_ ?_
   | refine LeO.bind ?_ (fun _ => ?_)
  ·intro y0 y1 y2 y3 y4
   unfold padlocklaw03_PuzzlesHung.l2
   repeat' first
   | (with_reducible exact ih0 _ _ _ _ _ _ _ _)
   | (with_reducible exact ih1 _ _ _ _)
   | (with_reducible exact ih2 _ _ _ _)
   | (with_reducible exact ih3 _ _ _ _ _)
   | (with_reducible exact ih4 _ _ _ _ _)
   | (with_reducible exact ih5 _ _ _ _ _)
   | (with_reducible exact padlocklaw03_earlier.mono _ _ _)
   | (with_reducible exact padlocklaw03_has.mono _ _ _)
   | (with_reducible exact padlocklaw03_works.mono _)
   | (with_reducible exact padlockref03_CheckPortraits.mono _ _ _)
   | (with_reducible exact padlockref03_True.mono _ _ _ _ _ _ _)
   | (with_reducible exact puzzles_Hang.mono _ _ _ _)
   | (with_reducible exact puzzles_Hangings.mono _ _ _)
   | (with_reducible exact LeO.refl _)
   | (with_reducible exact LeO.none _)
   | (with_reducible refine LeO.ite ?_ ?_)
   | (with_reducible refine LeO.bind ?_ (fun _ => ?_))
   | exact ih0 _ _ _ _ _ _ _ _
   | exact ih1 _ _ _ _
   | exact ih2 _ _ _ _
   | exact ih3 _ _ _ _ _
   | exact ih4 _ _ _ _ _
   | exact ih5 _ _ _ _ _
   | exact padlocklaw03_earlier.mono _ _ _
   | exact padlocklaw03_has.mono _ _ _
   | exact padlocklaw03_works.mono _
   | exact padlockref03_CheckPortraits.mono _ _ _
   | exact padlockref03_True.mono _ _ _ _ _ _ _
   | exact puzzles_Hang.mono _ _ _ _
   | exact puzzles_Hangings.mono _ _ _
   | exact LeO.none _
   | refine LeO.ite ?_ ?_
   | refine LeO.bind ?_ (fun _ => ?_)
theorem padlocklaw03_PuzzlesHung.mono : ∀ a0 a1 a2 a3 a4 a5 a6 k, LeO (padlocklaw03_PuzzlesHung.f k a0 a1 a2 a3 a4 a5 a6) (padlocklaw03_PuzzlesHung.f (k + 1) a0 a1 a2 a3 a4 a5 a6) := by
 intro a0 a1 a2 a3 a4 a5 a6 k
 obtain ⟨ih0, ih1, ih2, ih3, ih4, ih5⟩ := padlocklaw03_PuzzlesHung.mono_l k
 unfold padlocklaw03_PuzzlesHung.f
 repeat' first
   | (with_reducible exact ih0 _ _ _ _ _ _ _ _)
   | (with_reducible exact ih1 _ _ _ _)
   | (with_reducible exact ih2 _ _ _ _)
   | (with_reducible exact ih3 _ _ _ _ _)
   | (with_reducible exact ih4 _ _ _ _ _)
   | (with_reducible exact ih5 _ _ _ _ _)
   | (with_reducible exact padlocklaw03_earlier.mono _ _ _)
   | (with_reducible exact padlocklaw03_has.mono _ _ _)
   | (with_reducible exact padlocklaw03_works.mono _)
   | (with_reducible exact padlockref03_CheckPortraits.mono _ _ _)
   | (with_reducible exact padlockref03_True.mono _ _ _ _ _ _ _)
   | (with_reducible exact puzzles_Hang.mono _ _ _ _)
   | (with_reducible exact puzzles_Hangings.mono _ _ _)
   | (with_reducible exact LeO.refl _)
   | (with_reducible exact LeO.none _)
   | (with_reducible refine LeO.ite ?_ ?_)
   | (with_reducible refine LeO.bind ?_ (fun _ => ?_))
   | exact ih0 _ _ _ _ _ _ _ _
   | exact ih1 _ _ _ _
   | exact ih2 _ _ _ _
   | exact ih3 _ _ _ _ _
   | exact ih4 _ _ _ _ _
   | exact ih5 _ _ _ _ _
   | exact padlocklaw03_earlier.mono _ _ _
   | exact padlocklaw03_has.mono _ _ _
   | exact padlocklaw03_works.mono _
   | exact padlockref03_CheckPortraits.mono _ _ _
   | exact padlockref03_True.mono _ _ _ _ _ _ _
   | exact puzzles_Hang.mono _ _ _ _
   | exact puzzles_Hangings.mono _ _ _
   | exact LeO.none _
   | refine LeO.ite ?_ ?_
   | refine LeO.bind ?_ (fun _ => ?_)
def padlocklaw03_PuzzlesHung.T6 : Bool × List (List Nat × List Nat) := (true, [([], []), ([], []), ([1], [1]), ([], []), ([3], [3]), ([2, 4, 2], [2, 4]), ([0, 5, 5], [0, 5]), ([6], [6]), ([7], [7]), ([7], [7]), ([8, 6, 0, 1, 2, 3, 4, 5, 6, 7, 8], [8]), ([9, 10, 0, 1, 2, 3, 4, 5, 6, 7, 8, 9, 10], [9])])
def padlocklaw03_PuzzlesHung.B6 : List Nat := [0, 0, 2, 0, 8, 30, 63, 127, 255, 255, 511, 2047]
theorem padlocklaw03_PuzzlesHung.tab6 : rtab .any (opsOf Try.f16 6) = padlocklaw03_PuzzlesHung.T6 := by kernel_rfl
theorem padlocklaw03_PuzzlesHung.bits6 : waitsOk padlocklaw03_PuzzlesHung.T6.2 padlocklaw03_PuzzlesHung.B6 = true := by kernel_rfl
def padlocklaw03_PuzzlesHung.T7 : Bool × List (List Nat × List Nat) := (true, [([], []), ([], []), ([1], [1]), ([], []), ([3], [3]), ([2, 4, 2], [2, 4]), ([0, 5, 5], [0, 5]), ([6], [6]), ([7], [7]), ([7], [7]), ([8, 6, 0, 1, 2, 3, 4, 5, 6, 7, 8], [8]), ([9, 10, 0, 1, 2, 3, 4, 5, 6, 7, 8, 9, 10], [9])])
def padlocklaw03_PuzzlesHung.B7 : List Nat := [0, 0, 2, 0, 8, 30, 63, 127, 255, 255, 511, 2047]
theorem padlocklaw03_PuzzlesHung.tab7 : rtab .any (opsOf Try.f16 7) = padlocklaw03_PuzzlesHung.T7 := by kernel_rfl
theorem padlocklaw03_PuzzlesHung.bits7 : waitsOk padlocklaw03_PuzzlesHung.T7.2 padlocklaw03_PuzzlesHung.B7 = true := by kernel_rfl
def padlocklaw03_PuzzlesHung.T14 : Bool × List (List Nat × List Nat) := (true, [([], []), ([], []), ([0, 1], [0, 1]), ([2], [2]), ([3], [3]), ([], []), ([4, 5], [4, 5]), ([6], [6]), ([7], [7]), ([8, 7], [7, 8]), ([9, 7, 7], [7, 9]), ([10], [10]), ([10], [10]), ([12, 10], [10, 12]), ([11, 13, 10], [10, 11, 13]), ([14, 10], [10, 14]), ([10], [10]), ([10], [10]), ([16, 17, 10], [10, 16, 17]), ([18, 10], [10, 18]), ([15, 19, 10, 10], [10, 15, 19]), ([20, 10], [10, 20]), ([10, 21, 7], [7, 10, 21]), ([7, 22], [7, 22])])
def padlocklaw03_PuzzlesHung.B14 : List Nat := [0, 0, 3, 7, 15, 0, 63, 127, 255, 511, 1023, 2047, 2047, 6143, 16383, 32767, 2047, 2047, 198655, 460799, 1048575, 2097151, 4194303, 8388607]
theorem padlocklaw03_PuzzlesHung.tab14 : rtab .any (opsOf Try.f16 14) = padlocklaw03_PuzzlesHung.T14 := by kernel_rfl
theorem padlocklaw03_PuzzlesHung.bits14 : waitsOk padlocklaw03_PuzzlesHung.T14.2 padlocklaw03_PuzzlesHung.B14 = true := by kernel_rfl
def padlocklaw03_PuzzlesHung.T24 : Bool × List (List Nat × List Nat) := (true, [([], []), ([], []), ([0, 1], [0, 1]), ([2], [2]), ([], []), ([], []), ([4, 5], [4, 5]), ([6], [6]), ([3, 7], [3, 7]), ([8], [8])])
def padlocklaw03_PuzzlesHung.B24 : List Nat := [0, 0, 3, 7, 0, 0, 48, 112, 255, 511]
theorem padlocklaw03_PuzzlesHung.tab24 : rtab .any (opsOf Try.f16 24) = padlocklaw03_PuzzlesHung.T24 := by kernel_rfl
theorem padlocklaw03_PuzzlesHung.bits24 : waitsOk padlocklaw03_PuzzlesHung.T24.2 padlocklaw03_PuzzlesHung.B24 = true := by kernel_rfl
set_option maxHeartbeats 8000000 in
set_option maxRecDepth 100000 in
theorem padlocklaw03_PuzzlesHung.calls (k : Nat) (a0 : Int) (A1 : Option Addr) (c1 : Nat) (l1 : List (S76)) (a2_0 : Int) (a2_1 : Int) (a2_2 : Int) (a2_3 : Int) (a2_4 : Bool) (r : Bool) (w : World) (hr1 : Kd.C k76 w A1 l1.length l1) (hc1 : l1.length ≤ c1) (h : padlocklaw03_PuzzlesHung.f k a0 l1 a2_0 a2_1 a2_2 a2_3 a2_4 = some r) :
  Calls Try.prog 16 #[.int .i64 a0, .slice A1 l1.length c1, .agg #[.int .i64 a2_0, .int .i64 a2_1, .int .i64 a2_2, .int .i64 a2_3, .bool a2_4]] w fun e w' => e = .returned (.bool r) ∧ Below w.heap.size w w' := by
 have hu76 := Try.underlying76
 have HR1 := Aside0.mk hr1
 have HC1 := Aside0.mk hc1
 clear hr1 hc1
 have HB := Aside0.mk (Below.refl w.heap.size w)
 have H : ((padlockref03_CheckPortraits.f k a0 l1).bind fun t766 => (if t766 = 0 then ((padlockref03_CheckPortraits.f k a0 (([(⟨a2_0, a2_1, a2_2, a2_3, a2_4⟩ : S76)] : List (S76)))).bind fun t770 => (if t770 = 0 then (padlocklaw03_PuzzlesHung.j0 k a0 l1 (decide ((l1.length : Int) ≥ 20)) a2_0 a2_1 a2_2 a2_3 a2_4) else (padlocklaw03_PuzzlesHung.j0 k a0 l1 true a2_0 a2_1 a2_2 a2_3 a2_4))) else (padlocklaw03_PuzzlesHung.j0 k a0 l1 true a2_0 a2_1 a2_2 a2_3 a2_4))) = some r := h
 clear h
 have HC4 := Aside0.mk H
 clear H
 go_enter Try.func16, Try.ntmps16
 go_upto_region 1 with (first | ((with_reducible refine gate_dst (N := 5) rfl ?_); (try (refine gate_guard (by rfl) ?_; dsimp only)); refine box_event ?hg (N := 5) ?hd (cs := #[.int .i64 a2_0, .int .i64 a2_1, .int .i64 a2_2, .int .i64 a2_3, .bool a2_4]) (t := 76) ?hr ?_; (case hd => rfl); (case hg => rfl); (case hr => first | (go_simp; done) | (go_simp; rfl)); intro gb765 hg w5 hbox hb; have n0_ := Aside0.mk (below_step (by repeat (first | (with_reducible first | exact HB.out | apply below_alloc | apply pw_below_drewN | apply below_drew1) | exact HB.out)) hb); have n1_ := Aside0.mk (hbox); have n2_ := Aside0.mk ((by rw [hg]; exact (below_size (by repeat (first | (with_reducible first | exact HB.out | apply below_alloc | apply pw_below_drewN | apply below_drew1) | exact HB.out))) : w.heap.size ≤ gb765)); have n3_ := Aside0.mk ((by rw [hg]; exact (below_size (by repeat (first | (with_reducible first | exact HB.out | apply below_alloc | apply pw_below_drewN | apply below_drew1) | exact HB.out))) : w.heap.size ≤ gb765)); clear HB; have HB := n0_; have BK765 := n1_; have GW765 := n2_; have GE765 := n3_; clear n0_ n1_ n2_ n3_; clear hb hbox hg))
 (try simp only [Act.put, List.setIfInBounds_toArray, List.set_cons_zero, List.set_cons_succ])
 go_cut [34] (fun v34 wc => ∃ (kq : Nat) (x34_3 : Bool), v34 = .bool x34_3 ∧ Aside0 (padlocklaw03_PuzzlesHung.j0 kq a0 l1 x34_3 a2_0 a2_1 a2_2 a2_3 a2_4 = some r) ∧ Aside0 (kq ≤ k) ∧ Aside0 (wc.heap[gb765]? = some (.cells #[.int .i64 a2_0, .int .i64 a2_1, .int .i64 a2_2, .int .i64 a2_3, .bool a2_4] 76 (0, 0))) ∧ Aside0 (Below w.heap.size w wc))
 case first =>
  have H := HC4.out
  clear HC4
  replace H := Option.bind_eq_some_iff.mp H
  obtain ⟨t766, A60, H⟩ := H
  replace H : (if t766 = 0 then ((padlockref03_CheckPortraits.f k a0 (([(⟨a2_0, a2_1, a2_2, a2_3, a2_4⟩ : S76)] : List (S76)))).bind fun t770 => (if t770 = 0 then (padlocklaw03_PuzzlesHung.j0 k a0 l1 (decide ((l1.length : Int) ≥ 20)) a2_0 a2_1 a2_2 a2_3 a2_4) else (padlocklaw03_PuzzlesHung.j0 k a0 l1 true a2_0 a2_1 a2_2 a2_3 a2_4))) else (padlocklaw03_PuzzlesHung.j0 k a0 l1 true a2_0 a2_1 a2_2 a2_3 a2_4)) = some r := H
  have A6 := Aside0.mk A60
  clear A60
  by_cases c7 : t766 = 0
  ·rw [if_pos c7] at H
   have c7b0 : (t766 == 0) = true := beq_iff_eq.mpr c7
   have c7b1 : (t766 != 0) = false := bne_eq_false_iff_eq.mpr c7
   clear c7
   (first | rw [c7b0] | (simp only [i64_w, i32_w]; rw [c7b0]) | skip)
   obtain ⟨y767, hy767⟩ : ∃ y_ : List (S76), y_ = (([(⟨a2_0, a2_1, a2_2, a2_3, a2_4⟩ : S76)] : List (S76))) := ⟨_, rfl⟩
   replace H : ((padlockref03_CheckPortraits.f k a0 y767).bind fun t770 => (if t770 = 0 then (padlocklaw03_PuzzlesHung.j0 k a0 l1 (decide ((l1.length : Int) ≥ 20)) a2_0 a2_1 a2_2 a2_3 a2_4) else (padlocklaw03_PuzzlesHung.j0 k a0 l1 true a2_0 a2_1 a2_2 a2_3 a2_4))) = some r := by first | (rw [hy767]; with_reducible exact H) | (have H2_ := (Option.bind_some _ _).symm.trans H; rw [hy767]; with_reducible exact H2_) | (have H2_ := (Option.bind_some _ _).symm.trans H; with_reducible exact H2_) | with_reducible exact H | (rw [hy767]; exact H) | exact H
   have Ny767 := Aside0.mk hy767
   clear hy767
   replace H := Option.bind_eq_some_iff.mp H
   obtain ⟨t770, A80, H⟩ := H
   replace H : (if t770 = 0 then (padlocklaw03_PuzzlesHung.j0 k a0 l1 (decide ((l1.length : Int) ≥ 20)) a2_0 a2_1 a2_2 a2_3 a2_4) else (padlocklaw03_PuzzlesHung.j0 k a0 l1 true a2_0 a2_1 a2_2 a2_3 a2_4)) = some r := H
   have A8 := Aside0.mk A80
   clear A80
   by_cases c9 : t770 = 0
   ·rw [if_pos c9] at H
    have c9b0 : (t770 == 0) = true := beq_iff_eq.mpr c9
    have c9b1 : (t770 != 0) = false := bne_eq_false_iff_eq.mpr c9
    clear c9
    have H' := Aside0.mk H
    clear H
    go_wp2_with (first | ((with_reducible refine gate_callee (f := 58) rfl ?_); refine goesL_ (some 21) rfl rfl Try.func58 (by kernel_rfl) rfl #[.int .i64 a0, .slice A1 l1.length c1] rfl (by (try simp only [List.map_toArray, List.map_cons, List.map_nil]); first | done | rfl | (simp only [List.length_drop, List.length_take]; rfl)) ?_; (with_reducible refine (padlockref03_CheckPortraits.calls k a0 _ _ l1 t766 _ ?side1 ?side2 A6.out).mono ?_); (case side1 => repeat (first | exact (Kd.C_below HR1.out HB.out) | (with_reducible refine Kd.C_alloc ?_ _) | (with_reducible refine Kd.C_drewN ?_ _) | (with_reducible refine Kd.C_drew ?_))); (case side2 => exact HC1.out); rintro e w10 ⟨rfl, hb⟩; refine ⟨_, rfl, ?_⟩; have n0_ := Aside0.mk (blk_below (g := gb765) (o := .cells #[.int .i64 a2_0, .int .i64 a2_1, .int .i64 a2_2, .int .i64 a2_3, .bool a2_4] 76 (0, 0)) (by (with_reducible repeat (first | refine blk_drewN ?_ _ | refine blk_drew ?_ | refine blk_alloc ?_ _)); exact BK765.out) hb); have n1_ := Aside0.mk (below_step (by repeat (first | (with_reducible first | exact HB.out | apply below_alloc | apply pw_below_drewN | apply below_drew1 | refine below_set ?_ GE765.out) | exact HB.out)) hb); clear BK765; clear HB; have BK765 := n0_; have HB := n1_; clear n0_ n1_; (try clear hb); (try clear hb2); (try clear hk); (try clear hi); have hcz11_0 : w10.cell? ⟨gb765, 0, none⟩ = some (.int .i64 a2_0) := (blk_cell BK765.out 0).trans rfl; have hcz11_1 : w10.cell? ⟨gb765, 1, none⟩ = some (.int .i64 a2_1) := (blk_cell BK765.out 1).trans rfl; have hcz11_2 : w10.cell? ⟨gb765, 2, none⟩ = some (.int .i64 a2_2) := (blk_cell BK765.out 2).trans rfl; have hcz11_3 : w10.cell? ⟨gb765, 3, none⟩ = some (.int .i64 a2_3) := (blk_cell BK765.out 3).trans rfl; have hcz11_4 : w10.cell? ⟨gb765, 4, none⟩ = some (.bool a2_4) := (blk_cell BK765.out 4).trans rfl; have hfz11_0 := blk_frozen BK765.out 0; have hfz11_1 := blk_frozen BK765.out 1; have hfz11_2 := blk_frozen BK765.out 2; have hfz11_3 := blk_frozen BK765.out 3; have hfz11_4 := blk_frozen BK765.out 4) | ((with_reducible refine gate_dst (N := 26) rfl ?_); (try (refine gate_guard (by rfl) ?_; dsimp only)); refine Kd.R_lit k76 _ 76 ?hg (N := 26) ?hd (xs := ([(⟨a2_0, a2_1, a2_2, a2_3, a2_4⟩ : S76)] : List (S76))) (inner := [.int .i64 a2_0, .int .i64 a2_1, .int .i64 a2_2, .int .i64 a2_3, .bool a2_4]) (ok := fun _ => True) (okp := fun _ => True) ?hr ?hp (fun _ hk => hk) trivial (Below.refl _ _) (Nat.le_refl _) (by simp) ?_; (case hd => rfl); (case hg => rfl); (case hr => first | (go_simp; done) | (go_simp; rfl)); (case hp => exact (Reps.c5 (show Kd.M k76 _ _ _ (⟨a2_0, a2_1, a2_2, a2_3, a2_4⟩ : S76) [.int .i64 a2_0, .int .i64 a2_1, .int .i64 a2_2, .int .i64 a2_3, .bool a2_4] from (k76_mkM _ _ _ (⟨a2_0, a2_1, a2_2, a2_3, a2_4⟩ : S76) )) (Reps.none _ _))); intro v768 w12 ho13 hb hg_ hnew_; clear hg_ hnew_; (first | rw [← Ny767.out] at ho13 | (simp only [Int.reduceToNat] at ho13; rw [← Ny767.out] at ho13)); have n0_ := Aside0.mk (Kd.R_lower (Kd.R_newB ho13 (g := gb765) (o := .cells #[.int .i64 a2_0, .int .i64 a2_1, .int .i64 a2_2, .int .i64 a2_3, .bool a2_4] 76 (0, 0)) (by (with_reducible repeat (first | refine blk_drewN ?_ _ | refine blk_drew ?_ | refine blk_alloc ?_ _)); exact BK765.out)) (below_size (by repeat (first | (with_reducible first | exact HB.out | apply below_alloc | apply pw_below_drewN | apply below_drew1 | refine below_set ?_ GE765.out) | exact HB.out)))); have n1_ := Aside0.mk (blk_below (g := gb765) (o := .cells #[.int .i64 a2_0, .int .i64 a2_1, .int .i64 a2_2, .int .i64 a2_3, .bool a2_4] 76 (0, 0)) (by (with_reducible repeat (first | refine blk_drewN ?_ _ | refine blk_drew ?_ | refine blk_alloc ?_ _)); exact BK765.out) hb); have n2_ := Aside0.mk (below_step (by repeat (first | (with_reducible first | exact HB.out | apply below_alloc | apply pw_below_drewN | apply below_drew1 | refine below_set ?_ GE765.out) | exact HB.out)) hb); clear BK765; clear HB; have HO769 := n0_; have BK765 := n1_; have HB := n2_; clear n0_ n1_ n2_; clear hb ho13; obtain ⟨Ao14, co14, eo14⟩ := Kd.R_slice HO769.out; subst eo14) | (go_at_call 58; (with_reducible refine (padlockref03_CheckPortraits.calls k a0 _ _ y767 t770 _ ?side1 ?side2 A8.out).mono ?_); (case side1 => repeat (first | exact (Kd.R_reads' HO769.out).2.2 | (with_reducible refine Kd.C_alloc ?_ _) | (with_reducible refine Kd.C_drewN ?_ _) | (with_reducible refine Kd.C_drew ?_))); (case side2 => exact (Kd.R_reads' HO769.out).2.1); rintro e w15 ⟨rfl, hb⟩; have n0_ := Aside0.mk (Kd.R_below (by (with_reducible repeat (first | apply Kd.R_alloc | apply Kd.R_drewN | apply Kd.R_drew)); exact HO769.out) hb); have n1_ := Aside0.mk (blk_below (g := gb765) (o := .cells #[.int .i64 a2_0, .int .i64 a2_1, .int .i64 a2_2, .int .i64 a2_3, .bool a2_4] 76 (0, 0)) (by (with_reducible repeat (first | refine blk_drewN ?_ _ | refine blk_drew ?_ | refine blk_alloc ?_ _)); exact BK765.out) hb); have n2_ := Aside0.mk (below_step (by repeat (first | (with_reducible first | exact HB.out | apply below_alloc | apply pw_below_drewN | apply below_drew1 | refine below_set ?_ GE765.out) | exact HB.out)) hb); clear HO769; clear BK765; clear HB; have HO769 := n0_; have BK765 := n1_; have HB := n2_; clear n0_ n1_ n2_; (try clear hb); (try clear hb2); (try clear hk); (try clear hi)))
    go_meet
    case rel => exact ⟨_, (decide ((l1.length : Int) ≥ 20)), (by first | rfl | (simp; done) | (simp [*]; done)), H', ⟨by first | omega | exact Nat.le_refl _⟩, ⟨by (with_reducible repeat (first | refine blk_drewN ?_ _ | refine blk_drew ?_ | refine blk_alloc ?_ _)); exact BK765.out⟩, ⟨by repeat (first | (with_reducible first | exact HB.out | apply below_alloc | apply pw_below_drewN | apply below_drew1 | refine below_set ?_ GE765.out) | exact HB.out)⟩⟩
   ·rw [if_neg c9] at H
    have c9b0 : (t770 == 0) = false := beq_eq_false_iff_ne.mpr c9
    have c9b1 : (t770 != 0) = true := bne_iff_ne.mpr c9
    have H' := Aside0.mk H
    clear H
    go_wp2_with (first | ((with_reducible refine gate_callee (f := 58) rfl ?_); refine goesL_ (some 21) rfl rfl Try.func58 (by kernel_rfl) rfl #[.int .i64 a0, .slice A1 l1.length c1] rfl (by (try simp only [List.map_toArray, List.map_cons, List.map_nil]); first | done | rfl | (simp only [List.length_drop, List.length_take]; rfl)) ?_; (with_reducible refine (padlockref03_CheckPortraits.calls k a0 _ _ l1 t766 _ ?side1 ?side2 A6.out).mono ?_); (case side1 => repeat (first | exact (Kd.C_below HR1.out HB.out) | (with_reducible refine Kd.C_alloc ?_ _) | (with_reducible refine Kd.C_drewN ?_ _) | (with_reducible refine Kd.C_drew ?_))); (case side2 => exact HC1.out); rintro e w16 ⟨rfl, hb⟩; refine ⟨_, rfl, ?_⟩; have n0_ := Aside0.mk (blk_below (g := gb765) (o := .cells #[.int .i64 a2_0, .int .i64 a2_1, .int .i64 a2_2, .int .i64 a2_3, .bool a2_4] 76 (0, 0)) (by (with_reducible repeat (first | refine blk_drewN ?_ _ | refine blk_drew ?_ | refine blk_alloc ?_ _)); exact BK765.out) hb); have n1_ := Aside0.mk (below_step (by repeat (first | (with_reducible first | exact HB.out | apply below_alloc | apply pw_below_drewN | apply below_drew1 | refine below_set ?_ GE765.out) | exact HB.out)) hb); clear BK765; clear HB; have BK765 := n0_; have HB := n1_; clear n0_ n1_; (try clear hb); (try clear hb2); (try clear hk); (try clear hi); have hcz17_0 : w16.cell? ⟨gb765, 0, none⟩ = some (.int .i64 a2_0) := (blk_cell BK765.out 0).trans rfl; have hcz17_1 : w16.cell? ⟨gb765, 1, none⟩ = some (.int .i64 a2_1) := (blk_cell BK765.out 1).trans rfl; have hcz17_2 : w16.cell? ⟨gb765, 2, none⟩ = some (.int .i64 a2_2) := (blk_cell BK765.out 2).trans rfl; have hcz17_3 : w16.cell? ⟨gb765, 3, none⟩ = some (.int .i64 a2_3) := (blk_cell BK765.out 3).trans rfl; have hcz17_4 : w16.cell? ⟨gb765, 4, none⟩ = some (.bool a2_4) := (blk_cell BK765.out 4).trans rfl; have hfz17_0 := blk_frozen BK765.out 0; have hfz17_1 := blk_frozen BK765.out 1; have hfz17_2 := blk_frozen BK765.out 2; have hfz17_3 := blk_frozen BK765.out 3; have hfz17_4 := blk_frozen BK765.out 4) | ((with_reducible refine gate_dst (N := 26) rfl ?_); (try (refine gate_guard (by rfl) ?_; dsimp only)); refine Kd.R_lit k76 _ 76 ?hg (N := 26) ?hd (xs := ([(⟨a2_0, a2_1, a2_2, a2_3, a2_4⟩ : S76)] : List (S76))) (inner := [.int .i64 a2_0, .int .i64 a2_1, .int .i64 a2_2, .int .i64 a2_3, .bool a2_4]) (ok := fun _ => True) (okp := fun _ => True) ?hr ?hp (fun _ hk => hk) trivial (Below.refl _ _) (Nat.le_refl _) (by simp) ?_; (case hd => rfl); (case hg => rfl); (case hr => first | (go_simp; done) | (go_simp; rfl)); (case hp => exact (Reps.c5 (show Kd.M k76 _ _ _ (⟨a2_0, a2_1, a2_2, a2_3, a2_4⟩ : S76) [.int .i64 a2_0, .int .i64 a2_1, .int .i64 a2_2, .int .i64 a2_3, .bool a2_4] from (k76_mkM _ _ _ (⟨a2_0, a2_1, a2_2, a2_3, a2_4⟩ : S76) )) (Reps.none _ _))); intro v768 w18 ho19 hb hg_ hnew_; clear hg_ hnew_; (first | rw [← Ny767.out] at ho19 | (simp only [Int.reduceToNat] at ho19; rw [← Ny767.out] at ho19)); have n0_ := Aside0.mk (Kd.R_lower (Kd.R_newB ho19 (g := gb765) (o := .cells #[.int .i64 a2_0, .int .i64 a2_1, .int .i64 a2_2, .int .i64 a2_3, .bool a2_4] 76 (0, 0)) (by (with_reducible repeat (first | refine blk_drewN ?_ _ | refine blk_drew ?_ | refine blk_alloc ?_ _)); exact BK765.out)) (below_size (by repeat (first | (with_reducible first | exact HB.out | apply below_alloc | apply pw_below_drewN | apply below_drew1 | refine below_set ?_ GE765.out) | exact HB.out)))); have n1_ := Aside0.mk (blk_below (g := gb765) (o := .cells #[.int .i64 a2_0, .int .i64 a2_1, .int .i64 a2_2, .int .i64 a2_3, .bool a2_4] 76 (0, 0)) (by (with_reducible repeat (first | refine blk_drewN ?_ _ | refine blk_drew ?_ | refine blk_alloc ?_ _)); exact BK765.out) hb); have n2_ := Aside0.mk (below_step (by repeat (first | (with_reducible first | exact HB.out | apply below_alloc | apply pw_below_drewN | apply below_drew1 | refine below_set ?_ GE765.out) | exact HB.out)) hb); clear BK765; clear HB; have HO769 := n0_; have BK765 := n1_; have HB := n2_; clear n0_ n1_ n2_; clear hb ho19; obtain ⟨Ao20, co20, eo20⟩ := Kd.R_slice HO769.out; subst eo20) | (go_at_call 58; (with_reducible refine (padlockref03_CheckPortraits.calls k a0 _ _ y767 t770 _ ?side1 ?side2 A8.out).mono ?_); (case side1 => repeat (first | exact (Kd.R_reads' HO769.out).2.2 | (with_reducible refine Kd.C_alloc ?_ _) | (with_reducible refine Kd.C_drewN ?_ _) | (with_reducible refine Kd.C_drew ?_))); (case side2 => exact (Kd.R_reads' HO769.out).2.1); rintro e w21 ⟨rfl, hb⟩; have n0_ := Aside0.mk (Kd.R_below (by (with_reducible repeat (first | apply Kd.R_alloc | apply Kd.R_drewN | apply Kd.R_drew)); exact HO769.out) hb); have n1_ := Aside0.mk (blk_below (g := gb765) (o := .cells #[.int .i64 a2_0, .int .i64 a2_1, .int .i64 a2_2, .int .i64 a2_3, .bool a2_4] 76 (0, 0)) (by (with_reducible repeat (first | refine blk_drewN ?_ _ | refine blk_drew ?_ | refine blk_alloc ?_ _)); exact BK765.out) hb); have n2_ := Aside0.mk (below_step (by repeat (first | (with_reducible first | exact HB.out | apply below_alloc | apply pw_below_drewN | apply below_drew1 | refine below_set ?_ GE765.out) | exact HB.out)) hb); clear HO769; clear BK765; clear HB; have HO769 := n0_; have BK765 := n1_; have HB := n2_; clear n0_ n1_ n2_; (try clear hb); (try clear hb2); (try clear hk); (try clear hi)))
    go_meet
    case rel => exact ⟨_, (true), (by first | rfl | (simp; done) | (simp [*]; done)), H', ⟨by first | omega | exact Nat.le_refl _⟩, ⟨by (with_reducible repeat (first | refine blk_drewN ?_ _ | refine blk_drew ?_ | refine blk_alloc ?_ _)); exact BK765.out⟩, ⟨by repeat (first | (with_reducible first | exact HB.out | apply below_alloc | apply pw_below_drewN | apply below_drew1 | refine below_set ?_ GE765.out) | exact HB.out)⟩⟩
  ·rw [if_neg c7] at H
   have c7b0 : (t766 == 0) = false := beq_eq_false_iff_ne.mpr c7
   have c7b1 : (t766 != 0) = true := bne_iff_ne.mpr c7
   (first | rw [c7b0] | (simp only [i64_w, i32_w]; rw [c7b0]) | skip)
   have H' := Aside0.mk H
   clear H
   go_wp2_with (first | ((with_reducible refine gate_callee (f := 58) rfl ?_); refine goesL_ (some 21) rfl rfl Try.func58 (by kernel_rfl) rfl #[.int .i64 a0, .slice A1 l1.length c1] rfl (by (try simp only [List.map_toArray, List.map_cons, List.map_nil]); first | done | rfl | (simp only [List.length_drop, List.length_take]; rfl)) ?_; (with_reducible refine (padlockref03_CheckPortraits.calls k a0 _ _ l1 t766 _ ?side1 ?side2 A6.out).mono ?_); (case side1 => repeat (first | exact (Kd.C_below HR1.out HB.out) | (with_reducible refine Kd.C_alloc ?_ _) | (with_reducible refine Kd.C_drewN ?_ _) | (with_reducible refine Kd.C_drew ?_))); (case side2 => exact HC1.out); rintro e w22 ⟨rfl, hb⟩; refine ⟨_, rfl, ?_⟩; have n0_ := Aside0.mk (blk_below (g := gb765) (o := .cells #[.int .i64 a2_0, .int .i64 a2_1, .int .i64 a2_2, .int .i64 a2_3, .bool a2_4] 76 (0, 0)) (by (with_reducible repeat (first | refine blk_drewN ?_ _ | refine blk_drew ?_ | refine blk_alloc ?_ _)); exact BK765.out) hb); have n1_ := Aside0.mk (below_step (by repeat (first | (with_reducible first | exact HB.out | apply below_alloc | apply pw_below_drewN | apply below_drew1 | refine below_set ?_ GE765.out) | exact HB.out)) hb); clear BK765; clear HB; have BK765 := n0_; have HB := n1_; clear n0_ n1_; (try clear hb); (try clear hb2); (try clear hk); (try clear hi)))
   go_meet
   case rel => exact ⟨_, (true), (by first | rfl | (simp; done) | (simp [*]; done)), H', ⟨by first | omega | exact Nat.le_refl _⟩, ⟨by (with_reducible repeat (first | refine blk_drewN ?_ _ | refine blk_drew ?_ | refine blk_alloc ?_ _)); exact BK765.out⟩, ⟨by repeat (first | (with_reducible first | exact HB.out | apply below_alloc | apply pw_below_drewN | apply below_drew1 | refine below_set ?_ GE765.out) | exact HB.out)⟩⟩
 case rest =>
  clear HC4
  try clear c1
  try clear p2
  try clear c5
  try clear c7
  try clear c7b0
  try clear c7b1
  try clear c9
  try clear c9b0
  try clear c9b1
  try clear c16
  try clear hcz11_0
  try clear hcz11_1
  try clear hcz11_2
  try clear hcz11_3
  try clear hcz11_4
  try clear hcz17_0
  try clear hcz17_1
  try clear hcz17_2
  try clear hcz17_3
  try clear hcz17_4
  try clear hfz11_0
  try clear hfz11_1
  try clear hfz11_2
  try clear hfz11_3
  try clear hfz11_4
  try clear hfz17_0
  try clear hfz17_1
  try clear hfz17_2
  try clear hfz17_3
  try clear hfz17_4
  obtain ⟨kq, x34_3, rfl, HA, HJ3, BK765, HB⟩ := hcut
  cases kq with
  | zero => exact absurd HA.out (by simp [padlocklaw03_PuzzlesHung.j0])
  | succ kj3 =>
   have H := HA.out
   clear HA
   simp only [padlocklaw03_PuzzlesHung.j0] at H
   by_cases c23 : x34_3 = true
   ·subst c23
    have H1 : ((padlocklaw03_works.f kj3).bind fun t771 => (some t771)) = some r := by rw [if_pos rfl] at H; exact H
    clear H
    have H := H1
    clear H1
    replace H := Option.bind_eq_some_iff.mp H
    obtain ⟨t771, A240, H⟩ := H
    replace H : (some t771) = some r := H
    have A24 := Aside0.mk A240
    clear A240
    obtain rfl := Option.some.inj H
    go_wp2_with (first | ((with_reducible refine gate_callee (f := 21) rfl ?_); refine goesL_ (some 35) rfl rfl Try.func21 (by kernel_rfl) rfl #[] rfl (by (try simp only [List.map_toArray, List.map_cons, List.map_nil]); first | done | rfl | (simp only [List.length_drop, List.length_take]; rfl)) ?_; (with_reducible refine (padlocklaw03_works.calls kj3  t771 _ A24.out).mono ?_); rintro e w25 ⟨rfl, hb⟩; refine ⟨_, rfl, ?_⟩; have n0_ := Aside0.mk (blk_below (g := gb765) (o := .cells #[.int .i64 a2_0, .int .i64 a2_1, .int .i64 a2_2, .int .i64 a2_3, .bool a2_4] 76 (0, 0)) (by (with_reducible repeat (first | refine blk_drewN ?_ _ | refine blk_drew ?_ | refine blk_alloc ?_ _)); exact BK765.out) hb); have n1_ := Aside0.mk (below_step (by repeat (first | (with_reducible first | exact HB.out | apply below_alloc | apply pw_below_drewN | apply below_drew1 | refine below_set ?_ GE765.out) | exact HB.out)) hb); clear BK765; clear HB; have BK765 := n0_; have HB := n1_; clear n0_ n1_; (try clear hb); (try clear hb2); (try clear hk); (try clear hi)))
    go_ret
    exact ⟨by first | rfl | (simp [errW_none, errW_some] <;> rfl) | (simp [*, errW_none, errW_some] <;> rfl), by repeat (first | (with_reducible first | exact HB.out | apply below_alloc | apply pw_below_drewN | apply below_drew1 | refine below_set ?_ GE765.out) | exact HB.out)⟩
   ·replace c23 := Bool.eq_false_iff.mpr c23
    subst c23
    have H1 : ((puzzles_Hangings.f kj3 a0 l1).bind fun bt773 => (if ([] : List (S76)).length + l1.length < 3518437208883 then ((some (([] : List (S76)) ++ l1 : List (S76))).bind fun y775 => ((some (([(⟨a2_0, a2_1, a2_2, a2_3, a2_4⟩ : S76)] : List (S76)) : List (S76))).bind fun y778 => (if y775.length + y778.length < 3518437208883 then ((puzzles_Hangings.f kj3 a0 (y775 ++ y778)).bind fun bt784 => ((some (([] : List (S76)) ++ l1 : List (S76))).bind fun y786 => ((some (([(⟨a2_0, a2_1, a2_2, a2_3, !a2_4⟩ : S76)] : List (S76)) : List (S76))).bind fun y789 => (if y786.length + y789.length < 3518437208883 then ((puzzles_Hangings.f kj3 a0 (y786 ++ y789)).bind fun bt795 => ((puzzles_Hang.f kj3 a0 l1 64).bind fun bt797 => (if bt773.2 = 0 then (if bt784.2 = 0 then (if bt795.2 = 0 then (if bt797.2 = 0 then (if (wrap64 (bt784.1 + bt795.1)) = bt773.1 then (padlocklaw03_PuzzlesHung.j1 kj3 a0 l1 bt797.1 ((bt797.1.length : Int) != (mn bt773.1 64))) else (padlocklaw03_PuzzlesHung.j1 kj3 a0 l1 bt797.1 true)) else (padlocklaw03_PuzzlesHung.j1 kj3 a0 l1 bt797.1 true)) else (padlocklaw03_PuzzlesHung.j1 kj3 a0 l1 bt797.1 true)) else (padlocklaw03_PuzzlesHung.j1 kj3 a0 l1 bt797.1 true)) else (padlocklaw03_PuzzlesHung.j1 kj3 a0 l1 bt797.1 true)))) else (none))))) else (none)))) else (none))) = some r := by rw [if_neg (show ¬ (false = true) by decide)] at H; exact H
    clear H
    have H := H1
    clear H1
    replace H := Option.bind_eq_some_iff.mp H
    obtain ⟨⟨t773, t774⟩, A260, H⟩ := H
    replace H : (if ([] : List (S76)).length + l1.length < 3518437208883 then ((some (([] : List (S76)) ++ l1 : List (S76))).bind fun y775 => ((some (([(⟨a2_0, a2_1, a2_2, a2_3, a2_4⟩ : S76)] : List (S76)) : List (S76))).bind fun y778 => (if y775.length + y778.length < 3518437208883 then ((puzzles_Hangings.f kj3 a0 (y775 ++ y778)).bind fun bt784 => ((some (([] : List (S76)) ++ l1 : List (S76))).bind fun y786 => ((some (([(⟨a2_0, a2_1, a2_2, a2_3, !a2_4⟩ : S76)] : List (S76)) : List (S76))).bind fun y789 => (if y786.length + y789.length < 3518437208883 then ((puzzles_Hangings.f kj3 a0 (y786 ++ y789)).bind fun bt795 => ((puzzles_Hang.f kj3 a0 l1 64).bind fun bt797 => (if t774 = 0 then (if bt784.2 = 0 then (if bt795.2 = 0 then (if bt797.2 = 0 then (if (wrap64 (bt784.1 + bt795.1)) = t773 then (padlocklaw03_PuzzlesHung.j1 kj3 a0 l1 bt797.1 ((bt797.1.length : Int) != (mn t773 64))) else (padlocklaw03_PuzzlesHung.j1 kj3 a0 l1 bt797.1 true)) else (padlocklaw03_PuzzlesHung.j1 kj3 a0 l1 bt797.1 true)) else (padlocklaw03_PuzzlesHung.j1 kj3 a0 l1 bt797.1 true)) else (padlocklaw03_PuzzlesHung.j1 kj3 a0 l1 bt797.1 true)) else (padlocklaw03_PuzzlesHung.j1 kj3 a0 l1 bt797.1 true)))) else (none))))) else (none)))) else (none)) = some r := H
    have A26 := Aside0.mk A260
    clear A260
    by_cases c27 : ([] : List (S76)).length + l1.length < 3518437208883
    ·rw [if_pos c27] at H
     have LMc27 := Aside0.mk c27
     clear c27
     obtain ⟨y775, hy775⟩ : ∃ y_ : List (S76), y_ = (([] : List (S76)) ++ l1) := ⟨_, rfl⟩
     replace H : ((some (([(⟨a2_0, a2_1, a2_2, a2_3, a2_4⟩ : S76)] : List (S76)) : List (S76))).bind fun y778 => (if y775.length + y778.length < 3518437208883 then ((puzzles_Hangings.f kj3 a0 (y775 ++ y778)).bind fun bt784 => ((some (([] : List (S76)) ++ l1 : List (S76))).bind fun y786 => ((some (([(⟨a2_0, a2_1, a2_2, a2_3, !a2_4⟩ : S76)] : List (S76)) : List (S76))).bind fun y789 => (if y786.length + y789.length < 3518437208883 then ((puzzles_Hangings.f kj3 a0 (y786 ++ y789)).bind fun bt795 => ((puzzles_Hang.f kj3 a0 l1 64).bind fun bt797 => (if t774 = 0 then (if bt784.2 = 0 then (if bt795.2 = 0 then (if bt797.2 = 0 then (if (wrap64 (bt784.1 + bt795.1)) = t773 then (padlocklaw03_PuzzlesHung.j1 kj3 a0 l1 bt797.1 ((bt797.1.length : Int) != (mn t773 64))) else (padlocklaw03_PuzzlesHung.j1 kj3 a0 l1 bt797.1 true)) else (padlocklaw03_PuzzlesHung.j1 kj3 a0 l1 bt797.1 true)) else (padlocklaw03_PuzzlesHung.j1 kj3 a0 l1 bt797.1 true)) else (padlocklaw03_PuzzlesHung.j1 kj3 a0 l1 bt797.1 true)) else (padlocklaw03_PuzzlesHung.j1 kj3 a0 l1 bt797.1 true)))) else (none))))) else (none))) = some r := by first | (rw [hy775]; with_reducible exact H) | (have H2_ := (Option.bind_some _ _).symm.trans H; rw [hy775]; with_reducible exact H2_) | (have H2_ := (Option.bind_some _ _).symm.trans H; with_reducible exact H2_) | with_reducible exact H | (rw [hy775]; exact H) | exact H
     have Ny775 := Aside0.mk hy775
     clear hy775
     obtain ⟨y778, hy778⟩ : ∃ y_ : List (S76), y_ = (([(⟨a2_0, a2_1, a2_2, a2_3, a2_4⟩ : S76)] : List (S76))) := ⟨_, rfl⟩
     replace H : (if y775.length + y778.length < 3518437208883 then ((puzzles_Hangings.f kj3 a0 (y775 ++ y778)).bind fun bt784 => ((some (([] : List (S76)) ++ l1 : List (S76))).bind fun y786 => ((some (([(⟨a2_0, a2_1, a2_2, a2_3, !a2_4⟩ : S76)] : List (S76)) : List (S76))).bind fun y789 => (if y786.length + y789.length < 3518437208883 then ((puzzles_Hangings.f kj3 a0 (y786 ++ y789)).bind fun bt795 => ((puzzles_Hang.f kj3 a0 l1 64).bind fun bt797 => (if t774 = 0 then (if bt784.2 = 0 then (if bt795.2 = 0 then (if bt797.2 = 0 then (if (wrap64 (bt784.1 + bt795.1)) = t773 then (padlocklaw03_PuzzlesHung.j1 kj3 a0 l1 bt797.1 ((bt797.1.length : Int) != (mn t773 64))) else (padlocklaw03_PuzzlesHung.j1 kj3 a0 l1 bt797.1 true)) else (padlocklaw03_PuzzlesHung.j1 kj3 a0 l1 bt797.1 true)) else (padlocklaw03_PuzzlesHung.j1 kj3 a0 l1 bt797.1 true)) else (padlocklaw03_PuzzlesHung.j1 kj3 a0 l1 bt797.1 true)) else (padlocklaw03_PuzzlesHung.j1 kj3 a0 l1 bt797.1 true)))) else (none))))) else (none)) = some r := by first | (rw [hy778]; with_reducible exact H) | (have H2_ := (Option.bind_some _ _).symm.trans H; rw [hy778]; with_reducible exact H2_) | (have H2_ := (Option.bind_some _ _).symm.trans H; with_reducible exact H2_) | with_reducible exact H | (rw [hy778]; exact H) | exact H
     have Ny778 := Aside0.mk hy778
     clear hy778
     by_cases c28 : y775.length + y778.length < 3518437208883
     ·rw [if_pos c28] at H
      have LMc28 := Aside0.mk c28
      clear c28
      obtain ⟨y781, hy781⟩ : ∃ y_ : List (S76), y_ = (y775 ++ y778) := ⟨_, rfl⟩
      replace H : ((puzzles_Hangings.f kj3 a0 y781).bind fun bt784 => ((some (([] : List (S76)) ++ l1 : List (S76))).bind fun y786 => ((some (([(⟨a2_0, a2_1, a2_2, a2_3, !a2_4⟩ : S76)] : List (S76)) : List (S76))).bind fun y789 => (if y786.length + y789.length < 3518437208883 then ((puzzles_Hangings.f kj3 a0 (y786 ++ y789)).bind fun bt795 => ((puzzles_Hang.f kj3 a0 l1 64).bind fun bt797 => (if t774 = 0 then (if bt784.2 = 0 then (if bt795.2 = 0 then (if bt797.2 = 0 then (if (wrap64 (bt784.1 + bt795.1)) = t773 then (padlocklaw03_PuzzlesHung.j1 kj3 a0 l1 bt797.1 ((bt797.1.length : Int) != (mn t773 64))) else (padlocklaw03_PuzzlesHung.j1 kj3 a0 l1 bt797.1 true)) else (padlocklaw03_PuzzlesHung.j1 kj3 a0 l1 bt797.1 true)) else (padlocklaw03_PuzzlesHung.j1 kj3 a0 l1 bt797.1 true)) else (padlocklaw03_PuzzlesHung.j1 kj3 a0 l1 bt797.1 true)) else (padlocklaw03_PuzzlesHung.j1 kj3 a0 l1 bt797.1 true)))) else (none))))) = some r := by first | (rw [hy781]; with_reducible exact H) | (have H2_ := (Option.bind_some _ _).symm.trans H; rw [hy781]; with_reducible exact H2_) | (have H2_ := (Option.bind_some _ _).symm.trans H; with_reducible exact H2_) | with_reducible exact H | (rw [hy781]; exact H) | exact H
      have Ny781 := Aside0.mk hy781
      clear hy781
      replace H := Option.bind_eq_some_iff.mp H
      obtain ⟨⟨t784, t785⟩, A290, H⟩ := H
      replace H : ((some (([] : List (S76)) ++ l1 : List (S76))).bind fun y786 => ((some (([(⟨a2_0, a2_1, a2_2, a2_3, !a2_4⟩ : S76)] : List (S76)) : List (S76))).bind fun y789 => (if y786.length + y789.length < 3518437208883 then ((puzzles_Hangings.f kj3 a0 (y786 ++ y789)).bind fun bt795 => ((puzzles_Hang.f kj3 a0 l1 64).bind fun bt797 => (if t774 = 0 then (if t785 = 0 then (if bt795.2 = 0 then (if bt797.2 = 0 then (if (wrap64 (t784 + bt795.1)) = t773 then (padlocklaw03_PuzzlesHung.j1 kj3 a0 l1 bt797.1 ((bt797.1.length : Int) != (mn t773 64))) else (padlocklaw03_PuzzlesHung.j1 kj3 a0 l1 bt797.1 true)) else (padlocklaw03_PuzzlesHung.j1 kj3 a0 l1 bt797.1 true)) else (padlocklaw03_PuzzlesHung.j1 kj3 a0 l1 bt797.1 true)) else (padlocklaw03_PuzzlesHung.j1 kj3 a0 l1 bt797.1 true)) else (padlocklaw03_PuzzlesHung.j1 kj3 a0 l1 bt797.1 true)))) else (none)))) = some r := H
      have A29 := Aside0.mk A290
      clear A290
      obtain ⟨y786, hy786⟩ : ∃ y_ : List (S76), y_ = (([] : List (S76)) ++ l1) := ⟨_, rfl⟩
      replace H : ((some (([(⟨a2_0, a2_1, a2_2, a2_3, !a2_4⟩ : S76)] : List (S76)) : List (S76))).bind fun y789 => (if y786.length + y789.length < 3518437208883 then ((puzzles_Hangings.f kj3 a0 (y786 ++ y789)).bind fun bt795 => ((puzzles_Hang.f kj3 a0 l1 64).bind fun bt797 => (if t774 = 0 then (if t785 = 0 then (if bt795.2 = 0 then (if bt797.2 = 0 then (if (wrap64 (t784 + bt795.1)) = t773 then (padlocklaw03_PuzzlesHung.j1 kj3 a0 l1 bt797.1 ((bt797.1.length : Int) != (mn t773 64))) else (padlocklaw03_PuzzlesHung.j1 kj3 a0 l1 bt797.1 true)) else (padlocklaw03_PuzzlesHung.j1 kj3 a0 l1 bt797.1 true)) else (padlocklaw03_PuzzlesHung.j1 kj3 a0 l1 bt797.1 true)) else (padlocklaw03_PuzzlesHung.j1 kj3 a0 l1 bt797.1 true)) else (padlocklaw03_PuzzlesHung.j1 kj3 a0 l1 bt797.1 true)))) else (none))) = some r := by first | (rw [hy786]; with_reducible exact H) | (have H2_ := (Option.bind_some _ _).symm.trans H; rw [hy786]; with_reducible exact H2_) | (have H2_ := (Option.bind_some _ _).symm.trans H; with_reducible exact H2_) | with_reducible exact H | (rw [hy786]; exact H) | exact H
      have Ny786 := Aside0.mk hy786
      clear hy786
      obtain ⟨y789, hy789⟩ : ∃ y_ : List (S76), y_ = (([(⟨a2_0, a2_1, a2_2, a2_3, !a2_4⟩ : S76)] : List (S76))) := ⟨_, rfl⟩
      replace H : (if y786.length + y789.length < 3518437208883 then ((puzzles_Hangings.f kj3 a0 (y786 ++ y789)).bind fun bt795 => ((puzzles_Hang.f kj3 a0 l1 64).bind fun bt797 => (if t774 = 0 then (if t785 = 0 then (if bt795.2 = 0 then (if bt797.2 = 0 then (if (wrap64 (t784 + bt795.1)) = t773 then (padlocklaw03_PuzzlesHung.j1 kj3 a0 l1 bt797.1 ((bt797.1.length : Int) != (mn t773 64))) else (padlocklaw03_PuzzlesHung.j1 kj3 a0 l1 bt797.1 true)) else (padlocklaw03_PuzzlesHung.j1 kj3 a0 l1 bt797.1 true)) else (padlocklaw03_PuzzlesHung.j1 kj3 a0 l1 bt797.1 true)) else (padlocklaw03_PuzzlesHung.j1 kj3 a0 l1 bt797.1 true)) else (padlocklaw03_PuzzlesHung.j1 kj3 a0 l1 bt797.1 true)))) else (none)) = some r := by first | (rw [hy789]; with_reducible exact H) | (have H2_ := (Option.bind_some _ _).symm.trans H; rw [hy789]; with_reducible exact H2_) | (have H2_ := (Option.bind_some _ _).symm.trans H; with_reducible exact H2_) | with_reducible exact H | (rw [hy789]; exact H) | exact H
      have Ny789 := Aside0.mk hy789
      clear hy789
      by_cases c30 : y786.length + y789.length < 3518437208883
      ·rw [if_pos c30] at H
       have LMc30 := Aside0.mk c30
       clear c30
       obtain ⟨y792, hy792⟩ : ∃ y_ : List (S76), y_ = (y786 ++ y789) := ⟨_, rfl⟩
       replace H : ((puzzles_Hangings.f kj3 a0 y792).bind fun bt795 => ((puzzles_Hang.f kj3 a0 l1 64).bind fun bt797 => (if t774 = 0 then (if t785 = 0 then (if bt795.2 = 0 then (if bt797.2 = 0 then (if (wrap64 (t784 + bt795.1)) = t773 then (padlocklaw03_PuzzlesHung.j1 kj3 a0 l1 bt797.1 ((bt797.1.length : Int) != (mn t773 64))) else (padlocklaw03_PuzzlesHung.j1 kj3 a0 l1 bt797.1 true)) else (padlocklaw03_PuzzlesHung.j1 kj3 a0 l1 bt797.1 true)) else (padlocklaw03_PuzzlesHung.j1 kj3 a0 l1 bt797.1 true)) else (padlocklaw03_PuzzlesHung.j1 kj3 a0 l1 bt797.1 true)) else (padlocklaw03_PuzzlesHung.j1 kj3 a0 l1 bt797.1 true)))) = some r := by first | (rw [hy792]; with_reducible exact H) | (have H2_ := (Option.bind_some _ _).symm.trans H; rw [hy792]; with_reducible exact H2_) | (have H2_ := (Option.bind_some _ _).symm.trans H; with_reducible exact H2_) | with_reducible exact H | (rw [hy792]; exact H) | exact H
       have Ny792 := Aside0.mk hy792
       clear hy792
       replace H := Option.bind_eq_some_iff.mp H
       obtain ⟨⟨t795, t796⟩, A310, H⟩ := H
       replace H : ((puzzles_Hang.f kj3 a0 l1 64).bind fun bt797 => (if t774 = 0 then (if t785 = 0 then (if t796 = 0 then (if bt797.2 = 0 then (if (wrap64 (t784 + t795)) = t773 then (padlocklaw03_PuzzlesHung.j1 kj3 a0 l1 bt797.1 ((bt797.1.length : Int) != (mn t773 64))) else (padlocklaw03_PuzzlesHung.j1 kj3 a0 l1 bt797.1 true)) else (padlocklaw03_PuzzlesHung.j1 kj3 a0 l1 bt797.1 true)) else (padlocklaw03_PuzzlesHung.j1 kj3 a0 l1 bt797.1 true)) else (padlocklaw03_PuzzlesHung.j1 kj3 a0 l1 bt797.1 true)) else (padlocklaw03_PuzzlesHung.j1 kj3 a0 l1 bt797.1 true))) = some r := H
       have A31 := Aside0.mk A310
       clear A310
       replace H := Option.bind_eq_some_iff.mp H
       obtain ⟨⟨t797, t798⟩, A320, H⟩ := H
       replace H : (if t774 = 0 then (if t785 = 0 then (if t796 = 0 then (if t798 = 0 then (if (wrap64 (t784 + t795)) = t773 then (padlocklaw03_PuzzlesHung.j1 kj3 a0 l1 t797 ((t797.length : Int) != (mn t773 64))) else (padlocklaw03_PuzzlesHung.j1 kj3 a0 l1 t797 true)) else (padlocklaw03_PuzzlesHung.j1 kj3 a0 l1 t797 true)) else (padlocklaw03_PuzzlesHung.j1 kj3 a0 l1 t797 true)) else (padlocklaw03_PuzzlesHung.j1 kj3 a0 l1 t797 true)) else (padlocklaw03_PuzzlesHung.j1 kj3 a0 l1 t797 true)) = some r := H
       have A32 := Aside0.mk A320
       clear A320
       have HC33 := Aside0.mk H
       clear H
       have hcz34_0 : wc.cell? ⟨gb765, 0, none⟩ = some (.int .i64 a2_0) := (blk_cell BK765.out 0).trans rfl
       have hcz34_1 : wc.cell? ⟨gb765, 1, none⟩ = some (.int .i64 a2_1) := (blk_cell BK765.out 1).trans rfl
       have hcz34_2 : wc.cell? ⟨gb765, 2, none⟩ = some (.int .i64 a2_2) := (blk_cell BK765.out 2).trans rfl
       have hcz34_3 : wc.cell? ⟨gb765, 3, none⟩ = some (.int .i64 a2_3) := (blk_cell BK765.out 3).trans rfl
       have hcz34_4 : wc.cell? ⟨gb765, 4, none⟩ = some (.bool a2_4) := (blk_cell BK765.out 4).trans rfl
       have hfz34_0 := blk_frozen BK765.out 0
       have hfz34_1 := blk_frozen BK765.out 1
       have hfz34_2 := blk_frozen BK765.out 2
       have hfz34_3 := blk_frozen BK765.out 3
       have hfz34_4 := blk_frozen BK765.out 4
       try go_wp2_with (first | ((with_reducible refine gate_dst (N := 7) rfl ?_); (try (refine gate_guard (by rfl) ?_; dsimp only)); refine box_event ?hg (N := 7) ?hd (cs := #[.int .i64 0, .int .i64 0, .int .i64 0, .int .i64 0, .bool false]) (t := 76) ?hr ?_; (case hd => rfl); (case hg => rfl); (case hr => first | (go_simp; done) | (go_simp; rfl)); intro gb772 hg w35 hbox hb; have n0_ := Aside0.mk (blk_below (g := gb765) (o := .cells #[.int .i64 a2_0, .int .i64 a2_1, .int .i64 a2_2, .int .i64 a2_3, .bool a2_4] 76 (0, 0)) (by (with_reducible repeat (first | refine blk_drewN ?_ _ | refine blk_drew ?_ | refine blk_alloc ?_ _)); exact BK765.out) hb); have n1_ := Aside0.mk (below_step (by repeat (first | (with_reducible first | exact HB.out | apply below_alloc | apply pw_below_drewN | apply below_drew1 | refine below_set ?_ GE765.out) | exact HB.out)) hb); have n2_ := Aside0.mk (hbox); have n3_ := Aside0.mk ((by rw [hg]; exact (below_size (by repeat (first | (with_reducible first | exact HB.out | apply below_alloc | apply pw_below_drewN | apply below_drew1 | refine below_set ?_ GE765.out) | exact HB.out))) : w.heap.size ≤ gb772)); have n4_ := Aside0.mk ((by rw [hg]; exact (below_size (by repeat (first | (with_reducible first | exact HB.out | apply below_alloc | apply pw_below_drewN | apply below_drew1 | refine below_set ?_ GE765.out) | exact HB.out))) : w.heap.size ≤ gb772)); have n5_ := Aside0.mk ((by rw [hg]; exact Nat.ne_of_lt (blk_lt (g := gb765) (o := .cells #[.int .i64 a2_0, .int .i64 a2_1, .int .i64 a2_2, .int .i64 a2_3, .bool a2_4] 76 (0, 0)) (by (with_reducible repeat (first | refine blk_drewN ?_ _ | refine blk_drew ?_ | refine blk_alloc ?_ _)); exact BK765.out)) : gb765 ≠ gb772)); have n6_ := Aside0.mk ((by rw [hg]; exact Nat.ne_of_gt (blk_lt (g := gb765) (o := .cells #[.int .i64 a2_0, .int .i64 a2_1, .int .i64 a2_2, .int .i64 a2_3, .bool a2_4] 76 (0, 0)) (by (with_reducible repeat (first | refine blk_drewN ?_ _ | refine blk_drew ?_ | refine blk_alloc ?_ _)); exact BK765.out)) : gb772 ≠ gb765)); clear BK765; clear HB; have BK765 := n0_; have HB := n1_; have BK772 := n2_; have GW772 := n3_; have GE772 := n4_; have NB765_772 := n5_; have NB772_765 := n6_; clear n0_ n1_ n2_ n3_ n4_ n5_ n6_; clear hb hbox hg; have hnb36 := NB772_765.out; have hnc36 := NB765_772.out; have hcz37_0 : w35.cell? ⟨gb772, 0, none⟩ = some (.int .i64 0) := (blk_cell BK772.out 0).trans rfl; have hcz37_1 : w35.cell? ⟨gb772, 1, none⟩ = some (.int .i64 0) := (blk_cell BK772.out 1).trans rfl; have hcz37_2 : w35.cell? ⟨gb772, 2, none⟩ = some (.int .i64 0) := (blk_cell BK772.out 2).trans rfl; have hcz37_3 : w35.cell? ⟨gb772, 3, none⟩ = some (.int .i64 0) := (blk_cell BK772.out 3).trans rfl; have hcz37_4 : w35.cell? ⟨gb772, 4, none⟩ = some (.bool false) := (blk_cell BK772.out 4).trans rfl; have hfz37_0 := blk_frozen BK772.out 0; have hfz37_1 := blk_frozen BK772.out 1; have hfz37_2 := blk_frozen BK772.out 2; have hfz37_3 := blk_frozen BK772.out 3; have hfz37_4 := blk_frozen BK772.out 4) | ((with_reducible refine gate_callee (f := 56) rfl ?_); refine goesL_ (some 44) rfl rfl Try.func56 (by kernel_rfl) rfl #[.int .i64 a0, .slice A1 l1.length c1] rfl (by (try simp only [List.map_toArray, List.map_cons, List.map_nil]); first | done | rfl | (simp only [List.length_drop, List.length_take]; rfl)) ?_; (with_reducible refine (puzzles_Hangings.calls kj3 a0 _ _ l1 t773 t774 _ ?side1 ?side2 A26.out).mono ?_); (case side1 => exact Kd.C_below HR1.out (by repeat (first | (with_reducible first | exact HB.out | apply below_alloc | apply pw_below_drewN | apply below_drew1 | refine below_set ?_ GE765.out | refine below_set ?_ GE772.out) | exact HB.out))); (case side2 => exact HC1.out); rintro e w38 ⟨rfl, hb⟩; refine ⟨_, rfl, ?_⟩; have n0_ := Aside0.mk (blk_below (g := gb765) (o := .cells #[.int .i64 a2_0, .int .i64 a2_1, .int .i64 a2_2, .int .i64 a2_3, .bool a2_4] 76 (0, 0)) (by (with_reducible repeat (first | refine blk_drewN ?_ _ | refine blk_drew ?_ | refine blk_alloc ?_ _)); refine blk_far ?_ NB765_772.out _; (with_reducible repeat (first | refine blk_drewN ?_ _ | refine blk_drew ?_ | refine blk_alloc ?_ _)); refine blk_far ?_ NB765_772.out _; (with_reducible repeat (first | refine blk_drewN ?_ _ | refine blk_drew ?_ | refine blk_alloc ?_ _)); refine blk_far ?_ NB765_772.out _; (with_reducible repeat (first | refine blk_drewN ?_ _ | refine blk_drew ?_ | refine blk_alloc ?_ _)); refine blk_far ?_ NB765_772.out _; (with_reducible repeat (first | refine blk_drewN ?_ _ | refine blk_drew ?_ | refine blk_alloc ?_ _)); refine blk_far ?_ NB765_772.out _; (with_reducible repeat (first | refine blk_drewN ?_ _ | refine blk_drew ?_ | refine blk_alloc ?_ _)); refine blk_far ?_ NB765_772.out _; (with_reducible repeat (first | refine blk_drewN ?_ _ | refine blk_drew ?_ | refine blk_alloc ?_ _)); exact BK765.out) hb); have n1_ := Aside0.mk (blk_below (g := gb772) (o := .cells #[.int .i64 a2_0, .int .i64 a2_1, .int .i64 a2_2, .int .i64 a2_3, .bool (!a2_4)] 76 (0, 0)) (by (with_reducible repeat (first | refine blk_drewN ?_ _ | refine blk_drew ?_ | refine blk_alloc ?_ _)); refine blk_put (cs := #[.int .i64 a2_0, .int .i64 a2_1, .int .i64 a2_2, .int .i64 a2_3, .bool a2_4]) ?_ 4 _ rfl; (with_reducible repeat (first | refine blk_drewN ?_ _ | refine blk_drew ?_ | refine blk_alloc ?_ _)); refine blk_put (cs := #[.int .i64 a2_0, .int .i64 a2_1, .int .i64 a2_2, .int .i64 a2_3, .bool false]) ?_ 4 _ rfl; (with_reducible repeat (first | refine blk_drewN ?_ _ | refine blk_drew ?_ | refine blk_alloc ?_ _)); refine blk_put (cs := #[.int .i64 a2_0, .int .i64 a2_1, .int .i64 a2_2, .int .i64 0, .bool false]) ?_ 3 _ rfl; (with_reducible repeat (first | refine blk_drewN ?_ _ | refine blk_drew ?_ | refine blk_alloc ?_ _)); refine blk_put (cs := #[.int .i64 a2_0, .int .i64 a2_1, .int .i64 0, .int .i64 0, .bool false]) ?_ 2 _ rfl; (with_reducible repeat (first | refine blk_drewN ?_ _ | refine blk_drew ?_ | refine blk_alloc ?_ _)); refine blk_put (cs := #[.int .i64 a2_0, .int .i64 0, .int .i64 0, .int .i64 0, .bool false]) ?_ 1 _ rfl; (with_reducible repeat (first | refine blk_drewN ?_ _ | refine blk_drew ?_ | refine blk_alloc ?_ _)); refine blk_put (cs := #[.int .i64 0, .int .i64 0, .int .i64 0, .int .i64 0, .bool false]) ?_ 0 _ rfl; (with_reducible repeat (first | refine blk_drewN ?_ _ | refine blk_drew ?_ | refine blk_alloc ?_ _)); exact BK772.out) hb); have n2_ := Aside0.mk (below_step (by repeat (first | (with_reducible first | exact HB.out | apply below_alloc | apply pw_below_drewN | apply below_drew1 | refine below_set ?_ GE765.out | refine below_set ?_ GE772.out) | exact HB.out)) hb); clear BK765; clear BK772; clear HB; have BK765 := n0_; have BK772 := n1_; have HB := n2_; clear n0_ n1_ n2_; (try clear hb); (try clear hb2); (try clear hk); (try clear hi)))
       have n0_ := Aside0.mk (blk_drew BK765.out)
       have n1_ := Aside0.mk (blk_drew BK772.out)
       have n2_ := Aside0.mk (below_drew1 HB.out)
       clear BK765
       clear BK772
       clear HB
       have BK765 := n0_
       have BK772 := n1_
       have HB := n2_
       clear n0_ n1_ n2_
       refine start_ (n := 12) (S := fun w' => w'.cell? ⟨gb765, 0, none⟩ = some (.int .i64 a2_0) ∧ w'.cell? ⟨gb765, 1, none⟩ = some (.int .i64 a2_1) ∧ w'.cell? ⟨gb765, 2, none⟩ = some (.int .i64 a2_2) ∧ w'.cell? ⟨gb765, 3, none⟩ = some (.int .i64 a2_3) ∧ w'.cell? ⟨gb765, 4, none⟩ = some (.bool a2_4)) (ds := []) #[false, false, false, false, false, false, false, false, false, false, false, false] (by kernel_rfl) rfl rfl ⟨(blk_cell BK765.out 0).trans rfl, (blk_cell BK765.out 1).trans rfl, (blk_cell BK765.out 2).trans rfl, (blk_cell BK765.out 3).trans rfl, (blk_cell BK765.out 4).trans rfl⟩ (fun hHeld => ?_); refine with_tabW padlocklaw03_PuzzlesHung.tab6 padlocklaw03_PuzzlesHung.bits6 (fun HT_ HW_ => ?_)
       generalize w38.drew = w39 at BK765 BK772 HB hHeld ⊢
       refine pure_ (i := 0) (N := some 48) (v := ?_) (a' := ?_) #[true, false, false, false, false, false, false, false, false, false, false, false] rfl rfl (any_of HT_.out (by kernel_rfl)) (fun _ _ _ h => h) (Or.inl ⟨by rfl, ?_⟩) ?_ ?_
       rotate_left
       ·intro w'
        go_simp
        with_reducible rfl
       rotate_left
       ·simp only [Act.put, List.setIfInBounds_toArray, List.set_cons_zero, List.set_cons_succ, i64_w, i32_w]
        rfl
       refine pure_ (i := 1) (N := some 49) (v := ?_) (a' := ?_) #[true, true, false, false, false, false, false, false, false, false, false, false] rfl rfl (any_of HT_.out (by kernel_rfl)) (fun _ _ _ h => h) (Or.inl ⟨by rfl, ?_⟩) ?_ ?_
       rotate_left
       ·intro w'
        go_simp
        with_reducible rfl
       rotate_left
       ·simp only [Act.put, List.setIfInBounds_toArray, List.set_cons_zero, List.set_cons_succ, i64_w, i32_w]
        rfl
       refine take_ (i := 3) (N := some 51) (v := ?_) (a' := ?_) #[true, true, false, true, false, false, false, false, false, false, false, false] rfl rfl (take_ofW HT_.out HW_.out (by kernel_rfl)) (fun _ _ _ h => h) (Or.inl ⟨by rfl, ?_⟩) hHeld ?_ ?_
       rotate_left
       ·rintro w' ⟨s0, s1, s2, s3, s4⟩
        go_simp
        with_reducible rfl
       rotate_left
       ·simp only [Act.put, List.setIfInBounds_toArray, List.set_cons_zero, List.set_cons_succ, i64_w, i32_w]
        rfl
       refine join_ (σ := Value × Value) 7 #[true, true, true, true, true, false, false, false, false, false, false, false] (fun s_ => [(50, s_.1), (52, s_.2)]) (fun s_ w' => (w'.cell? ⟨gb765, 0, none⟩ = some (.int .i64 a2_0) ∧ w'.cell? ⟨gb765, 1, none⟩ = some (.int .i64 a2_1) ∧ w'.cell? ⟨gb765, 2, none⟩ = some (.int .i64 a2_2) ∧ w'.cell? ⟨gb765, 3, none⟩ = some (.int .i64 a2_3) ∧ w'.cell? ⟨gb765, 4, none⟩ = some (.bool a2_4)) ∧ (Kd.R k76 76 w' w.heap.size (fun k_ => some k_ ≠ (s_.2 : Value).ownBlock ∧ k_ ≠ gb765 ∧ k_ ≠ gb772) s_.1 y775) ∧ (Kd.R k76 76 w' w.heap.size (fun k_ => some k_ ≠ (s_.1 : Value).ownBlock ∧ k_ ≠ gb765 ∧ k_ ≠ gb772) s_.2 y778) ∧ (w'.heap[gb765]? = some (.cells #[.int .i64 a2_0, .int .i64 a2_1, .int .i64 a2_2, .int .i64 a2_3, .bool a2_4] 76 (0, 0))) ∧ (w'.heap[gb772]? = some (.cells #[.int .i64 a2_0, .int .i64 a2_1, .int .i64 a2_2, .int .i64 a2_3, .bool (!a2_4)] 76 (0, 0))) ∧ (Below w.heap.size w w')) ?_ ?_
       rotate_left
       ·intro hCont
        refine two_ (i := 2) (j := 4) (Ni := some 50) (Nj := some 52) #[true, true, true, true, false, false, false, false, false, false, false, false] #[true, true, false, true, true, false, false, false, false, false, false, false] rfl rfl rfl rfl (two_of HT_.out (by kernel_rfl)) (by decide) (by decide) (fun K hK => ?_) (fun K hK => ?_)
        ·skip
         refine Kd.R_append_rows_step k76 (w0 := w) w.heap.size (by rfl) (.const (.slice none 0 0)) (.tmp 49) 69 76 (.agg #[(.int .i64 0), (.int .i64 0), (.int .i64 0), (.int .i64 0), (.bool false)]) 40 rfl Try.underlying69 info76 rfl (by decide) (by omega) (.slice none 0 0) ([] : List (S76)) l1 _ _ _ (fun k_ => k_ ≠ gb765 ∧ k_ ≠ gb772) (fun _ => False) rfl rfl ?aO ?aR (fun _ _ h => h) (fun _ h => h.elim) ?aF ?aB ?aS ?aL ?_
         (case aR => repeat (first | exact (Kd.C_below HR1.out HB.out) | (with_reducible refine Kd.C_alloc ?_ _) | (with_reducible refine Kd.C_drewN ?_ _) | (with_reducible refine Kd.C_drew ?_)))
         (case aB => exact (by repeat (first | (with_reducible first | exact HB.out | apply below_alloc | apply pw_below_drewN | apply below_drew1 | refine below_set ?_ GE765.out | refine below_set ?_ GE772.out) | exact HB.out)))
         (case aF => exact (fun k_ hk => ⟨Kd.freshB (g := gb765) (o := .cells #[.int .i64 a2_0, .int .i64 a2_1, .int .i64 a2_2, .int .i64 a2_3, .bool a2_4] 76 (0, 0)) (by (with_reducible repeat (first | refine blk_drewN ?_ _ | refine blk_drew ?_ | refine blk_alloc ?_ _)); exact BK765.out) k_ hk, Kd.freshB (g := gb772) (o := .cells #[.int .i64 a2_0, .int .i64 a2_1, .int .i64 a2_2, .int .i64 a2_3, .bool (!a2_4)] 76 (0, 0)) (by (with_reducible repeat (first | refine blk_drewN ?_ _ | refine blk_drew ?_ | refine blk_alloc ?_ _)); exact BK772.out) k_ hk⟩))
         (case aO => exact ((Kd.R_nil _ _ _ _ (fun k_ => k_ ≠ gb765 ∧ k_ ≠ gb772))))
         (case aS => exact (below_size (by repeat (first | (with_reducible first | exact HB.out | apply below_alloc | apply pw_below_drewN | apply below_drew1 | refine below_set ?_ GE765.out | refine below_set ?_ GE772.out) | exact HB.out))))
         (case aL => have := LMc27.out; omega)
         intro v776 w40 ho hb hg hat
         rw [← Ny775.out] at ho
         have n0_ := Aside0.mk (blk_grown (g := gb765) (o := .cells #[.int .i64 a2_0, .int .i64 a2_1, .int .i64 a2_2, .int .i64 a2_3, .bool a2_4] 76 (0, 0)) (by (with_reducible repeat (first | refine blk_drewN ?_ _ | refine blk_drew ?_ | refine blk_alloc ?_ _)); exact BK765.out) hg (by simp [Value.ownBlock]))
         have n1_ := Aside0.mk (blk_grown (g := gb772) (o := .cells #[.int .i64 a2_0, .int .i64 a2_1, .int .i64 a2_2, .int .i64 a2_3, .bool (!a2_4)] 76 (0, 0)) (by (with_reducible repeat (first | refine blk_drewN ?_ _ | refine blk_drew ?_ | refine blk_alloc ?_ _)); exact BK772.out) hg (by simp [Value.ownBlock]))
         have n2_ := Aside0.mk (hb)
         have n3_ := Aside0.mk (ho)
         clear BK765
         clear BK772
         clear HB
         have BK765 := n0_
         have BK772 := n1_
         have HB := n2_
         have HO777 := n3_
         clear n0_ n1_ n2_ n3_
         clear ho hb hg hat
         refine hK.out _ _ ⟨(blk_cell BK765.out 0).trans rfl, (blk_cell BK765.out 1).trans rfl, (blk_cell BK765.out 2).trans rfl, (blk_cell BK765.out 3).trans rfl, (blk_cell BK765.out 4).trans rfl⟩ (fun hHeld => ?_)
         clear hK K
         refine norm_ (a' := ?_) ?_ ?_
         rotate_left
         ·show Act.put _ (some 50) _ = _
          simp only [Act.put, List.setIfInBounds_toArray, List.set_cons_zero, List.set_cons_succ, i64_w, i32_w]
          rfl
         refine one_ (i := 4) (N := some 52) #[true, true, true, true, true, false, false, false, false, false, false, false] rfl rfl (one_of HT_.out (by kernel_rfl)) (by decide) (fun K hK => ?_)
         refine Kd.R_lit_step k76 _ 76 ?hg (N := 52) ?hd (xs := ([(⟨a2_0, a2_1, a2_2, a2_3, a2_4⟩ : S76)] : List (S76))) (inner := [.int .i64 a2_0, .int .i64 a2_1, .int .i64 a2_2, .int .i64 a2_3, .bool a2_4]) (ok := fun _ => True) (okp := fun _ => True) ?hr ?hp (fun _ hk => hk) trivial (Below.refl _ _) (Nat.le_refl _) (by simp) ?_; (case hd => rfl); (case hg => rfl); (case hr => first | (go_simp; done) | (go_simp; rfl)); (case hp => exact (Reps.c5 (show Kd.M k76 _ _ _ (⟨a2_0, a2_1, a2_2, a2_3, a2_4⟩ : S76) [.int .i64 a2_0, .int .i64 a2_1, .int .i64 a2_2, .int .i64 a2_3, .bool a2_4] from (k76_mkM _ _ _ (⟨a2_0, a2_1, a2_2, a2_3, a2_4⟩ : S76) )) (Reps.none _ _)))
         intro v779 w41 ho42 hb hg_ hnew_
         clear hg_ hnew_
         (first | rw [← Ny778.out] at ho42 | (simp only [Int.reduceToNat] at ho42; rw [← Ny778.out] at ho42))
         have n0_ := Aside0.mk (Kd.R_elder' (by (with_reducible repeat (first | apply Kd.R_alloc | apply Kd.R_drewN | apply Kd.R_drew)); exact HO777.out) (Kd.R_base ho42) hb)
         have n1_ := Aside0.mk (Kd.R_lower (Kd.R_newB (Kd.R_newB (Kd.R_new' ho42 (Kd.R_lt (by (with_reducible repeat (first | apply Kd.R_alloc | apply Kd.R_drewN | apply Kd.R_drew)); exact HO777.out))) (g := gb765) (o := .cells #[.int .i64 a2_0, .int .i64 a2_1, .int .i64 a2_2, .int .i64 a2_3, .bool a2_4] 76 (0, 0)) (by (with_reducible repeat (first | refine blk_drewN ?_ _ | refine blk_drew ?_ | refine blk_alloc ?_ _)); exact BK765.out)) (g := gb772) (o := .cells #[.int .i64 a2_0, .int .i64 a2_1, .int .i64 a2_2, .int .i64 a2_3, .bool (!a2_4)] 76 (0, 0)) (by (with_reducible repeat (first | refine blk_drewN ?_ _ | refine blk_drew ?_ | refine blk_alloc ?_ _)); exact BK772.out)) (below_size (by repeat (first | (with_reducible first | exact HB.out | apply below_alloc | apply pw_below_drewN | apply below_drew1 | refine below_set ?_ GE765.out | refine below_set ?_ GE772.out) | exact HB.out))))
         have n2_ := Aside0.mk (blk_below (g := gb765) (o := .cells #[.int .i64 a2_0, .int .i64 a2_1, .int .i64 a2_2, .int .i64 a2_3, .bool a2_4] 76 (0, 0)) (by (with_reducible repeat (first | refine blk_drewN ?_ _ | refine blk_drew ?_ | refine blk_alloc ?_ _)); exact BK765.out) hb)
         have n3_ := Aside0.mk (blk_below (g := gb772) (o := .cells #[.int .i64 a2_0, .int .i64 a2_1, .int .i64 a2_2, .int .i64 a2_3, .bool (!a2_4)] 76 (0, 0)) (by (with_reducible repeat (first | refine blk_drewN ?_ _ | refine blk_drew ?_ | refine blk_alloc ?_ _)); exact BK772.out) hb)
         have n4_ := Aside0.mk (below_step (by repeat (first | (with_reducible first | exact HB.out | apply below_alloc | apply pw_below_drewN | apply below_drew1 | refine below_set ?_ GE765.out | refine below_set ?_ GE772.out) | exact HB.out)) hb)
         clear HO777
         clear BK765
         clear BK772
         clear HB
         have HO777 := n0_
         have HO780 := n1_
         have BK765 := n2_
         have BK772 := n3_
         have HB := n4_
         clear n0_ n1_ n2_ n3_ n4_
         clear hb ho42
         refine hK.out _ _ ⟨(blk_cell BK765.out 0).trans rfl, (blk_cell BK765.out 1).trans rfl, (blk_cell BK765.out 2).trans rfl, (blk_cell BK765.out 3).trans rfl, (blk_cell BK765.out 4).trans rfl⟩ (fun hHeld => ?_)
         clear hK K
         refine norm_ (a' := ?_) ?_ ?_
         rotate_left
         ·show Act.put _ (some 52) _ = _
          simp only [Act.put, List.setIfInBounds_toArray, List.set_cons_zero, List.set_cons_succ, i64_w, i32_w]
          rfl
         exact norm_ (by simp only [putAll, Act.put, List.setIfInBounds_toArray, List.set_cons_zero, List.set_cons_succ]) (hCont (v776, v779) _ ⟨hHeld, (by (with_reducible repeat (first | apply Kd.R_alloc | apply Kd.R_drewN | apply Kd.R_drew)); exact Kd.R_mono HO777.out (fun _ hk => ⟨hk.2, ⟨hk.1.1, hk.1.2⟩⟩)), (by (with_reducible repeat (first | apply Kd.R_alloc | apply Kd.R_drewN | apply Kd.R_drew)); exact Kd.R_mono HO780.out (fun _ hk => ⟨hk.1.1.2, ⟨hk.1.2, hk.2⟩⟩)), (by (with_reducible repeat (first | refine blk_drewN ?_ _ | refine blk_drew ?_ | refine blk_alloc ?_ _)); exact BK765.out), (by (with_reducible repeat (first | refine blk_drewN ?_ _ | refine blk_drew ?_ | refine blk_alloc ?_ _)); exact BK772.out), (by repeat (first | (with_reducible first | exact HB.out | apply below_alloc | apply pw_below_drewN | apply below_drew1 | refine below_set ?_ GE765.out | refine below_set ?_ GE772.out) | exact HB.out))⟩)
        ·skip
         refine Kd.R_lit_step k76 _ 76 ?hg (N := 52) ?hd (xs := ([(⟨a2_0, a2_1, a2_2, a2_3, a2_4⟩ : S76)] : List (S76))) (inner := [.int .i64 a2_0, .int .i64 a2_1, .int .i64 a2_2, .int .i64 a2_3, .bool a2_4]) (ok := fun _ => True) (okp := fun _ => True) ?hr ?hp (fun _ hk => hk) trivial (Below.refl _ _) (Nat.le_refl _) (by simp) ?_; (case hd => rfl); (case hg => rfl); (case hr => first | (go_simp; done) | (go_simp; rfl)); (case hp => exact (Reps.c5 (show Kd.M k76 _ _ _ (⟨a2_0, a2_1, a2_2, a2_3, a2_4⟩ : S76) [.int .i64 a2_0, .int .i64 a2_1, .int .i64 a2_2, .int .i64 a2_3, .bool a2_4] from (k76_mkM _ _ _ (⟨a2_0, a2_1, a2_2, a2_3, a2_4⟩ : S76) )) (Reps.none _ _)))
         intro v779 w40 ho41 hb hg_ hnew_
         clear hg_ hnew_
         (first | rw [← Ny778.out] at ho41 | (simp only [Int.reduceToNat] at ho41; rw [← Ny778.out] at ho41))
         have n0_ := Aside0.mk (Kd.R_lower (Kd.R_newB (Kd.R_newB ho41 (g := gb765) (o := .cells #[.int .i64 a2_0, .int .i64 a2_1, .int .i64 a2_2, .int .i64 a2_3, .bool a2_4] 76 (0, 0)) (by (with_reducible repeat (first | refine blk_drewN ?_ _ | refine blk_drew ?_ | refine blk_alloc ?_ _)); exact BK765.out)) (g := gb772) (o := .cells #[.int .i64 a2_0, .int .i64 a2_1, .int .i64 a2_2, .int .i64 a2_3, .bool (!a2_4)] 76 (0, 0)) (by (with_reducible repeat (first | refine blk_drewN ?_ _ | refine blk_drew ?_ | refine blk_alloc ?_ _)); exact BK772.out)) (below_size (by repeat (first | (with_reducible first | exact HB.out | apply below_alloc | apply pw_below_drewN | apply below_drew1 | refine below_set ?_ GE765.out | refine below_set ?_ GE772.out) | exact HB.out))))
         have n1_ := Aside0.mk (blk_below (g := gb765) (o := .cells #[.int .i64 a2_0, .int .i64 a2_1, .int .i64 a2_2, .int .i64 a2_3, .bool a2_4] 76 (0, 0)) (by (with_reducible repeat (first | refine blk_drewN ?_ _ | refine blk_drew ?_ | refine blk_alloc ?_ _)); exact BK765.out) hb)
         have n2_ := Aside0.mk (blk_below (g := gb772) (o := .cells #[.int .i64 a2_0, .int .i64 a2_1, .int .i64 a2_2, .int .i64 a2_3, .bool (!a2_4)] 76 (0, 0)) (by (with_reducible repeat (first | refine blk_drewN ?_ _ | refine blk_drew ?_ | refine blk_alloc ?_ _)); exact BK772.out) hb)
         have n3_ := Aside0.mk (below_step (by repeat (first | (with_reducible first | exact HB.out | apply below_alloc | apply pw_below_drewN | apply below_drew1 | refine below_set ?_ GE765.out | refine below_set ?_ GE772.out) | exact HB.out)) hb)
         clear BK765
         clear BK772
         clear HB
         have HO780 := n0_
         have BK765 := n1_
         have BK772 := n2_
         have HB := n3_
         clear n0_ n1_ n2_ n3_
         clear hb ho41
         refine hK.out _ _ ⟨(blk_cell BK765.out 0).trans rfl, (blk_cell BK765.out 1).trans rfl, (blk_cell BK765.out 2).trans rfl, (blk_cell BK765.out 3).trans rfl, (blk_cell BK765.out 4).trans rfl⟩ (fun hHeld => ?_)
         clear hK K
         refine norm_ (a' := ?_) ?_ ?_
         rotate_left
         ·show Act.put _ (some 52) _ = _
          simp only [Act.put, List.setIfInBounds_toArray, List.set_cons_zero, List.set_cons_succ, i64_w, i32_w]
          rfl
         refine one_ (i := 2) (N := some 50) #[true, true, true, true, true, false, false, false, false, false, false, false] rfl rfl (one_of HT_.out (by kernel_rfl)) (by decide) (fun K hK => ?_)
         refine Kd.R_append_rows_step k76 (w0 := w) w.heap.size (by rfl) (.const (.slice none 0 0)) (.tmp 49) 69 76 (.agg #[(.int .i64 0), (.int .i64 0), (.int .i64 0), (.int .i64 0), (.bool false)]) 40 rfl Try.underlying69 info76 rfl (by decide) (by omega) (.slice none 0 0) ([] : List (S76)) l1 _ _ _ (fun k_ => some k_ ≠ (v779 : Value).ownBlock ∧ k_ ≠ gb765 ∧ k_ ≠ gb772) (fun _ => False) rfl rfl ?aO ?aR (fun _ _ h => h) (fun _ h => h.elim) ?aF ?aB ?aS ?aL ?_
         (case aR => repeat (first | exact (Kd.C_below HR1.out HB.out) | (with_reducible refine Kd.C_alloc ?_ _) | (with_reducible refine Kd.C_drewN ?_ _) | (with_reducible refine Kd.C_drew ?_)))
         (case aB => exact (by repeat (first | (with_reducible first | exact HB.out | apply below_alloc | apply pw_below_drewN | apply below_drew1 | refine below_set ?_ GE765.out | refine below_set ?_ GE772.out) | exact HB.out)))
         (case aF => exact (fun k_ hk => ⟨Kd.fresh' (Kd.R_lt (by (with_reducible repeat (first | apply Kd.R_alloc | apply Kd.R_drewN | apply Kd.R_drew)); exact HO780.out)) k_ hk, Kd.freshB (g := gb765) (o := .cells #[.int .i64 a2_0, .int .i64 a2_1, .int .i64 a2_2, .int .i64 a2_3, .bool a2_4] 76 (0, 0)) (by (with_reducible repeat (first | refine blk_drewN ?_ _ | refine blk_drew ?_ | refine blk_alloc ?_ _)); exact BK765.out) k_ hk, Kd.freshB (g := gb772) (o := .cells #[.int .i64 a2_0, .int .i64 a2_1, .int .i64 a2_2, .int .i64 a2_3, .bool (!a2_4)] 76 (0, 0)) (by (with_reducible repeat (first | refine blk_drewN ?_ _ | refine blk_drew ?_ | refine blk_alloc ?_ _)); exact BK772.out) k_ hk⟩))
         (case aO => exact ((Kd.R_nil _ _ _ _ (fun k_ => some k_ ≠ (v779 : Value).ownBlock ∧ k_ ≠ gb765 ∧ k_ ≠ gb772))))
         (case aS => exact (below_size (by repeat (first | (with_reducible first | exact HB.out | apply below_alloc | apply pw_below_drewN | apply below_drew1 | refine below_set ?_ GE765.out | refine below_set ?_ GE772.out) | exact HB.out))))
         (case aL => have := LMc27.out; omega)
         intro v776 w42 ho hb hg hat
         rw [← Ny775.out] at ho
         have n0_ := Aside0.mk (blk_grown (g := gb765) (o := .cells #[.int .i64 a2_0, .int .i64 a2_1, .int .i64 a2_2, .int .i64 a2_3, .bool a2_4] 76 (0, 0)) (by (with_reducible repeat (first | refine blk_drewN ?_ _ | refine blk_drew ?_ | refine blk_alloc ?_ _)); exact BK765.out) hg (by simp [Value.ownBlock]))
         have n1_ := Aside0.mk (blk_grown (g := gb772) (o := .cells #[.int .i64 a2_0, .int .i64 a2_1, .int .i64 a2_2, .int .i64 a2_3, .bool (!a2_4)] 76 (0, 0)) (by (with_reducible repeat (first | refine blk_drewN ?_ _ | refine blk_drew ?_ | refine blk_alloc ?_ _)); exact BK772.out) hg (by simp [Value.ownBlock]))
         have n2_ := Aside0.mk (Kd.R_after (Kd.R_apart_nil (by (with_reducible repeat (first | apply Kd.R_alloc | apply Kd.R_drewN | apply Kd.R_drew)); exact HO780.out)) hg hat)
         have n3_ := Aside0.mk (hb)
         have n4_ := Aside0.mk (ho)
         clear BK765
         clear BK772
         clear HO780
         clear HB
         have BK765 := n0_
         have BK772 := n1_
         have HO780 := n2_
         have HB := n3_
         have HO777 := n4_
         clear n0_ n1_ n2_ n3_ n4_
         clear ho hb hg hat
         refine hK.out _ _ ⟨(blk_cell BK765.out 0).trans rfl, (blk_cell BK765.out 1).trans rfl, (blk_cell BK765.out 2).trans rfl, (blk_cell BK765.out 3).trans rfl, (blk_cell BK765.out 4).trans rfl⟩ (fun hHeld => ?_)
         clear hK K
         refine norm_ (a' := ?_) ?_ ?_
         rotate_left
         ·show Act.put _ (some 50) _ = _
          simp only [Act.put, List.setIfInBounds_toArray, List.set_cons_zero, List.set_cons_succ, i64_w, i32_w]
          rfl
         exact norm_ (by simp only [putAll, Act.put, List.setIfInBounds_toArray, List.set_cons_zero, List.set_cons_succ]) (hCont (v776, v779) _ ⟨hHeld, (by (with_reducible repeat (first | apply Kd.R_alloc | apply Kd.R_drewN | apply Kd.R_drew)); exact HO777.out), (by (with_reducible repeat (first | apply Kd.R_alloc | apply Kd.R_drewN | apply Kd.R_drew)); exact Kd.R_mono HO780.out (fun _ hk => ⟨hk.2, ⟨hk.1.1.2, hk.1.2⟩⟩)), (by (with_reducible repeat (first | refine blk_drewN ?_ _ | refine blk_drew ?_ | refine blk_alloc ?_ _)); exact BK765.out), (by (with_reducible repeat (first | refine blk_drewN ?_ _ | refine blk_drew ?_ | refine blk_alloc ?_ _)); exact BK772.out), (by repeat (first | (with_reducible first | exact HB.out | apply below_alloc | apply pw_below_drewN | apply below_drew1 | refine below_set ?_ GE765.out | refine below_set ?_ GE772.out) | exact HB.out))⟩)
       rintro ⟨v776, v779⟩ w43 ⟨hS_, h0_, h1_, h2_, h3_, h4_⟩
       have n0_ : Aside0 (Kd.R k76 76 w43 w.heap.size (fun k_ => some k_ ≠ (v779 : Value).ownBlock ∧ k_ ≠ gb765 ∧ k_ ≠ gb772) v776 y775) := ⟨h0_⟩
       have n1_ : Aside0 (Kd.R k76 76 w43 w.heap.size (fun k_ => some k_ ≠ (v776 : Value).ownBlock ∧ k_ ≠ gb765 ∧ k_ ≠ gb772) v779 y778) := ⟨h1_⟩
       have n2_ : Aside0 (w43.heap[gb765]? = some (.cells #[.int .i64 a2_0, .int .i64 a2_1, .int .i64 a2_2, .int .i64 a2_3, .bool a2_4] 76 (0, 0))) := ⟨h2_⟩
       have n3_ : Aside0 (w43.heap[gb772]? = some (.cells #[.int .i64 a2_0, .int .i64 a2_1, .int .i64 a2_2, .int .i64 a2_3, .bool (!a2_4)] 76 (0, 0))) := ⟨h3_⟩
       have n4_ : Aside0 (Below w.heap.size w w43) := ⟨h4_⟩
       clear BK765
       clear BK772
       clear HB
       clear h0_ h1_ h2_ h3_ h4_
       have HO777 := n0_
       have HO780 := n1_
       have BK765 := n2_
       have BK772 := n3_
       have HB := n4_
       clear n0_ n1_ n2_ n3_ n4_
       have hHeld : w43.cell? ⟨gb765, 0, none⟩ = some (.int .i64 a2_0) ∧ w43.cell? ⟨gb765, 1, none⟩ = some (.int .i64 a2_1) ∧ w43.cell? ⟨gb765, 2, none⟩ = some (.int .i64 a2_2) ∧ w43.cell? ⟨gb765, 3, none⟩ = some (.int .i64 a2_3) ∧ w43.cell? ⟨gb765, 4, none⟩ = some (.bool a2_4) := hS_
       obtain ⟨Ao45, co45, eo45⟩ := Kd.R_slice HO780.out
       (first | subst eo45 | (injection eo45 with f1_ f2_ f3_; have f4_ := f1_.symm; have f5_ := f3_.symm; clear f1_ f2_ f3_; subst f4_; subst f5_))
       refine norm_ (a' := ?_) ?_ ?_
       rotate_left
       ·simp only [putAll, Act.put, List.setIfInBounds_toArray, List.set_cons_zero, List.set_cons_succ]
        rfl
       refine one_ (i := 5) (N := some 53) #[true, true, true, true, true, true, false, false, false, false, false, false] rfl rfl (one_of HT_.out (by kernel_rfl)) (by decide) (fun K hK => ?_)
       refine Kd.R_append_rows_step k76 (w0 := w) w.heap.size (by rfl) (.tmp 50) (.tmp 52) 69 76 (.agg #[(.int .i64 0), (.int .i64 0), (.int .i64 0), (.int .i64 0), (.bool false)]) 40 rfl Try.underlying69 info76 rfl (by decide) (by omega) v776 y775 y778 _ _ _ (fun k_ => some k_ ≠ (.slice Ao45 y778.length co45 : Value).ownBlock ∧ k_ ≠ gb765 ∧ k_ ≠ gb772) (fun _ => False) rfl rfl ?aO ?aR (fun _ _ h => h) (fun _ h => h.elim) ?aF ?aB ?aS ?aL ?_
       (case aR => repeat (first | exact (Kd.R_reads' HO780.out).2.2 | (with_reducible refine Kd.C_alloc ?_ _) | (with_reducible refine Kd.C_drewN ?_ _) | (with_reducible refine Kd.C_drew ?_)))
       (case aB => exact (by repeat (first | (with_reducible first | exact HB.out | apply below_alloc | apply pw_below_drewN | apply below_drew1 | refine below_set ?_ GE765.out | refine below_set ?_ GE772.out) | exact HB.out)))
       (case aF => exact (fun k_ hk => ⟨Kd.fresh' (Kd.R_lt (by (with_reducible repeat (first | apply Kd.R_alloc | apply Kd.R_drewN | apply Kd.R_drew)); exact HO780.out)) k_ hk, Kd.freshB (g := gb765) (o := .cells #[.int .i64 a2_0, .int .i64 a2_1, .int .i64 a2_2, .int .i64 a2_3, .bool a2_4] 76 (0, 0)) (by (with_reducible repeat (first | refine blk_drewN ?_ _ | refine blk_drew ?_ | refine blk_alloc ?_ _)); exact BK765.out) k_ hk, Kd.freshB (g := gb772) (o := .cells #[.int .i64 a2_0, .int .i64 a2_1, .int .i64 a2_2, .int .i64 a2_3, .bool (!a2_4)] 76 (0, 0)) (by (with_reducible repeat (first | refine blk_drewN ?_ _ | refine blk_drew ?_ | refine blk_alloc ?_ _)); exact BK772.out) k_ hk⟩))
       (case aO => exact (by (with_reducible repeat (first | apply Kd.R_alloc | apply Kd.R_drewN | apply Kd.R_drew)); exact HO777.out))
       (case aS => exact (below_size (by repeat (first | (with_reducible first | exact HB.out | apply below_alloc | apply pw_below_drewN | apply below_drew1 | refine below_set ?_ GE765.out | refine below_set ?_ GE772.out) | exact HB.out))))
       (case aL => have := LMc28.out; omega)
       intro v782 w44 ho hb hg hat
       rw [← Ny781.out] at ho
       have n0_ := Aside0.mk (blk_grown (g := gb765) (o := .cells #[.int .i64 a2_0, .int .i64 a2_1, .int .i64 a2_2, .int .i64 a2_3, .bool a2_4] 76 (0, 0)) (by (with_reducible repeat (first | refine blk_drewN ?_ _ | refine blk_drew ?_ | refine blk_alloc ?_ _)); exact BK765.out) hg (Kd.R_away HO777.out (fun _ hk => hk.2.1)))
       have n1_ := Aside0.mk (blk_grown (g := gb772) (o := .cells #[.int .i64 a2_0, .int .i64 a2_1, .int .i64 a2_2, .int .i64 a2_3, .bool (!a2_4)] 76 (0, 0)) (by (with_reducible repeat (first | refine blk_drewN ?_ _ | refine blk_drew ?_ | refine blk_alloc ?_ _)); exact BK772.out) hg (Kd.R_away HO777.out (fun _ hk => hk.2.2)))
       have n2_ := Aside0.mk (Kd.R_after (ok := (fun k_ => k_ ≠ gb765 ∧ k_ ≠ gb772)) (by (with_reducible repeat (first | apply Kd.R_alloc | apply Kd.R_drewN | apply Kd.R_drew)); exact Kd.R_mono HO780.out (fun _ hk => ⟨⟨hk.2.1, hk.2.2⟩, hk.1⟩)) hg hat)
       have n3_ := Aside0.mk (hb)
       have n4_ := Aside0.mk (ho)
       clear BK765
       clear BK772
       clear HO780
       clear HB
       clear HO777
       have BK765 := n0_
       have BK772 := n1_
       have HO780 := n2_
       have HB := n3_
       have HO783 := n4_
       clear n0_ n1_ n2_ n3_ n4_
       clear ho hb hg hat
       obtain ⟨Ao46, co46, eo46⟩ := Kd.R_slice HO783.out
       (first | subst eo46 | (injection eo46 with f1_ f2_ f3_; have f4_ := f1_.symm; have f5_ := f3_.symm; clear f1_ f2_ f3_; subst f4_; subst f5_))
       refine hK.out _ _ ⟨(blk_cell BK765.out 0).trans rfl, (blk_cell BK765.out 1).trans rfl, (blk_cell BK765.out 2).trans rfl, (blk_cell BK765.out 3).trans rfl, (blk_cell BK765.out 4).trans rfl⟩ (fun hHeld => ?_)
       clear hK K
       refine norm_ (a' := ?_) ?_ ?_
       rotate_left
       ·show Act.put _ (some 53) _ = _
        simp only [Act.put, List.setIfInBounds_toArray, List.set_cons_zero, List.set_cons_succ, i64_w, i32_w]
        rfl
       refine one_ (i := 6) (N := some 54) #[true, true, true, true, true, true, true, false, false, false, false, false] rfl rfl (one_of HT_.out (by kernel_rfl)) (by decide) (fun K hK => ?_)
       refine goes_ Try.func56 (by kernel_rfl) rfl #[.int .i64 a0, .slice Ao46 y781.length co46] (by rfl) rfl rfl (by (try simp only [List.map_toArray, List.map_cons, List.map_nil]); first | done | rfl | (simp only [List.length_drop, List.length_take]; rfl)) ?_
       with_reducible refine (puzzles_Hangings.calls kj3 a0 _ _ y781 t784 t785 _ ?side1 ?side2 A29.out).mono ?_
       (case side1 => repeat (first | exact (Kd.R_reads' HO783.out).2.2 | (with_reducible refine Kd.C_alloc ?_ _) | (with_reducible refine Kd.C_drewN ?_ _) | (with_reducible refine Kd.C_drew ?_)))
       (case side2 => exact (Kd.R_reads' HO783.out).2.1)
       rintro e w47 ⟨rfl, hb⟩
       refine ⟨_, rfl, ?_⟩
       have n0_ := Aside0.mk (Kd.R_below (by (with_reducible repeat (first | apply Kd.R_alloc | apply Kd.R_drewN | apply Kd.R_drew)); exact HO780.out) hb)
       have n1_ := Aside0.mk (Kd.R_below (by (with_reducible repeat (first | apply Kd.R_alloc | apply Kd.R_drewN | apply Kd.R_drew)); exact HO783.out) hb)
       have n2_ := Aside0.mk (blk_below (g := gb765) (o := .cells #[.int .i64 a2_0, .int .i64 a2_1, .int .i64 a2_2, .int .i64 a2_3, .bool a2_4] 76 (0, 0)) (by (with_reducible repeat (first | refine blk_drewN ?_ _ | refine blk_drew ?_ | refine blk_alloc ?_ _)); exact BK765.out) hb)
       have n3_ := Aside0.mk (blk_below (g := gb772) (o := .cells #[.int .i64 a2_0, .int .i64 a2_1, .int .i64 a2_2, .int .i64 a2_3, .bool (!a2_4)] 76 (0, 0)) (by (with_reducible repeat (first | refine blk_drewN ?_ _ | refine blk_drew ?_ | refine blk_alloc ?_ _)); exact BK772.out) hb)
       have n4_ := Aside0.mk (below_step (by repeat (first | (with_reducible first | exact HB.out | apply below_alloc | apply pw_below_drewN | apply below_drew1 | refine below_set ?_ GE765.out | refine below_set ?_ GE772.out) | exact HB.out)) hb)
       clear HO780
       clear HO783
       clear BK765
       clear BK772
       clear HB
       have HO780 := n0_
       have HO783 := n1_
       have BK765 := n2_
       have BK772 := n3_
       have HB := n4_
       clear n0_ n1_ n2_ n3_ n4_
       (try clear hb)
       (try clear hb2)
       (try clear hk)
       (try clear hi)
       refine hK.out _ _ ⟨(blk_cell BK765.out 0).trans rfl, (blk_cell BK765.out 1).trans rfl, (blk_cell BK765.out 2).trans rfl, (blk_cell BK765.out 3).trans rfl, (blk_cell BK765.out 4).trans rfl⟩ (fun hHeld => ?_)
       clear hK K
       refine norm_ (a' := ?_) ?_ ?_
       rotate_left
       ·show Act.put _ (some 54) _ = _
        simp only [Act.put, List.setIfInBounds_toArray, List.set_cons_zero, List.set_cons_succ, i64_w, i32_w]
        rfl
       refine pure_ (i := 7) (N := some 47) (v := ?_) (a' := ?_) #[true, true, true, true, true, true, true, true, false, false, false, false] rfl rfl (any_of HT_.out (by kernel_rfl)) (fun _ _ _ h => h) (Or.inl ⟨by rfl, ?_⟩) ?_ ?_
       rotate_left
       ·intro w'
        go_simp
        with_reducible rfl
       rotate_left
       ·simp only [Act.put, List.setIfInBounds_toArray, List.set_cons_zero, List.set_cons_succ, i64_w, i32_w]
        rfl
       refine pure_ (i := 8) (N := some 55) (v := ?_) (a' := ?_) #[true, true, true, true, true, true, true, true, true, false, false, false] rfl rfl (any_of HT_.out (by kernel_rfl)) (fun _ _ _ h => h) (Or.inl ⟨by rfl, ?_⟩) ?_ ?_
       rotate_left
       ·intro w'
        go_simp
        with_reducible rfl
       rotate_left
       ·simp only [Act.put, List.setIfInBounds_toArray, List.set_cons_zero, List.set_cons_succ, i64_w, i32_w]
        rfl
       refine pure_ (i := 9) (N := some 56) (v := ?_) (a' := ?_) #[true, true, true, true, true, true, true, true, true, true, false, false] rfl rfl (any_of HT_.out (by kernel_rfl)) (fun _ _ _ h => h) (Or.inl ⟨by rfl, ?_⟩) ?_ ?_
       rotate_left
       ·intro w'
        go_simp
        with_reducible rfl
       rotate_left
       ·simp only [Act.put, List.setIfInBounds_toArray, List.set_cons_zero, List.set_cons_succ, i64_w, i32_w]
        rfl
       refine pure_ (i := 10) (N := some 10) (v := ?_) (a' := ?_) #[true, true, true, true, true, true, true, true, true, true, true, false] rfl rfl (any_of HT_.out (by kernel_rfl)) (fun _ _ _ h => h) (Or.inl ⟨by rfl, ?_⟩) ?_ ?_
       rotate_left
       ·intro w'
        go_simp
        with_reducible rfl
       rotate_left
       ·simp only [Act.put, List.setIfInBounds_toArray, List.set_cons_zero, List.set_cons_succ, i64_w, i32_w]
        rfl
       refine pure_ (i := 11) (N := some 11) (v := ?_) (a' := ?_) #[true, true, true, true, true, true, true, true, true, true, true, true] rfl rfl (any_of HT_.out (by kernel_rfl)) (fun _ _ _ h => h) (Or.inl ⟨by rfl, ?_⟩) ?_ ?_
       rotate_left
       ·intro w'
        go_simp
        with_reducible rfl
       rotate_left
       ·simp only [Act.put, List.setIfInBounds_toArray, List.set_cons_zero, List.set_cons_succ, i64_w, i32_w]
        rfl
       refine done_ (done_of HT_.out (by kernel_rfl)) ?_
       try go_wp2
       have n0_ := Aside0.mk (Kd.R_drew HO780.out)
       have n1_ := Aside0.mk (Kd.R_drew HO783.out)
       have n2_ := Aside0.mk (blk_drew BK765.out)
       have n3_ := Aside0.mk (blk_drew BK772.out)
       have n4_ := Aside0.mk (below_drew1 HB.out)
       clear HO780
       clear HO783
       clear BK765
       clear BK772
       clear HB
       have HO780 := n0_
       have HO783 := n1_
       have BK765 := n2_
       have BK772 := n3_
       have HB := n4_
       clear n0_ n1_ n2_ n3_ n4_
       refine start_ (n := 12) (S := fun w' => w'.cell? ⟨gb772, 0, none⟩ = some (.int .i64 a2_0) ∧ w'.cell? ⟨gb772, 1, none⟩ = some (.int .i64 a2_1) ∧ w'.cell? ⟨gb772, 2, none⟩ = some (.int .i64 a2_2) ∧ w'.cell? ⟨gb772, 3, none⟩ = some (.int .i64 a2_3) ∧ w'.cell? ⟨gb772, 4, none⟩ = some (.bool (!a2_4))) (ds := []) #[false, false, false, false, false, false, false, false, false, false, false, false] (by kernel_rfl) rfl rfl ⟨(blk_cell BK772.out 0).trans rfl, (blk_cell BK772.out 1).trans rfl, (blk_cell BK772.out 2).trans rfl, (blk_cell BK772.out 3).trans rfl, (blk_cell BK772.out 4).trans rfl⟩ (fun hHeld => ?_); refine with_tabW padlocklaw03_PuzzlesHung.tab7 padlocklaw03_PuzzlesHung.bits7 (fun HT_ HW_ => ?_)
       generalize w47.drew = w48 at HO780 HO783 BK765 BK772 HB hHeld ⊢
       refine pure_ (i := 0) (N := some 58) (v := ?_) (a' := ?_) #[true, false, false, false, false, false, false, false, false, false, false, false] rfl rfl (any_of HT_.out (by kernel_rfl)) (fun _ _ _ h => h) (Or.inl ⟨by rfl, ?_⟩) ?_ ?_
       rotate_left
       ·intro w'
        go_simp
        with_reducible rfl
       rotate_left
       ·simp only [Act.put, List.setIfInBounds_toArray, List.set_cons_zero, List.set_cons_succ, i64_w, i32_w]
        rfl
       refine pure_ (i := 1) (N := some 59) (v := ?_) (a' := ?_) #[true, true, false, false, false, false, false, false, false, false, false, false] rfl rfl (any_of HT_.out (by kernel_rfl)) (fun _ _ _ h => h) (Or.inl ⟨by rfl, ?_⟩) ?_ ?_
       rotate_left
       ·intro w'
        go_simp
        with_reducible rfl
       rotate_left
       ·simp only [Act.put, List.setIfInBounds_toArray, List.set_cons_zero, List.set_cons_succ, i64_w, i32_w]
        rfl
       refine take_ (i := 3) (N := some 61) (v := ?_) (a' := ?_) #[true, true, false, true, false, false, false, false, false, false, false, false] rfl rfl (take_ofW HT_.out HW_.out (by kernel_rfl)) (fun _ _ _ h => h) (Or.inl ⟨by rfl, ?_⟩) hHeld ?_ ?_
       rotate_left
       ·rintro w' ⟨s0, s1, s2, s3, s4⟩
        go_simp
        with_reducible rfl
       rotate_left
       ·simp only [Act.put, List.setIfInBounds_toArray, List.set_cons_zero, List.set_cons_succ, i64_w, i32_w]
        rfl
       refine join_ (σ := Value × Value) 7 #[true, true, true, true, true, false, false, false, false, false, false, false] (fun s_ => [(60, s_.1), (62, s_.2)]) (fun s_ w' => (w'.cell? ⟨gb772, 0, none⟩ = some (.int .i64 a2_0) ∧ w'.cell? ⟨gb772, 1, none⟩ = some (.int .i64 a2_1) ∧ w'.cell? ⟨gb772, 2, none⟩ = some (.int .i64 a2_2) ∧ w'.cell? ⟨gb772, 3, none⟩ = some (.int .i64 a2_3) ∧ w'.cell? ⟨gb772, 4, none⟩ = some (.bool (!a2_4))) ∧ (Kd.R k76 76 w' w.heap.size (fun k_ => some k_ ≠ (.slice Ao46 y781.length co46 : Value).ownBlock ∧ some k_ ≠ (s_.1 : Value).ownBlock ∧ some k_ ≠ (s_.2 : Value).ownBlock ∧ k_ ≠ gb765 ∧ k_ ≠ gb772) (.slice Ao45 y778.length co45) y778) ∧ (Kd.R k76 76 w' w.heap.size (fun k_ => some k_ ≠ (.slice Ao45 y778.length co45 : Value).ownBlock ∧ some k_ ≠ (s_.1 : Value).ownBlock ∧ some k_ ≠ (s_.2 : Value).ownBlock ∧ k_ ≠ gb765 ∧ k_ ≠ gb772) (.slice Ao46 y781.length co46) y781) ∧ (Kd.R k76 76 w' w.heap.size (fun k_ => some k_ ≠ (.slice Ao45 y778.length co45 : Value).ownBlock ∧ some k_ ≠ (.slice Ao46 y781.length co46 : Value).ownBlock ∧ some k_ ≠ (s_.2 : Value).ownBlock ∧ k_ ≠ gb765 ∧ k_ ≠ gb772) s_.1 y786) ∧ (Kd.R k76 76 w' w.heap.size (fun k_ => some k_ ≠ (.slice Ao45 y778.length co45 : Value).ownBlock ∧ some k_ ≠ (.slice Ao46 y781.length co46 : Value).ownBlock ∧ some k_ ≠ (s_.1 : Value).ownBlock ∧ k_ ≠ gb765 ∧ k_ ≠ gb772) s_.2 y789) ∧ (w'.heap[gb765]? = some (.cells #[.int .i64 a2_0, .int .i64 a2_1, .int .i64 a2_2, .int .i64 a2_3, .bool a2_4] 76 (0, 0))) ∧ (w'.heap[gb772]? = some (.cells #[.int .i64 a2_0, .int .i64 a2_1, .int .i64 a2_2, .int .i64 a2_3, .bool (!a2_4)] 76 (0, 0))) ∧ (Below w.heap.size w w')) ?_ ?_
       rotate_left
       ·intro hCont
        refine two_ (i := 2) (j := 4) (Ni := some 60) (Nj := some 62) #[true, true, true, true, false, false, false, false, false, false, false, false] #[true, true, false, true, true, false, false, false, false, false, false, false] rfl rfl rfl rfl (two_of HT_.out (by kernel_rfl)) (by decide) (by decide) (fun K hK => ?_) (fun K hK => ?_)
        ·skip
         refine Kd.R_append_rows_step k76 (w0 := w) w.heap.size (by rfl) (.const (.slice none 0 0)) (.tmp 59) 69 76 (.agg #[(.int .i64 0), (.int .i64 0), (.int .i64 0), (.int .i64 0), (.bool false)]) 40 rfl Try.underlying69 info76 rfl (by decide) (by omega) (.slice none 0 0) ([] : List (S76)) l1 _ _ _ (fun k_ => some k_ ≠ (.slice Ao45 y778.length co45 : Value).ownBlock ∧ some k_ ≠ (.slice Ao46 y781.length co46 : Value).ownBlock ∧ k_ ≠ gb765 ∧ k_ ≠ gb772) (fun _ => False) rfl rfl ?aO ?aR (fun _ _ h => h) (fun _ h => h.elim) ?aF ?aB ?aS ?aL ?_
         (case aR => repeat (first | exact (Kd.C_below HR1.out HB.out) | (with_reducible refine Kd.C_alloc ?_ _) | (with_reducible refine Kd.C_drewN ?_ _) | (with_reducible refine Kd.C_drew ?_)))
         (case aB => exact (by repeat (first | (with_reducible first | exact HB.out | apply below_alloc | apply pw_below_drewN | apply below_drew1 | refine below_set ?_ GE765.out | refine below_set ?_ GE772.out) | exact HB.out)))
         (case aF => exact (fun k_ hk => ⟨Kd.fresh' (Kd.R_lt (by (with_reducible repeat (first | apply Kd.R_alloc | apply Kd.R_drewN | apply Kd.R_drew)); exact HO780.out)) k_ hk, Kd.fresh' (Kd.R_lt (by (with_reducible repeat (first | apply Kd.R_alloc | apply Kd.R_drewN | apply Kd.R_drew)); exact HO783.out)) k_ hk, Kd.freshB (g := gb765) (o := .cells #[.int .i64 a2_0, .int .i64 a2_1, .int .i64 a2_2, .int .i64 a2_3, .bool a2_4] 76 (0, 0)) (by (with_reducible repeat (first | refine blk_drewN ?_ _ | refine blk_drew ?_ | refine blk_alloc ?_ _)); exact BK765.out) k_ hk, Kd.freshB (g := gb772) (o := .cells #[.int .i64 a2_0, .int .i64 a2_1, .int .i64 a2_2, .int .i64 a2_3, .bool (!a2_4)] 76 (0, 0)) (by (with_reducible repeat (first | refine blk_drewN ?_ _ | refine blk_drew ?_ | refine blk_alloc ?_ _)); exact BK772.out) k_ hk⟩))
         (case aO => exact ((Kd.R_nil _ _ _ _ (fun k_ => some k_ ≠ (.slice Ao45 y778.length co45 : Value).ownBlock ∧ some k_ ≠ (.slice Ao46 y781.length co46 : Value).ownBlock ∧ k_ ≠ gb765 ∧ k_ ≠ gb772))))
         (case aS => exact (below_size (by repeat (first | (with_reducible first | exact HB.out | apply below_alloc | apply pw_below_drewN | apply below_drew1 | refine below_set ?_ GE765.out | refine below_set ?_ GE772.out) | exact HB.out))))
         (case aL => have := LMc27.out; omega)
         intro v787 w49 ho hb hg hat
         rw [← Ny786.out] at ho
         have n0_ := Aside0.mk (blk_grown (g := gb765) (o := .cells #[.int .i64 a2_0, .int .i64 a2_1, .int .i64 a2_2, .int .i64 a2_3, .bool a2_4] 76 (0, 0)) (by (with_reducible repeat (first | refine blk_drewN ?_ _ | refine blk_drew ?_ | refine blk_alloc ?_ _)); exact BK765.out) hg (by simp [Value.ownBlock]))
         have n1_ := Aside0.mk (blk_grown (g := gb772) (o := .cells #[.int .i64 a2_0, .int .i64 a2_1, .int .i64 a2_2, .int .i64 a2_3, .bool (!a2_4)] 76 (0, 0)) (by (with_reducible repeat (first | refine blk_drewN ?_ _ | refine blk_drew ?_ | refine blk_alloc ?_ _)); exact BK772.out) hg (by simp [Value.ownBlock]))
         have n2_ := Aside0.mk (Kd.R_after (Kd.R_apart_nil (by (with_reducible repeat (first | apply Kd.R_alloc | apply Kd.R_drewN | apply Kd.R_drew)); exact HO780.out)) hg hat)
         have n3_ := Aside0.mk (Kd.R_after (Kd.R_apart_nil (by (with_reducible repeat (first | apply Kd.R_alloc | apply Kd.R_drewN | apply Kd.R_drew)); exact HO783.out)) hg hat)
         have n4_ := Aside0.mk (hb)
         have n5_ := Aside0.mk (ho)
         clear BK765
         clear BK772
         clear HO780
         clear HO783
         clear HB
         have BK765 := n0_
         have BK772 := n1_
         have HO780 := n2_
         have HO783 := n3_
         have HB := n4_
         have HO788 := n5_
         clear n0_ n1_ n2_ n3_ n4_ n5_
         clear ho hb hg hat
         refine hK.out _ _ ⟨(blk_cell BK772.out 0).trans rfl, (blk_cell BK772.out 1).trans rfl, (blk_cell BK772.out 2).trans rfl, (blk_cell BK772.out 3).trans rfl, (blk_cell BK772.out 4).trans rfl⟩ (fun hHeld => ?_)
         clear hK K
         refine norm_ (a' := ?_) ?_ ?_
         rotate_left
         ·show Act.put _ (some 60) _ = _
          simp only [Act.put, List.setIfInBounds_toArray, List.set_cons_zero, List.set_cons_succ, i64_w, i32_w]
          rfl
         refine one_ (i := 4) (N := some 62) #[true, true, true, true, true, false, false, false, false, false, false, false] rfl rfl (one_of HT_.out (by kernel_rfl)) (by decide) (fun K hK => ?_)
         refine Kd.R_lit_step k76 _ 76 ?hg (N := 62) ?hd (xs := ([(⟨a2_0, a2_1, a2_2, a2_3, !a2_4⟩ : S76)] : List (S76))) (inner := [.int .i64 a2_0, .int .i64 a2_1, .int .i64 a2_2, .int .i64 a2_3, .bool (!a2_4)]) (ok := fun _ => True) (okp := fun _ => True) ?hr ?hp (fun _ hk => hk) trivial (Below.refl _ _) (Nat.le_refl _) (by simp) ?_; (case hd => rfl); (case hg => rfl); (case hr => first | (go_simp; done) | (go_simp; rfl)); (case hp => exact (Reps.c5 (show Kd.M k76 _ _ _ (⟨a2_0, a2_1, a2_2, a2_3, !a2_4⟩ : S76) [.int .i64 a2_0, .int .i64 a2_1, .int .i64 a2_2, .int .i64 a2_3, .bool (!a2_4)] from (k76_mkM _ _ _ (⟨a2_0, a2_1, a2_2, a2_3, !a2_4⟩ : S76) )) (Reps.none _ _)))
         intro v790 w50 ho51 hb hg_ hnew_
         clear hg_ hnew_
         (first | rw [← Ny789.out] at ho51 | (simp only [Int.reduceToNat] at ho51; rw [← Ny789.out] at ho51))
         have n0_ := Aside0.mk (Kd.R_elder' (by (with_reducible repeat (first | apply Kd.R_alloc | apply Kd.R_drewN | apply Kd.R_drew)); exact HO780.out) (Kd.R_base ho51) hb)
         have n1_ := Aside0.mk (Kd.R_elder' (by (with_reducible repeat (first | apply Kd.R_alloc | apply Kd.R_drewN | apply Kd.R_drew)); exact HO783.out) (Kd.R_base ho51) hb)
         have n2_ := Aside0.mk (Kd.R_elder' (by (with_reducible repeat (first | apply Kd.R_alloc | apply Kd.R_drewN | apply Kd.R_drew)); exact HO788.out) (Kd.R_base ho51) hb)
         have n3_ := Aside0.mk (Kd.R_lower (Kd.R_newB (Kd.R_newB (Kd.R_new' (Kd.R_new' (Kd.R_new' ho51 (Kd.R_lt (by (with_reducible repeat (first | apply Kd.R_alloc | apply Kd.R_drewN | apply Kd.R_drew)); exact HO780.out))) (Kd.R_lt (by (with_reducible repeat (first | apply Kd.R_alloc | apply Kd.R_drewN | apply Kd.R_drew)); exact HO783.out))) (Kd.R_lt (by (with_reducible repeat (first | apply Kd.R_alloc | apply Kd.R_drewN | apply Kd.R_drew)); exact HO788.out))) (g := gb765) (o := .cells #[.int .i64 a2_0, .int .i64 a2_1, .int .i64 a2_2, .int .i64 a2_3, .bool a2_4] 76 (0, 0)) (by (with_reducible repeat (first | refine blk_drewN ?_ _ | refine blk_drew ?_ | refine blk_alloc ?_ _)); exact BK765.out)) (g := gb772) (o := .cells #[.int .i64 a2_0, .int .i64 a2_1, .int .i64 a2_2, .int .i64 a2_3, .bool (!a2_4)] 76 (0, 0)) (by (with_reducible repeat (first | refine blk_drewN ?_ _ | refine blk_drew ?_ | refine blk_alloc ?_ _)); exact BK772.out)) (below_size (by repeat (first | (with_reducible first | exact HB.out | apply below_alloc | apply pw_below_drewN | apply below_drew1 | refine below_set ?_ GE765.out | refine below_set ?_ GE772.out) | exact HB.out))))
         have n4_ := Aside0.mk (blk_below (g := gb765) (o := .cells #[.int .i64 a2_0, .int .i64 a2_1, .int .i64 a2_2, .int .i64 a2_3, .bool a2_4] 76 (0, 0)) (by (with_reducible repeat (first | refine blk_drewN ?_ _ | refine blk_drew ?_ | refine blk_alloc ?_ _)); exact BK765.out) hb)
         have n5_ := Aside0.mk (blk_below (g := gb772) (o := .cells #[.int .i64 a2_0, .int .i64 a2_1, .int .i64 a2_2, .int .i64 a2_3, .bool (!a2_4)] 76 (0, 0)) (by (with_reducible repeat (first | refine blk_drewN ?_ _ | refine blk_drew ?_ | refine blk_alloc ?_ _)); exact BK772.out) hb)
         have n6_ := Aside0.mk (below_step (by repeat (first | (with_reducible first | exact HB.out | apply below_alloc | apply pw_below_drewN | apply below_drew1 | refine below_set ?_ GE765.out | refine below_set ?_ GE772.out) | exact HB.out)) hb)
         clear HO780
         clear HO783
         clear HO788
         clear BK765
         clear BK772
         clear HB
         have HO780 := n0_
         have HO783 := n1_
         have HO788 := n2_
         have HO791 := n3_
         have BK765 := n4_
         have BK772 := n5_
         have HB := n6_
         clear n0_ n1_ n2_ n3_ n4_ n5_ n6_
         clear hb ho51
         refine hK.out _ _ ⟨(blk_cell BK772.out 0).trans rfl, (blk_cell BK772.out 1).trans rfl, (blk_cell BK772.out 2).trans rfl, (blk_cell BK772.out 3).trans rfl, (blk_cell BK772.out 4).trans rfl⟩ (fun hHeld => ?_)
         clear hK K
         refine norm_ (a' := ?_) ?_ ?_
         rotate_left
         ·show Act.put _ (some 62) _ = _
          simp only [Act.put, List.setIfInBounds_toArray, List.set_cons_zero, List.set_cons_succ, i64_w, i32_w]
          rfl
         exact norm_ (by simp only [putAll, Act.put, List.setIfInBounds_toArray, List.set_cons_zero, List.set_cons_succ]) (hCont (v787, v790) _ ⟨hHeld, (by (with_reducible repeat (first | apply Kd.R_alloc | apply Kd.R_drewN | apply Kd.R_drew)); exact Kd.R_mono HO780.out (fun _ hk => ⟨hk.1.1.2, ⟨hk.1.2, ⟨hk.2, ⟨hk.1.1.1.1, hk.1.1.1.2⟩⟩⟩⟩)), (by (with_reducible repeat (first | apply Kd.R_alloc | apply Kd.R_drewN | apply Kd.R_drew)); exact Kd.R_mono HO783.out (fun _ hk => ⟨hk.1.1.1, ⟨hk.1.2, ⟨hk.2, ⟨hk.1.1.2.1, hk.1.1.2.2⟩⟩⟩⟩)), (by (with_reducible repeat (first | apply Kd.R_alloc | apply Kd.R_drewN | apply Kd.R_drew)); exact Kd.R_mono HO788.out (fun _ hk => ⟨hk.1.1, ⟨hk.1.2.1, ⟨hk.2, ⟨hk.1.2.2.1, hk.1.2.2.2⟩⟩⟩⟩)), (by (with_reducible repeat (first | apply Kd.R_alloc | apply Kd.R_drewN | apply Kd.R_drew)); exact Kd.R_mono HO791.out (fun _ hk => ⟨hk.1.1.1.1.2, ⟨hk.1.1.1.2, ⟨hk.1.1.2, ⟨hk.1.2, hk.2⟩⟩⟩⟩)), (by (with_reducible repeat (first | refine blk_drewN ?_ _ | refine blk_drew ?_ | refine blk_alloc ?_ _)); exact BK765.out), (by (with_reducible repeat (first | refine blk_drewN ?_ _ | refine blk_drew ?_ | refine blk_alloc ?_ _)); exact BK772.out), (by repeat (first | (with_reducible first | exact HB.out | apply below_alloc | apply pw_below_drewN | apply below_drew1 | refine below_set ?_ GE765.out | refine below_set ?_ GE772.out) | exact HB.out))⟩)
        ·skip
         refine Kd.R_lit_step k76 _ 76 ?hg (N := 62) ?hd (xs := ([(⟨a2_0, a2_1, a2_2, a2_3, !a2_4⟩ : S76)] : List (S76))) (inner := [.int .i64 a2_0, .int .i64 a2_1, .int .i64 a2_2, .int .i64 a2_3, .bool (!a2_4)]) (ok := fun _ => True) (okp := fun _ => True) ?hr ?hp (fun _ hk => hk) trivial (Below.refl _ _) (Nat.le_refl _) (by simp) ?_; (case hd => rfl); (case hg => rfl); (case hr => first | (go_simp; done) | (go_simp; rfl)); (case hp => exact (Reps.c5 (show Kd.M k76 _ _ _ (⟨a2_0, a2_1, a2_2, a2_3, !a2_4⟩ : S76) [.int .i64 a2_0, .int .i64 a2_1, .int .i64 a2_2, .int .i64 a2_3, .bool (!a2_4)] from (k76_mkM _ _ _ (⟨a2_0, a2_1, a2_2, a2_3, !a2_4⟩ : S76) )) (Reps.none _ _)))
         intro v790 w49 ho50 hb hg_ hnew_
         clear hg_ hnew_
         (first | rw [← Ny789.out] at ho50 | (simp only [Int.reduceToNat] at ho50; rw [← Ny789.out] at ho50))
         have n0_ := Aside0.mk (Kd.R_elder' (by (with_reducible repeat (first | apply Kd.R_alloc | apply Kd.R_drewN | apply Kd.R_drew)); exact HO780.out) (Kd.R_base ho50) hb)
         have n1_ := Aside0.mk (Kd.R_elder' (by (with_reducible repeat (first | apply Kd.R_alloc | apply Kd.R_drewN | apply Kd.R_drew)); exact HO783.out) (Kd.R_base ho50) hb)
         have n2_ := Aside0.mk (Kd.R_lower (Kd.R_newB (Kd.R_newB (Kd.R_new' (Kd.R_new' ho50 (Kd.R_lt (by (with_reducible repeat (first | apply Kd.R_alloc | apply Kd.R_drewN | apply Kd.R_drew)); exact HO780.out))) (Kd.R_lt (by (with_reducible repeat (first | apply Kd.R_alloc | apply Kd.R_drewN | apply Kd.R_drew)); exact HO783.out))) (g := gb765) (o := .cells #[.int .i64 a2_0, .int .i64 a2_1, .int .i64 a2_2, .int .i64 a2_3, .bool a2_4] 76 (0, 0)) (by (with_reducible repeat (first | refine blk_drewN ?_ _ | refine blk_drew ?_ | refine blk_alloc ?_ _)); exact BK765.out)) (g := gb772) (o := .cells #[.int .i64 a2_0, .int .i64 a2_1, .int .i64 a2_2, .int .i64 a2_3, .bool (!a2_4)] 76 (0, 0)) (by (with_reducible repeat (first | refine blk_drewN ?_ _ | refine blk_drew ?_ | refine blk_alloc ?_ _)); exact BK772.out)) (below_size (by repeat (first | (with_reducible first | exact HB.out | apply below_alloc | apply pw_below_drewN | apply below_drew1 | refine below_set ?_ GE765.out | refine below_set ?_ GE772.out) | exact HB.out))))
         have n3_ := Aside0.mk (blk_below (g := gb765) (o := .cells #[.int .i64 a2_0, .int .i64 a2_1, .int .i64 a2_2, .int .i64 a2_3, .bool a2_4] 76 (0, 0)) (by (with_reducible repeat (first | refine blk_drewN ?_ _ | refine blk_drew ?_ | refine blk_alloc ?_ _)); exact BK765.out) hb)
         have n4_ := Aside0.mk (blk_below (g := gb772) (o := .cells #[.int .i64 a2_0, .int .i64 a2_1, .int .i64 a2_2, .int .i64 a2_3, .bool (!a2_4)] 76 (0, 0)) (by (with_reducible repeat (first | refine blk_drewN ?_ _ | refine blk_drew ?_ | refine blk_alloc ?_ _)); exact BK772.out) hb)
         have n5_ := Aside0.mk (below_step (by repeat (first | (with_reducible first | exact HB.out | apply below_alloc | apply pw_below_drewN | apply below_drew1 | refine below_set ?_ GE765.out | refine below_set ?_ GE772.out) | exact HB.out)) hb)
         clear HO780
         clear HO783
         clear BK765
         clear BK772
         clear HB
         have HO780 := n0_
         have HO783 := n1_
         have HO791 := n2_
         have BK765 := n3_
         have BK772 := n4_
         have HB := n5_
         clear n0_ n1_ n2_ n3_ n4_ n5_
         clear hb ho50
         refine hK.out _ _ ⟨(blk_cell BK772.out 0).trans rfl, (blk_cell BK772.out 1).trans rfl, (blk_cell BK772.out 2).trans rfl, (blk_cell BK772.out 3).trans rfl, (blk_cell BK772.out 4).trans rfl⟩ (fun hHeld => ?_)
         clear hK K
         refine norm_ (a' := ?_) ?_ ?_
         rotate_left
         ·show Act.put _ (some 62) _ = _
          simp only [Act.put, List.setIfInBounds_toArray, List.set_cons_zero, List.set_cons_succ, i64_w, i32_w]
          rfl
         refine one_ (i := 2) (N := some 60) #[true, true, true, true, true, false, false, false, false, false, false, false] rfl rfl (one_of HT_.out (by kernel_rfl)) (by decide) (fun K hK => ?_)
         refine Kd.R_append_rows_step k76 (w0 := w) w.heap.size (by rfl) (.const (.slice none 0 0)) (.tmp 59) 69 76 (.agg #[(.int .i64 0), (.int .i64 0), (.int .i64 0), (.int .i64 0), (.bool false)]) 40 rfl Try.underlying69 info76 rfl (by decide) (by omega) (.slice none 0 0) ([] : List (S76)) l1 _ _ _ (fun k_ => some k_ ≠ (.slice Ao45 y778.length co45 : Value).ownBlock ∧ some k_ ≠ (.slice Ao46 y781.length co46 : Value).ownBlock ∧ some k_ ≠ (v790 : Value).ownBlock ∧ k_ ≠ gb765 ∧ k_ ≠ gb772) (fun _ => False) rfl rfl ?aO ?aR (fun _ _ h => h) (fun _ h => h.elim) ?aF ?aB ?aS ?aL ?_
         (case aR => repeat (first | exact (Kd.C_below HR1.out HB.out) | (with_reducible refine Kd.C_alloc ?_ _) | (with_reducible refine Kd.C_drewN ?_ _) | (with_reducible refine Kd.C_drew ?_)))
         (case aB => exact (by repeat (first | (with_reducible first | exact HB.out | apply below_alloc | apply pw_below_drewN | apply below_drew1 | refine below_set ?_ GE765.out | refine below_set ?_ GE772.out) | exact HB.out)))
         (case aF => exact (fun k_ hk => ⟨Kd.fresh' (Kd.R_lt (by (with_reducible repeat (first | apply Kd.R_alloc | apply Kd.R_drewN | apply Kd.R_drew)); exact HO780.out)) k_ hk, Kd.fresh' (Kd.R_lt (by (with_reducible repeat (first | apply Kd.R_alloc | apply Kd.R_drewN | apply Kd.R_drew)); exact HO783.out)) k_ hk, Kd.fresh' (Kd.R_lt (by (with_reducible repeat (first | apply Kd.R_alloc | apply Kd.R_drewN | apply Kd.R_drew)); exact HO791.out)) k_ hk, Kd.freshB (g := gb765) (o := .cells #[.int .i64 a2_0, .int .i64 a2_1, .int .i64 a2_2, .int .i64 a2_3, .bool a2_4] 76 (0, 0)) (by (with_reducible repeat (first | refine blk_drewN ?_ _ | refine blk_drew ?_ | refine blk_alloc ?_ _)); exact BK765.out) k_ hk, Kd.freshB (g := gb772) (o := .cells #[.int .i64 a2_0, .int .i64 a2_1, .int .i64 a2_2, .int .i64 a2_3, .bool (!a2_4)] 76 (0, 0)) (by (with_reducible repeat (first | refine blk_drewN ?_ _ | refine blk_drew ?_ | refine blk_alloc ?_ _)); exact BK772.out) k_ hk⟩))
         (case aO => exact ((Kd.R_nil _ _ _ _ (fun k_ => some k_ ≠ (.slice Ao45 y778.length co45 : Value).ownBlock ∧ some k_ ≠ (.slice Ao46 y781.length co46 : Value).ownBlock ∧ some k_ ≠ (v790 : Value).ownBlock ∧ k_ ≠ gb765 ∧ k_ ≠ gb772))))
         (case aS => exact (below_size (by repeat (first | (with_reducible first | exact HB.out | apply below_alloc | apply pw_below_drewN | apply below_drew1 | refine below_set ?_ GE765.out | refine below_set ?_ GE772.out) | exact HB.out))))
         (case aL => have := LMc27.out; omega)
         intro v787 w51 ho hb hg hat
         rw [← Ny786.out] at ho
         have n0_ := Aside0.mk (blk_grown (g := gb765) (o := .cells #[.int .i64 a2_0, .int .i64 a2_1, .int .i64 a2_2, .int .i64 a2_3, .bool a2_4] 76 (0, 0)) (by (with_reducible repeat (first | refine blk_drewN ?_ _ | refine blk_drew ?_ | refine blk_alloc ?_ _)); exact BK765.out) hg (by simp [Value.ownBlock]))
         have n1_ := Aside0.mk (blk_grown (g := gb772) (o := .cells #[.int .i64 a2_0, .int .i64 a2_1, .int .i64 a2_2, .int .i64 a2_3, .bool (!a2_4)] 76 (0, 0)) (by (with_reducible repeat (first | refine blk_drewN ?_ _ | refine blk_drew ?_ | refine blk_alloc ?_ _)); exact BK772.out) hg (by simp [Value.ownBlock]))
         have n2_ := Aside0.mk (Kd.R_after (Kd.R_apart_nil (by (with_reducible repeat (first | apply Kd.R_alloc | apply Kd.R_drewN | apply Kd.R_drew)); exact HO780.out)) hg hat)
         have n3_ := Aside0.mk (Kd.R_after (Kd.R_apart_nil (by (with_reducible repeat (first | apply Kd.R_alloc | apply Kd.R_drewN | apply Kd.R_drew)); exact HO783.out)) hg hat)
         have n4_ := Aside0.mk (Kd.R_after (Kd.R_apart_nil (by (with_reducible repeat (first | apply Kd.R_alloc | apply Kd.R_drewN | apply Kd.R_drew)); exact HO791.out)) hg hat)
         have n5_ := Aside0.mk (hb)
         have n6_ := Aside0.mk (ho)
         clear BK765
         clear BK772
         clear HO780
         clear HO783
         clear HO791
         clear HB
         have BK765 := n0_
         have BK772 := n1_
         have HO780 := n2_
         have HO783 := n3_
         have HO791 := n4_
         have HB := n5_
         have HO788 := n6_
         clear n0_ n1_ n2_ n3_ n4_ n5_ n6_
         clear ho hb hg hat
         refine hK.out _ _ ⟨(blk_cell BK772.out 0).trans rfl, (blk_cell BK772.out 1).trans rfl, (blk_cell BK772.out 2).trans rfl, (blk_cell BK772.out 3).trans rfl, (blk_cell BK772.out 4).trans rfl⟩ (fun hHeld => ?_)
         clear hK K
         refine norm_ (a' := ?_) ?_ ?_
         rotate_left
         ·show Act.put _ (some 60) _ = _
          simp only [Act.put, List.setIfInBounds_toArray, List.set_cons_zero, List.set_cons_succ, i64_w, i32_w]
          rfl
         exact norm_ (by simp only [putAll, Act.put, List.setIfInBounds_toArray, List.set_cons_zero, List.set_cons_succ]) (hCont (v787, v790) _ ⟨hHeld, (by (with_reducible repeat (first | apply Kd.R_alloc | apply Kd.R_drewN | apply Kd.R_drew)); exact Kd.R_mono HO780.out (fun _ hk => ⟨hk.1.1.2, ⟨hk.2, ⟨hk.1.2, ⟨hk.1.1.1.1, hk.1.1.1.2⟩⟩⟩⟩)), (by (with_reducible repeat (first | apply Kd.R_alloc | apply Kd.R_drewN | apply Kd.R_drew)); exact Kd.R_mono HO783.out (fun _ hk => ⟨hk.1.1.1, ⟨hk.2, ⟨hk.1.2, ⟨hk.1.1.2.1, hk.1.1.2.2⟩⟩⟩⟩)), (by (with_reducible repeat (first | apply Kd.R_alloc | apply Kd.R_drewN | apply Kd.R_drew)); exact HO788.out), (by (with_reducible repeat (first | apply Kd.R_alloc | apply Kd.R_drewN | apply Kd.R_drew)); exact Kd.R_mono HO791.out (fun _ hk => ⟨hk.1.1.1.1.2, ⟨hk.1.1.1.2, ⟨hk.2, ⟨hk.1.1.2, hk.1.2⟩⟩⟩⟩)), (by (with_reducible repeat (first | refine blk_drewN ?_ _ | refine blk_drew ?_ | refine blk_alloc ?_ _)); exact BK765.out), (by (with_reducible repeat (first | refine blk_drewN ?_ _ | refine blk_drew ?_ | refine blk_alloc ?_ _)); exact BK772.out), (by repeat (first | (with_reducible first | exact HB.out | apply below_alloc | apply pw_below_drewN | apply below_drew1 | refine below_set ?_ GE765.out | refine below_set ?_ GE772.out) | exact HB.out))⟩)
       rintro ⟨v787, v790⟩ w52 ⟨hS_, h0_, h1_, h2_, h3_, h4_, h5_, h6_⟩
       have n0_ : Aside0 (Kd.R k76 76 w52 w.heap.size (fun k_ => some k_ ≠ (.slice Ao46 y781.length co46 : Value).ownBlock ∧ some k_ ≠ (v787 : Value).ownBlock ∧ some k_ ≠ (v790 : Value).ownBlock ∧ k_ ≠ gb765 ∧ k_ ≠ gb772) (.slice Ao45 y778.length co45) y778) := ⟨h0_⟩
       have n1_ : Aside0 (Kd.R k76 76 w52 w.heap.size (fun k_ => some k_ ≠ (.slice Ao45 y778.length co45 : Value).ownBlock ∧ some k_ ≠ (v787 : Value).ownBlock ∧ some k_ ≠ (v790 : Value).ownBlock ∧ k_ ≠ gb765 ∧ k_ ≠ gb772) (.slice Ao46 y781.length co46) y781) := ⟨h1_⟩
       have n2_ : Aside0 (Kd.R k76 76 w52 w.heap.size (fun k_ => some k_ ≠ (.slice Ao45 y778.length co45 : Value).ownBlock ∧ some k_ ≠ (.slice Ao46 y781.length co46 : Value).ownBlock ∧ some k_ ≠ (v790 : Value).ownBlock ∧ k_ ≠ gb765 ∧ k_ ≠ gb772) v787 y786) := ⟨h2_⟩
       have n3_ : Aside0 (Kd.R k76 76 w52 w.heap.size (fun k_ => some k_ ≠ (.slice Ao45 y778.length co45 : Value).ownBlock ∧ some k_ ≠ (.slice Ao46 y781.length co46 : Value).ownBlock ∧ some k_ ≠ (v787 : Value).ownBlock ∧ k_ ≠ gb765 ∧ k_ ≠ gb772) v790 y789) := ⟨h3_⟩
       have n4_ : Aside0 (w52.heap[gb765]? = some (.cells #[.int .i64 a2_0, .int .i64 a2_1, .int .i64 a2_2, .int .i64 a2_3, .bool a2_4] 76 (0, 0))) := ⟨h4_⟩
       have n5_ : Aside0 (w52.heap[gb772]? = some (.cells #[.int .i64 a2_0, .int .i64 a2_1, .int .i64 a2_2, .int .i64 a2_3, .bool (!a2_4)] 76 (0, 0))) := ⟨h5_⟩
       have n6_ : Aside0 (Below w.heap.size w w52) := ⟨h6_⟩
       clear HO780
       clear HO783
       clear BK765
       clear BK772
       clear HB
       clear h0_ h1_ h2_ h3_ h4_ h5_ h6_
       have HO780 := n0_
       have HO783 := n1_
       have HO788 := n2_
       have HO791 := n3_
       have BK765 := n4_
       have BK772 := n5_
       have HB := n6_
       clear n0_ n1_ n2_ n3_ n4_ n5_ n6_
       have hHeld : w52.cell? ⟨gb772, 0, none⟩ = some (.int .i64 a2_0) ∧ w52.cell? ⟨gb772, 1, none⟩ = some (.int .i64 a2_1) ∧ w52.cell? ⟨gb772, 2, none⟩ = some (.int .i64 a2_2) ∧ w52.cell? ⟨gb772, 3, none⟩ = some (.int .i64 a2_3) ∧ w52.cell? ⟨gb772, 4, none⟩ = some (.bool (!a2_4)) := hS_
       obtain ⟨Ao54, co54, eo54⟩ := Kd.R_slice HO791.out
       (first | subst eo54 | (injection eo54 with f1_ f2_ f3_; have f4_ := f1_.symm; have f5_ := f3_.symm; clear f1_ f2_ f3_; subst f4_; subst f5_))
       refine norm_ (a' := ?_) ?_ ?_
       rotate_left
       ·simp only [putAll, Act.put, List.setIfInBounds_toArray, List.set_cons_zero, List.set_cons_succ]
        rfl
       refine one_ (i := 5) (N := some 63) #[true, true, true, true, true, true, false, false, false, false, false, false] rfl rfl (one_of HT_.out (by kernel_rfl)) (by decide) (fun K hK => ?_)
       refine Kd.R_append_rows_step k76 (w0 := w) w.heap.size (by rfl) (.tmp 60) (.tmp 62) 69 76 (.agg #[(.int .i64 0), (.int .i64 0), (.int .i64 0), (.int .i64 0), (.bool false)]) 40 rfl Try.underlying69 info76 rfl (by decide) (by omega) v787 y786 y789 _ _ _ (fun k_ => some k_ ≠ (.slice Ao45 y778.length co45 : Value).ownBlock ∧ some k_ ≠ (.slice Ao46 y781.length co46 : Value).ownBlock ∧ some k_ ≠ (.slice Ao54 y789.length co54 : Value).ownBlock ∧ k_ ≠ gb765 ∧ k_ ≠ gb772) (fun _ => False) rfl rfl ?aO ?aR (fun _ _ h => h) (fun _ h => h.elim) ?aF ?aB ?aS ?aL ?_
       (case aR => repeat (first | exact (Kd.R_reads' HO791.out).2.2 | (with_reducible refine Kd.C_alloc ?_ _) | (with_reducible refine Kd.C_drewN ?_ _) | (with_reducible refine Kd.C_drew ?_)))
       (case aB => exact (by repeat (first | (with_reducible first | exact HB.out | apply below_alloc | apply pw_below_drewN | apply below_drew1 | refine below_set ?_ GE765.out | refine below_set ?_ GE772.out) | exact HB.out)))
       (case aF => exact (fun k_ hk => ⟨Kd.fresh' (Kd.R_lt (by (with_reducible repeat (first | apply Kd.R_alloc | apply Kd.R_drewN | apply Kd.R_drew)); exact HO780.out)) k_ hk, Kd.fresh' (Kd.R_lt (by (with_reducible repeat (first | apply Kd.R_alloc | apply Kd.R_drewN | apply Kd.R_drew)); exact HO783.out)) k_ hk, Kd.fresh' (Kd.R_lt (by (with_reducible repeat (first | apply Kd.R_alloc | apply Kd.R_drewN | apply Kd.R_drew)); exact HO791.out)) k_ hk, Kd.freshB (g := gb765) (o := .cells #[.int .i64 a2_0, .int .i64 a2_1, .int .i64 a2_2, .int .i64 a2_3, .bool a2_4] 76 (0, 0)) (by (with_reducible repeat (first | refine blk_drewN ?_ _ | refine blk_drew ?_ | refine blk_alloc ?_ _)); exact BK765.out) k_ hk, Kd.freshB (g := gb772) (o := .cells #[.int .i64 a2_0, .int .i64 a2_1, .int .i64 a2_2, .int .i64 a2_3, .bool (!a2_4)] 76 (0, 0)) (by (with_reducible repeat (first | refine blk_drewN ?_ _ | refine blk_drew ?_ | refine blk_alloc ?_ _)); exact BK772.out) k_ hk⟩))
       (case aO => exact (by (with_reducible repeat (first | apply Kd.R_alloc | apply Kd.R_drewN | apply Kd.R_drew)); exact HO788.out))
       (case aS => exact (below_size (by repeat (first | (with_reducible first | exact HB.out | apply below_alloc | apply pw_below_drewN | apply below_drew1 | refine below_set ?_ GE765.out | refine below_set ?_ GE772.out) | exact HB.out))))
       (case aL => have := LMc30.out; omega)
       intro v793 w53 ho hb hg hat
       rw [← Ny792.out] at ho
       have n0_ := Aside0.mk (blk_grown (g := gb765) (o := .cells #[.int .i64 a2_0, .int .i64 a2_1, .int .i64 a2_2, .int .i64 a2_3, .bool a2_4] 76 (0, 0)) (by (with_reducible repeat (first | refine blk_drewN ?_ _ | refine blk_drew ?_ | refine blk_alloc ?_ _)); exact BK765.out) hg (Kd.R_away HO788.out (fun _ hk => hk.2.2.2.1)))
       have n1_ := Aside0.mk (blk_grown (g := gb772) (o := .cells #[.int .i64 a2_0, .int .i64 a2_1, .int .i64 a2_2, .int .i64 a2_3, .bool (!a2_4)] 76 (0, 0)) (by (with_reducible repeat (first | refine blk_drewN ?_ _ | refine blk_drew ?_ | refine blk_alloc ?_ _)); exact BK772.out) hg (Kd.R_away HO788.out (fun _ hk => hk.2.2.2.2)))
       have n2_ := Aside0.mk (Kd.R_after (ok := (fun k_ => some k_ ≠ (.slice Ao46 y781.length co46 : Value).ownBlock ∧ some k_ ≠ (.slice Ao54 y789.length co54 : Value).ownBlock ∧ k_ ≠ gb765 ∧ k_ ≠ gb772)) (by (with_reducible repeat (first | apply Kd.R_alloc | apply Kd.R_drewN | apply Kd.R_drew)); exact Kd.R_mono HO780.out (fun _ hk => ⟨⟨hk.1, ⟨hk.2.2.1, ⟨hk.2.2.2.1, hk.2.2.2.2⟩⟩⟩, hk.2.1⟩)) hg hat)
       have n3_ := Aside0.mk (Kd.R_after (ok := (fun k_ => some k_ ≠ (.slice Ao45 y778.length co45 : Value).ownBlock ∧ some k_ ≠ (.slice Ao54 y789.length co54 : Value).ownBlock ∧ k_ ≠ gb765 ∧ k_ ≠ gb772)) (by (with_reducible repeat (first | apply Kd.R_alloc | apply Kd.R_drewN | apply Kd.R_drew)); exact Kd.R_mono HO783.out (fun _ hk => ⟨⟨hk.1, ⟨hk.2.2.1, ⟨hk.2.2.2.1, hk.2.2.2.2⟩⟩⟩, hk.2.1⟩)) hg hat)
       have n4_ := Aside0.mk (Kd.R_after (ok := (fun k_ => some k_ ≠ (.slice Ao45 y778.length co45 : Value).ownBlock ∧ some k_ ≠ (.slice Ao46 y781.length co46 : Value).ownBlock ∧ k_ ≠ gb765 ∧ k_ ≠ gb772)) (by (with_reducible repeat (first | apply Kd.R_alloc | apply Kd.R_drewN | apply Kd.R_drew)); exact Kd.R_mono HO791.out (fun _ hk => ⟨⟨hk.1, ⟨hk.2.1, ⟨hk.2.2.2.1, hk.2.2.2.2⟩⟩⟩, hk.2.2.1⟩)) hg hat)
       have n5_ := Aside0.mk (hb)
       have n6_ := Aside0.mk (ho)
       clear BK765
       clear BK772
       clear HO780
       clear HO783
       clear HO791
       clear HB
       clear HO788
       have BK765 := n0_
       have BK772 := n1_
       have HO780 := n2_
       have HO783 := n3_
       have HO791 := n4_
       have HB := n5_
       have HO794 := n6_
       clear n0_ n1_ n2_ n3_ n4_ n5_ n6_
       clear ho hb hg hat
       obtain ⟨Ao55, co55, eo55⟩ := Kd.R_slice HO794.out
       (first | subst eo55 | (injection eo55 with f1_ f2_ f3_; have f4_ := f1_.symm; have f5_ := f3_.symm; clear f1_ f2_ f3_; subst f4_; subst f5_))
       refine hK.out _ _ ⟨(blk_cell BK772.out 0).trans rfl, (blk_cell BK772.out 1).trans rfl, (blk_cell BK772.out 2).trans rfl, (blk_cell BK772.out 3).trans rfl, (blk_cell BK772.out 4).trans rfl⟩ (fun hHeld => ?_)
       clear hK K
       refine norm_ (a' := ?_) ?_ ?_
       rotate_left
       ·show Act.put _ (some 63) _ = _
        simp only [Act.put, List.setIfInBounds_toArray, List.set_cons_zero, List.set_cons_succ, i64_w, i32_w]
        rfl
       refine one_ (i := 6) (N := some 64) #[true, true, true, true, true, true, true, false, false, false, false, false] rfl rfl (one_of HT_.out (by kernel_rfl)) (by decide) (fun K hK => ?_)
       refine goes_ Try.func56 (by kernel_rfl) rfl #[.int .i64 a0, .slice Ao55 y792.length co55] (by rfl) rfl rfl (by (try simp only [List.map_toArray, List.map_cons, List.map_nil]); first | done | rfl | (simp only [List.length_drop, List.length_take]; rfl)) ?_
       with_reducible refine (puzzles_Hangings.calls kj3 a0 _ _ y792 t795 t796 _ ?side1 ?side2 A31.out).mono ?_
       (case side1 => repeat (first | exact (Kd.R_reads' HO794.out).2.2 | (with_reducible refine Kd.C_alloc ?_ _) | (with_reducible refine Kd.C_drewN ?_ _) | (with_reducible refine Kd.C_drew ?_)))
       (case side2 => exact (Kd.R_reads' HO794.out).2.1)
       rintro e w56 ⟨rfl, hb⟩
       refine ⟨_, rfl, ?_⟩
       have n0_ := Aside0.mk (Kd.R_below (by (with_reducible repeat (first | apply Kd.R_alloc | apply Kd.R_drewN | apply Kd.R_drew)); exact HO780.out) hb)
       have n1_ := Aside0.mk (Kd.R_below (by (with_reducible repeat (first | apply Kd.R_alloc | apply Kd.R_drewN | apply Kd.R_drew)); exact HO783.out) hb)
       have n2_ := Aside0.mk (Kd.R_below (by (with_reducible repeat (first | apply Kd.R_alloc | apply Kd.R_drewN | apply Kd.R_drew)); exact HO791.out) hb)
       have n3_ := Aside0.mk (Kd.R_below (by (with_reducible repeat (first | apply Kd.R_alloc | apply Kd.R_drewN | apply Kd.R_drew)); exact HO794.out) hb)
       have n4_ := Aside0.mk (blk_below (g := gb765) (o := .cells #[.int .i64 a2_0, .int .i64 a2_1, .int .i64 a2_2, .int .i64 a2_3, .bool a2_4] 76 (0, 0)) (by (with_reducible repeat (first | refine blk_drewN ?_ _ | refine blk_drew ?_ | refine blk_alloc ?_ _)); exact BK765.out) hb)
       have n5_ := Aside0.mk (blk_below (g := gb772) (o := .cells #[.int .i64 a2_0, .int .i64 a2_1, .int .i64 a2_2, .int .i64 a2_3, .bool (!a2_4)] 76 (0, 0)) (by (with_reducible repeat (first | refine blk_drewN ?_ _ | refine blk_drew ?_ | refine blk_alloc ?_ _)); exact BK772.out) hb)
       have n6_ := Aside0.mk (below_step (by repeat (first | (with_reducible first | exact HB.out | apply below_alloc | apply pw_below_drewN | apply below_drew1 | refine below_set ?_ GE765.out | refine below_set ?_ GE772.out) | exact HB.out)) hb)
       clear HO780
       clear HO783
       clear HO791
       clear HO794
       clear BK765
       clear BK772
       clear HB
       have HO780 := n0_
       have HO783 := n1_
       have HO791 := n2_
       have HO794 := n3_
       have BK765 := n4_
       have BK772 := n5_
       have HB := n6_
       clear n0_ n1_ n2_ n3_ n4_ n5_ n6_
       (try clear hb)
       (try clear hb2)
       (try clear hk)
       (try clear hi)
       refine hK.out _ _ ⟨(blk_cell BK772.out 0).trans rfl, (blk_cell BK772.out 1).trans rfl, (blk_cell BK772.out 2).trans rfl, (blk_cell BK772.out 3).trans rfl, (blk_cell BK772.out 4).trans rfl⟩ (fun hHeld => ?_)
       clear hK K
       refine norm_ (a' := ?_) ?_ ?_
       rotate_left
       ·show Act.put _ (some 64) _ = _
        simp only [Act.put, List.setIfInBounds_toArray, List.set_cons_zero, List.set_cons_succ, i64_w, i32_w]
        rfl
       refine pure_ (i := 7) (N := some 57) (v := ?_) (a' := ?_) #[true, true, true, true, true, true, true, true, false, false, false, false] rfl rfl (any_of HT_.out (by kernel_rfl)) (fun _ _ _ h => h) (Or.inl ⟨by rfl, ?_⟩) ?_ ?_
       rotate_left
       ·intro w'
        go_simp
        with_reducible rfl
       rotate_left
       ·simp only [Act.put, List.setIfInBounds_toArray, List.set_cons_zero, List.set_cons_succ, i64_w, i32_w]
        rfl
       refine pure_ (i := 8) (N := some 65) (v := ?_) (a' := ?_) #[true, true, true, true, true, true, true, true, true, false, false, false] rfl rfl (any_of HT_.out (by kernel_rfl)) (fun _ _ _ h => h) (Or.inl ⟨by rfl, ?_⟩) ?_ ?_
       rotate_left
       ·intro w'
        go_simp
        with_reducible rfl
       rotate_left
       ·simp only [Act.put, List.setIfInBounds_toArray, List.set_cons_zero, List.set_cons_succ, i64_w, i32_w]
        rfl
       refine pure_ (i := 9) (N := some 66) (v := ?_) (a' := ?_) #[true, true, true, true, true, true, true, true, true, true, false, false] rfl rfl (any_of HT_.out (by kernel_rfl)) (fun _ _ _ h => h) (Or.inl ⟨by rfl, ?_⟩) ?_ ?_
       rotate_left
       ·intro w'
        go_simp
        with_reducible rfl
       rotate_left
       ·simp only [Act.put, List.setIfInBounds_toArray, List.set_cons_zero, List.set_cons_succ, i64_w, i32_w]
        rfl
       refine pure_ (i := 10) (N := some 12) (v := ?_) (a' := ?_) #[true, true, true, true, true, true, true, true, true, true, true, false] rfl rfl (any_of HT_.out (by kernel_rfl)) (fun _ _ _ h => h) (Or.inl ⟨by rfl, ?_⟩) ?_ ?_
       rotate_left
       ·intro w'
        go_simp
        with_reducible rfl
       rotate_left
       ·simp only [Act.put, List.setIfInBounds_toArray, List.set_cons_zero, List.set_cons_succ, i64_w, i32_w]
        rfl
       refine pure_ (i := 11) (N := some 13) (v := ?_) (a' := ?_) #[true, true, true, true, true, true, true, true, true, true, true, true] rfl rfl (any_of HT_.out (by kernel_rfl)) (fun _ _ _ h => h) (Or.inl ⟨by rfl, ?_⟩) ?_ ?_
       rotate_left
       ·intro w'
        go_simp
        with_reducible rfl
       rotate_left
       ·simp only [Act.put, List.setIfInBounds_toArray, List.set_cons_zero, List.set_cons_succ, i64_w, i32_w]
        rfl
       refine done_ (done_of HT_.out (by kernel_rfl)) ?_
       go_upto_region 9 with (first | ((with_reducible refine gate_callee (f := 54) rfl ?_); refine goesL_ (some 70) rfl rfl Try.func54 (by kernel_rfl) rfl #[.int .i64 a0, .slice A1 l1.length c1, .int .i64 64] rfl (by (try simp only [List.map_toArray, List.map_cons, List.map_nil]); first | done | rfl | (simp only [List.length_drop, List.length_take]; rfl)) ?_; (with_reducible refine (puzzles_Hang.calls kj3 a0 _ _ l1 64 t797 t798 _ ?side1 ?side2 A32.out).mono ?_); (case side1 => repeat (first | exact (Kd.C_below HR1.out HB.out) | (with_reducible refine Kd.C_alloc ?_ _) | (with_reducible refine Kd.C_drewN ?_ _) | (with_reducible refine Kd.C_drew ?_))); (case side2 => exact HC1.out); rintro e w57 ⟨v799, rfl, ho0, hb⟩; refine ⟨_, rfl, ?_⟩; have n0_ := Aside0.mk (Kd.R_below (by (with_reducible repeat (first | apply Kd.R_alloc | apply Kd.R_drewN | apply Kd.R_drew)); exact HO780.out) hb); have n1_ := Aside0.mk (Kd.R_below (by (with_reducible repeat (first | apply Kd.R_alloc | apply Kd.R_drewN | apply Kd.R_drew)); exact HO783.out) hb); have n2_ := Aside0.mk (Kd.R_below (by (with_reducible repeat (first | apply Kd.R_alloc | apply Kd.R_drewN | apply Kd.R_drew)); exact HO791.out) hb); have n3_ := Aside0.mk (Kd.R_below (by (with_reducible repeat (first | apply Kd.R_alloc | apply Kd.R_drewN | apply Kd.R_drew)); exact HO794.out) hb); have n4_ := Aside0.mk (Kd.S_lower ho0 (below_size (by repeat (first | (with_reducible first | exact HB.out | apply below_alloc | apply pw_below_drewN | apply below_drew1 | refine below_set ?_ GE765.out | refine below_set ?_ GE772.out) | exact HB.out)))); have n5_ := Aside0.mk (blk_below (g := gb765) (o := .cells #[.int .i64 a2_0, .int .i64 a2_1, .int .i64 a2_2, .int .i64 a2_3, .bool a2_4] 76 (0, 0)) (by (with_reducible repeat (first | refine blk_drewN ?_ _ | refine blk_drew ?_ | refine blk_alloc ?_ _)); exact BK765.out) hb); have n6_ := Aside0.mk (blk_below (g := gb772) (o := .cells #[.int .i64 a2_0, .int .i64 a2_1, .int .i64 a2_2, .int .i64 a2_3, .bool (!a2_4)] 76 (0, 0)) (by (with_reducible repeat (first | refine blk_drewN ?_ _ | refine blk_drew ?_ | refine blk_alloc ?_ _)); exact BK772.out) hb); have n7_ := Aside0.mk (below_step (by repeat (first | (with_reducible first | exact HB.out | apply below_alloc | apply pw_below_drewN | apply below_drew1 | refine below_set ?_ GE765.out | refine below_set ?_ GE772.out) | exact HB.out)) hb); clear HO780; clear HO783; clear HO791; clear HO794; clear BK765; clear BK772; clear HB; have HO780 := n0_; have HO783 := n1_; have HO791 := n2_; have HO794 := n3_; have HO800 := n4_; have BK765 := n5_; have BK772 := n6_; have HB := n7_; clear n0_ n1_ n2_ n3_ n4_ n5_ n6_ n7_; (try clear hb); (try clear hb2); (try clear hk); (try clear hi); (try clear ho0)))
       (try simp only [Act.put, List.setIfInBounds_toArray, List.set_cons_zero, List.set_cons_succ])
       go_cut [100] (fun v100 wc => ∃ (kq : Nat) (x100_32 : Bool), v100 = .bool x100_32 ∧ Aside0 (padlocklaw03_PuzzlesHung.j1 kq a0 l1 t797 x100_32 = some r) ∧ Aside0 (kq ≤ kj3) ∧ Aside0 (Kd.S (Kd.slice 3 (Kd.int .i64)) 22 wc w.heap.size (fun _ => True) v799 t797) ∧ Aside0 (wc.heap[gb765]? = some (.cells #[.int .i64 a2_0, .int .i64 a2_1, .int .i64 a2_2, .int .i64 a2_3, .bool a2_4] 76 (0, 0))) ∧ Aside0 (wc.heap[gb772]? = some (.cells #[.int .i64 a2_0, .int .i64 a2_1, .int .i64 a2_2, .int .i64 a2_3, .bool (!a2_4)] 76 (0, 0))) ∧ Aside0 (Below w.heap.size w wc))
       case first =>
        have H := HC33.out
        clear HC33
        by_cases c58 : t774 = 0
        ·rw [if_pos c58] at H
         have c58b0 : (t774 == 0) = true := beq_iff_eq.mpr c58
         have c58b1 : (t774 != 0) = false := bne_eq_false_iff_eq.mpr c58
         clear c58
         (first | rw [c58b0] | (simp only [i64_w, i32_w]; rw [c58b0]) | skip)
         by_cases c59 : t785 = 0
         ·rw [if_pos c59] at H
          have c59b0 : (t785 == 0) = true := beq_iff_eq.mpr c59
          have c59b1 : (t785 != 0) = false := bne_eq_false_iff_eq.mpr c59
          clear c59
          by_cases c60 : t796 = 0
          ·rw [if_pos c60] at H
           have c60b0 : (t796 == 0) = true := beq_iff_eq.mpr c60
           have c60b1 : (t796 != 0) = false := bne_eq_false_iff_eq.mpr c60
           clear c60
           by_cases c61 : t798 = 0
           ·rw [if_pos c61] at H
            have c61b0 : (t798 == 0) = true := beq_iff_eq.mpr c61
            have c61b1 : (t798 != 0) = false := bne_eq_false_iff_eq.mpr c61
            clear c61
            by_cases c62 : (wrap64 (t784 + t795)) = t773
            ·rw [if_pos c62] at H
             have c62b0 : ((wrap64 (t784 + t795)) == t773) = true := beq_iff_eq.mpr c62
             have c62b1 : ((wrap64 (t784 + t795)) != t773) = false := bne_eq_false_iff_eq.mpr c62
             clear c62
             obtain ⟨ji63, hji63⟩ : ∃ j_ : Int, (mn t773 64) = j_ := ⟨_, rfl⟩
             replace H : (padlocklaw03_PuzzlesHung.j1 kj3 a0 l1 t797 ((t797.length : Int) != (ji63))) = some r := by first | (rw [hji63] at H; exact H) | (simp only [hji63] at H ⊢; exact H)
             (try (have hji63h : ji63 ≤ 64 := by (rw [← hji63]; unfold mn; (repeat' split) <;> omega)))
             (try (have hji63g : ji63 ≤ 64 := by omega))
             have hji63_ : (if 64 < t773 then 64 else t773) = ji63 := hji63
             (try have hji63_n := hji63_)
             (try simp only [Int.ofNat_lt] at hji63_n)
             have H' := Aside0.mk H
             clear H
             obtain ⟨Ao64, co64, eo64⟩ := Kd.S_slice HO800.out
             subst eo64
             go_wp2
             go_meet
             case rel => exact ⟨_, (((t797.length : Int) != (ji63))), (by first | rfl | (simp; done) | (simp only [← hji63] <;> (first | rfl | simp)) | (simp [*]; done)), H', ⟨by have := HJ3.out; first | omega | exact Nat.le_refl _⟩, ⟨by (with_reducible repeat (first | apply Kd.S_alloc | apply Kd.S_drewN | apply Kd.S_drew)); exact HO800.out⟩, ⟨by (with_reducible repeat (first | refine blk_drewN ?_ _ | refine blk_drew ?_ | refine blk_alloc ?_ _)); exact BK765.out⟩, ⟨by (with_reducible repeat (first | refine blk_drewN ?_ _ | refine blk_drew ?_ | refine blk_alloc ?_ _)); exact BK772.out⟩, ⟨by repeat (first | (with_reducible first | exact HB.out | apply below_alloc | apply pw_below_drewN | apply below_drew1 | refine below_set ?_ GE765.out | refine below_set ?_ GE772.out) | exact HB.out)⟩⟩
            ·rw [if_neg c62] at H
             have c62b0 : ((wrap64 (t784 + t795)) == t773) = false := beq_eq_false_iff_ne.mpr c62
             have c62b1 : ((wrap64 (t784 + t795)) != t773) = true := bne_iff_ne.mpr c62
             have H' := Aside0.mk H
             clear H
             go_wp2
             go_meet
             case rel => exact ⟨_, (true), (by first | rfl | (simp; done) | (simp [*]; done)), H', ⟨by have := HJ3.out; first | omega | exact Nat.le_refl _⟩, ⟨by (with_reducible repeat (first | apply Kd.S_alloc | apply Kd.S_drewN | apply Kd.S_drew)); exact HO800.out⟩, ⟨by (with_reducible repeat (first | refine blk_drewN ?_ _ | refine blk_drew ?_ | refine blk_alloc ?_ _)); exact BK765.out⟩, ⟨by (with_reducible repeat (first | refine blk_drewN ?_ _ | refine blk_drew ?_ | refine blk_alloc ?_ _)); exact BK772.out⟩, ⟨by repeat (first | (with_reducible first | exact HB.out | apply below_alloc | apply pw_below_drewN | apply below_drew1 | refine below_set ?_ GE765.out | refine below_set ?_ GE772.out) | exact HB.out)⟩⟩
           ·rw [if_neg c61] at H
            have c61b0 : (t798 == 0) = false := beq_eq_false_iff_ne.mpr c61
            have c61b1 : (t798 != 0) = true := bne_iff_ne.mpr c61
            have H' := Aside0.mk H
            clear H
            go_wp2
            go_meet
            case rel => exact ⟨_, (true), (by first | rfl | (simp; done) | (simp [*]; done)), H', ⟨by have := HJ3.out; first | omega | exact Nat.le_refl _⟩, ⟨by (with_reducible repeat (first | apply Kd.S_alloc | apply Kd.S_drewN | apply Kd.S_drew)); exact HO800.out⟩, ⟨by (with_reducible repeat (first | refine blk_drewN ?_ _ | refine blk_drew ?_ | refine blk_alloc ?_ _)); exact BK765.out⟩, ⟨by (with_reducible repeat (first | refine blk_drewN ?_ _ | refine blk_drew ?_ | refine blk_alloc ?_ _)); exact BK772.out⟩, ⟨by repeat (first | (with_reducible first | exact HB.out | apply below_alloc | apply pw_below_drewN | apply below_drew1 | refine below_set ?_ GE765.out | refine below_set ?_ GE772.out) | exact HB.out)⟩⟩
          ·rw [if_neg c60] at H
           have c60b0 : (t796 == 0) = false := beq_eq_false_iff_ne.mpr c60
           have c60b1 : (t796 != 0) = true := bne_iff_ne.mpr c60
           have H' := Aside0.mk H
           clear H
           go_wp2
           go_meet
           case rel => exact ⟨_, (true), (by first | rfl | (simp; done) | (simp [*]; done)), H', ⟨by have := HJ3.out; first | omega | exact Nat.le_refl _⟩, ⟨by (with_reducible repeat (first | apply Kd.S_alloc | apply Kd.S_drewN | apply Kd.S_drew)); exact HO800.out⟩, ⟨by (with_reducible repeat (first | refine blk_drewN ?_ _ | refine blk_drew ?_ | refine blk_alloc ?_ _)); exact BK765.out⟩, ⟨by (with_reducible repeat (first | refine blk_drewN ?_ _ | refine blk_drew ?_ | refine blk_alloc ?_ _)); exact BK772.out⟩, ⟨by repeat (first | (with_reducible first | exact HB.out | apply below_alloc | apply pw_below_drewN | apply below_drew1 | refine below_set ?_ GE765.out | refine below_set ?_ GE772.out) | exact HB.out)⟩⟩
         ·rw [if_neg c59] at H
          have c59b0 : (t785 == 0) = false := beq_eq_false_iff_ne.mpr c59
          have c59b1 : (t785 != 0) = true := bne_iff_ne.mpr c59
          have H' := Aside0.mk H
          clear H
          go_wp2
          go_meet
          case rel => exact ⟨_, (true), (by first | rfl | (simp; done) | (simp [*]; done)), H', ⟨by have := HJ3.out; first | omega | exact Nat.le_refl _⟩, ⟨by (with_reducible repeat (first | apply Kd.S_alloc | apply Kd.S_drewN | apply Kd.S_drew)); exact HO800.out⟩, ⟨by (with_reducible repeat (first | refine blk_drewN ?_ _ | refine blk_drew ?_ | refine blk_alloc ?_ _)); exact BK765.out⟩, ⟨by (with_reducible repeat (first | refine blk_drewN ?_ _ | refine blk_drew ?_ | refine blk_alloc ?_ _)); exact BK772.out⟩, ⟨by repeat (first | (with_reducible first | exact HB.out | apply below_alloc | apply pw_below_drewN | apply below_drew1 | refine below_set ?_ GE765.out | refine below_set ?_ GE772.out) | exact HB.out)⟩⟩
        ·rw [if_neg c58] at H
         have c58b0 : (t774 == 0) = false := beq_eq_false_iff_ne.mpr c58
         have c58b1 : (t774 != 0) = true := bne_iff_ne.mpr c58
         (first | rw [c58b0] | (simp only [i64_w, i32_w]; rw [c58b0]) | skip)
         have H' := Aside0.mk H
         clear H
         go_wp2
         go_meet
         case rel => exact ⟨_, (true), (by first | rfl | (simp; done) | (simp [*]; done)), H', ⟨by have := HJ3.out; first | omega | exact Nat.le_refl _⟩, ⟨by (with_reducible repeat (first | apply Kd.S_alloc | apply Kd.S_drewN | apply Kd.S_drew)); exact HO800.out⟩, ⟨by (with_reducible repeat (first | refine blk_drewN ?_ _ | refine blk_drew ?_ | refine blk_alloc ?_ _)); exact BK765.out⟩, ⟨by (with_reducible repeat (first | refine blk_drewN ?_ _ | refine blk_drew ?_ | refine blk_alloc ?_ _)); exact BK772.out⟩, ⟨by repeat (first | (with_reducible first | exact HB.out | apply below_alloc | apply pw_below_drewN | apply below_drew1 | refine below_set ?_ GE765.out | refine below_set ?_ GE772.out) | exact HB.out)⟩⟩
       case rest =>
        clear HC33
        try clear c1
        try clear c2
        try clear p2
        try clear c3
        try clear c5
        try clear c6
        try clear p6
        try clear c27
        try clear c28
        try clear c30
        try clear c54
        try clear c56
        try clear c58
        try clear c58b0
        try clear c58b1
        try clear c59
        try clear c59b0
        try clear c59b1
        try clear c60
        try clear c60b0
        try clear c60b1
        try clear c61
        try clear c61b0
        try clear c61b1
        try clear c62
        try clear c62b0
        try clear c62b1
        try clear p64
        obtain ⟨kq, x100_32, rfl, HA, HJ32, HO_14, BK765, BK772, HB⟩ := hcut
        cases kq with
        | zero => exact absurd HA.out (by simp [padlocklaw03_PuzzlesHung.j1])
        | succ kj32 =>
         have H := HA.out
         clear HA
         simp only [padlocklaw03_PuzzlesHung.j1] at H
         by_cases c65 : x100_32 = true
         ·subst c65
          have H1 : (some false) = some r := by rw [if_pos rfl] at H; exact H
          clear H
          have H := H1
          clear H1
          obtain rfl := Option.some.inj H
          go_wp2
          go_ret
          exact ⟨by first | rfl | (simp [errW_none, errW_some] <;> rfl) | (simp [*, errW_none, errW_some] <;> rfl), by repeat (first | (with_reducible first | exact HB.out | apply below_alloc | apply pw_below_drewN | apply below_drew1 | refine below_set ?_ GE765.out | refine below_set ?_ GE772.out) | exact HB.out)⟩
         ·replace c65 := Bool.eq_false_iff.mpr c65
          subst c65
          have H1 : (padlocklaw03_PuzzlesHung.l0 kj32 a0 l1 t797 0) = some r := by rw [if_neg (show ¬ (false = true) by decide)] at H; exact H
          clear H
          have H := H1
          clear H1
          have H' := Aside0.mk H
          clear H
          go_wp2
          go_loopg [16] kj32 (fun kq v16 w' => ∃ (x16_3 : Int), v16 = .int .i64 x16_3 ∧ Aside0 (padlocklaw03_PuzzlesHung.l0 kq a0 l1 t797 x16_3 = some r) ∧ Aside0 (kq ≤ kj32) ∧ Aside0 (Kd.S (Kd.slice 3 (Kd.int .i64)) 22 w' w.heap.size (fun _ => True) v799 t797) ∧ Aside0 (w'.heap[gb765]? = some (.cells #[.int .i64 a2_0, .int .i64 a2_1, .int .i64 a2_2, .int .i64 a2_3, .bool a2_4] 76 (0, 0))) ∧ Aside0 (w'.heap[gb772]? = some (.cells #[.int .i64 a2_0, .int .i64 a2_1, .int .i64 a2_2, .int .i64 a2_3, .bool (!a2_4)] 76 (0, 0))) ∧ Aside0 (Below w.heap.size w w'))
          case atStart => exact ⟨(0), (by first | rfl | (simp; done) | (simp [*]; done)), H', ⟨Nat.le_refl _⟩, ⟨by (with_reducible repeat (first | apply Kd.S_alloc | apply Kd.S_drewN | apply Kd.S_drew)); exact HO_14.out⟩, ⟨by (with_reducible repeat (first | refine blk_drewN ?_ _ | refine blk_drew ?_ | refine blk_alloc ?_ _)); exact BK765.out⟩, ⟨by (with_reducible repeat (first | refine blk_drewN ?_ _ | refine blk_drew ?_ | refine blk_alloc ?_ _)); exact BK772.out⟩, ⟨by repeat (first | (with_reducible first | exact HB.out | apply below_alloc | apply pw_below_drewN | apply below_drew1 | refine below_set ?_ GE765.out | refine below_set ?_ GE772.out) | exact HB.out)⟩⟩
          case round =>
           clear H'
           try clear c1
           try clear c2
           try clear p2
           try clear c3
           try clear c5
           try clear c6
           try clear p6
           try clear c27
           try clear c28
           try clear c30
           try clear c54
           try clear c56
           try clear c58
           try clear c58b0
           try clear c58b1
           try clear c59
           try clear c59b0
           try clear c59b1
           try clear c60
           try clear c60b0
           try clear c60b1
           try clear c61
           try clear c61b0
           try clear c61b1
           try clear c62
           try clear c62b0
           try clear c62b1
           try clear p64
           try clear c65
           try clear p2
           try clear p6
           try clear p64
           obtain ⟨x16_3, rfl, HA, HK3, HO_14, BK765, BK772, HB⟩ := hrel
           cases gk with
           | zero => exact absurd HA.out (by simp [padlocklaw03_PuzzlesHung.l0])
           | succ k3 =>
            have H := HA.out
            clear HA
            simp only [padlocklaw03_PuzzlesHung.l0] at H
            by_cases c66 : x16_3 < (t797.length : Int)
            ·rw [if_pos c66] at H
             have c66b0 : decide (x16_3 < (t797.length : Int)) = true := decide_eq_true c66
             clear c66
             have HC67 := Aside0.mk H
             clear H
             obtain ⟨Ao68, co68, eo68⟩ := Kd.S_slice HO_14.out
             subst eo68
             go_upto_region 14 with (fail)
             go_cut [130] (fun v130 wc => ∃ (kq : Nat) (x130_66 : Bool), v130 = .bool x130_66 ∧ Aside0 (padlocklaw03_PuzzlesHung.j3 kq a0 l1 t797 x16_3 x130_66 = some r) ∧ Aside0 (kq ≤ k3) ∧ Aside0 (Kd.S (Kd.slice 3 (Kd.int .i64)) 22 wc w.heap.size (fun _ => True) (.slice Ao68 t797.length co68) t797) ∧ Aside0 (wc.heap[gb765]? = some (.cells #[.int .i64 a2_0, .int .i64 a2_1, .int .i64 a2_2, .int .i64 a2_3, .bool a2_4] 76 (0, 0))) ∧ Aside0 (wc.heap[gb772]? = some (.cells #[.int .i64 a2_0, .int .i64 a2_1, .int .i64 a2_2, .int .i64 a2_3, .bool (!a2_4)] 76 (0, 0))) ∧ Aside0 (Below w.heap.size w wc))
             case first =>
              have H := HC67.out
              clear HC67
              by_cases c69 : 0 ≤ x16_3
              ·rw [if_pos c69] at H
               have c69b0 : decide (0 ≤ x16_3) = true := decide_eq_true c69
               clear c69
               (first | rw [c69b0] | (simp only [i64_w, i32_w]; rw [c69b0]) | skip)
               by_cases c70 : ((rd_L1 t797 x16_3).length : Int) = a0
               ·rw [if_pos c70] at H
                have c70b0 : (((rd_L1 t797 x16_3).length : Int) == a0) = true := beq_iff_eq.mpr c70
                have c70b1 : (((rd_L1 t797 x16_3).length : Int) != a0) = false := bne_eq_false_iff_eq.mpr c70
                clear c70
                by_cases c71 : x16_3 > 0
                ·rw [if_pos c71] at H
                 have c71b0 : decide (0 < x16_3) = true := decide_eq_true c71
                 clear c71
                 obtain ⟨ji72, hji72⟩ : ∃ j_ : Int, (wrap64 (x16_3 - 1)) = j_ := ⟨_, rfl⟩
                 replace H : (if 0 ≤ (ji72) then (if (ji72) < (t797.length : Int) then ((padlocklaw03_earlier.f k3 (rd_L1 t797 (ji72)) (rd_L1 t797 x16_3)).bind fun t805 => (padlocklaw03_PuzzlesHung.j3 k3 a0 l1 t797 x16_3 (!t805))) else (none)) else (none)) = some r := by first | (rw [hji72] at H; exact H) | (simp only [hji72] at H ⊢; exact H)
                 have hji72w : (IntKind.i64.wrap (x16_3 - 1)) = ji72 := (i64_w _).trans hji72
                 by_cases c73 : 0 ≤ (ji72)
                 ·rw [if_pos c73] at H
                  have c73b0 : decide (0 ≤ (ji72)) = true := decide_eq_true c73
                  clear c73
                  by_cases c74 : (ji72) < (t797.length : Int)
                  ·rw [if_pos c74] at H
                   have c74b0 : decide ((ji72) < (t797.length : Int)) = true := decide_eq_true c74
                   clear c74
                   replace H := Option.bind_eq_some_iff.mp H
                   obtain ⟨t805, A750, H⟩ := H
                   replace H : (padlocklaw03_PuzzlesHung.j3 k3 a0 l1 t797 x16_3 (!t805)) = some r := H
                   have A75 := Aside0.mk A750
                   clear A750
                   have H' := Aside0.mk H
                   clear H
                   try go_wp2
                   have n0_ := Aside0.mk (Kd.S_drew HO_14.out)
                   have n1_ := Aside0.mk (blk_drew BK765.out)
                   have n2_ := Aside0.mk (blk_drew BK772.out)
                   have n3_ := Aside0.mk (below_drew1 HB.out)
                   clear HO_14
                   clear BK765
                   clear BK772
                   clear HB
                   have HO_14 := n0_
                   have BK765 := n1_
                   have BK772 := n2_
                   have HB := n3_
                   clear n0_ n1_ n2_ n3_
                   have p802 : 0 ≤ (x16_3 : Int) := of_decide_eq_true (by first | (with_reducible assumption) | assumption)
                   have q802 : x16_3 < (t797.length : Int) := of_decide_eq_true (by first | (with_reducible assumption) | assumption)
                   obtain ⟨ad802, A802_0, c802_0, e802, hx802_0, hl802_0, hi802_0⟩ := at_L1 (Kd.S_reads' HO_14.out).2.2 x16_3 p802 q802
                   cases e802
                   obtain ⟨ce802, hce802, hMe802, hcc802⟩ := Kd.S_get HO_14.out [] x16_3 p802 (by first | exact q802 | exact of_decide_eq_true (by first | (with_reducible assumption) | assumption) | (have e_ := (Kd.S_reads' HO_14.out).1; omega))
                   obtain ⟨ve802_0, rfl, ge802_0⟩ := hMe802
                   have hv802_0 := hcc802 0 _ rfl
                   rw [Nat.add_zero, show ((Kd.slice 3 (Kd.int .i64))).sz = 1 from rfl, Nat.mul_one] at hv802_0
                   replace hv802_0 := Option.some.inj (hv802_0.symm.trans hx802_0)
                   rw [hv802_0] at ge802_0
                   have HL802_0 := Aside0.mk (show Kd.R (Kd.int .i64) 3 _ _ _ _ (rd_L1 t797 x16_3) from ge802_0)
                   clear hv802_0 ge802_0
                   clear hcc802 hce802
                   have HR802_0 := Aside0.mk hi802_0
                   have HC802_0 := Aside0.mk hl802_0
                   clear hi802_0 hl802_0
                   replace p802 := eq_true p802
                   replace q802 := eq_true q802
                   have p803 : 0 ≤ ((ji72) : Int) := of_decide_eq_true (by first | (with_reducible assumption) | assumption)
                   have q803 : (ji72) < (t797.length : Int) := of_decide_eq_true (by first | (with_reducible assumption) | assumption)
                   obtain ⟨ad803, A803_0, c803_0, e803, hx803_0, hl803_0, hi803_0⟩ := at_L1 (Kd.S_reads' HO_14.out).2.2 (ji72) p803 q803
                   obtain rfl : ad802 = ad803 := (by injection e803)
                   obtain ⟨ce803, hce803, hMe803, hcc803⟩ := Kd.S_get HO_14.out [] (ji72) p803 (by first | exact q803 | exact of_decide_eq_true (by first | (with_reducible assumption) | assumption) | (have e_ := (Kd.S_reads' HO_14.out).1; omega))
                   obtain ⟨ve803_0, rfl, ge803_0⟩ := hMe803
                   have hv803_0 := hcc803 0 _ rfl
                   rw [Nat.add_zero, show ((Kd.slice 3 (Kd.int .i64))).sz = 1 from rfl, Nat.mul_one] at hv803_0
                   replace hv803_0 := Option.some.inj (hv803_0.symm.trans hx803_0)
                   rw [hv803_0] at ge803_0
                   have HL803_0 := Aside0.mk (show Kd.R (Kd.int .i64) 3 _ _ _ _ (rd_L1 t797 (ji72)) from ge803_0)
                   clear hv803_0 ge803_0
                   clear hcc803 hce803
                   have HR803_0 := Aside0.mk hi803_0
                   have HC803_0 := Aside0.mk hl803_0
                   clear hi803_0 hl803_0
                   replace p803 := eq_true p803
                   replace q803 := eq_true q803
                   have p804 : 0 ≤ (x16_3 : Int) := of_decide_eq_true (by first | (with_reducible assumption) | assumption)
                   have q804 : x16_3 < (t797.length : Int) := of_decide_eq_true (by first | (with_reducible assumption) | assumption)
                   obtain ⟨ad804, A804_0, c804_0, e804, hx804_0, hl804_0, hi804_0⟩ := at_L1 (Kd.S_reads' HO_14.out).2.2 x16_3 p804 q804
                   obtain rfl : ad802 = ad804 := (by injection e804)
                   obtain ⟨ce804, hce804, hMe804, hcc804⟩ := Kd.S_get HO_14.out [] x16_3 p804 (by first | exact q804 | exact of_decide_eq_true (by first | (with_reducible assumption) | assumption) | (have e_ := (Kd.S_reads' HO_14.out).1; omega))
                   obtain ⟨ve804_0, rfl, ge804_0⟩ := hMe804
                   have hv804_0 := hcc804 0 _ rfl
                   rw [Nat.add_zero, show ((Kd.slice 3 (Kd.int .i64))).sz = 1 from rfl, Nat.mul_one] at hv804_0
                   replace hv804_0 := Option.some.inj (hv804_0.symm.trans hx804_0)
                   rw [hv804_0] at ge804_0
                   have HL804_0 := Aside0.mk (show Kd.R (Kd.int .i64) 3 _ _ _ _ (rd_L1 t797 x16_3) from ge804_0)
                   clear hv804_0 ge804_0
                   clear hcc804 hce804
                   have HR804_0 := Aside0.mk hi804_0
                   have HC804_0 := Aside0.mk hl804_0
                   clear hi804_0 hl804_0
                   replace p804 := eq_true p804
                   replace q804 := eq_true q804
                   have ea_ := Option.some.inj (hx802_0.symm.trans hx804_0)
                   injection ea_ with ea_ en_ ec_
                   subst ea_
                   subst ec_
                   clear en_
                   refine start_ (n := 24) (S := fun w' => w'.cell? (ad802.add (x16_3).toNat) = some (.slice A802_0 (rd_L1 t797 x16_3).length c802_0) ∧ w'.cell? (ad802.add ((ji72)).toNat) = some (.slice A803_0 (rd_L1 t797 (ji72)).length c803_0) ∧ w'.cell? (ad802.add (x16_3).toNat) = some (.slice A802_0 (rd_L1 t797 x16_3).length c802_0)) (ds := []) #[false, false, false, false, false, false, false, false, false, false, false, false, false, false, false, false, false, false, false, false, false, false, false, false] (by kernel_rfl) rfl rfl ⟨hx802_0, hx803_0, hx804_0⟩ (fun hHeld => ?_); refine with_tabW padlocklaw03_PuzzlesHung.tab14 padlocklaw03_PuzzlesHung.bits14 (fun HT_ HW_ => ?_)
                   generalize wr.drew = w76 at HO_14 BK765 BK772 HB HL802_0 HL803_0 HL804_0 HR802_0 HR803_0 HR804_0 hx802_0 hx803_0 hx804_0 hHeld ⊢
                   refine pure_ (i := 0) (N := some 107) (v := ?_) (a' := ?_) #[true, false, false, false, false, false, false, false, false, false, false, false, false, false, false, false, false, false, false, false, false, false, false, false] rfl rfl (any_of HT_.out (by kernel_rfl)) (fun _ _ _ h => h) (Or.inl ⟨by rfl, ?_⟩) ?_ ?_
                   rotate_left
                   ·intro w'
                    go_simp
                    with_reducible rfl
                   rotate_left
                   ·simp only [Act.put, List.setIfInBounds_toArray, List.set_cons_zero, List.set_cons_succ, i64_w, i32_w]
                    rfl
                   refine pure_ (i := 1) (N := some 108) (v := ?_) (a' := ?_) #[true, true, false, false, false, false, false, false, false, false, false, false, false, false, false, false, false, false, false, false, false, false, false, false] rfl rfl (any_of HT_.out (by kernel_rfl)) (fun _ _ _ h => h) (Or.inl ⟨by rfl, ?_⟩) ?_ ?_
                   rotate_left
                   ·intro w'
                    go_simp
                    with_reducible rfl
                   rotate_left
                   ·simp only [Act.put, List.setIfInBounds_toArray, List.set_cons_zero, List.set_cons_succ, i64_w, i32_w]
                    rfl
                   refine pure_ (i := 2) (N := some 109) (v := ?_) (a' := ?_) #[true, true, true, false, false, false, false, false, false, false, false, false, false, false, false, false, false, false, false, false, false, false, false, false] rfl rfl (any_of HT_.out (by kernel_rfl)) (fun _ _ _ h => h) (Or.inl ⟨by rfl, ?_⟩) ?_ ?_
                   rotate_left
                   ·intro w'
                    go_simp
                    with_reducible rfl
                   rotate_left
                   ·simp only [Act.put, List.setIfInBounds_toArray, List.set_cons_zero, List.set_cons_succ, i64_w, i32_w]
                    rfl
                   refine pure_ (i := 5) (N := some 112) (v := ?_) (a' := ?_) #[true, true, true, false, false, true, false, false, false, false, false, false, false, false, false, false, false, false, false, false, false, false, false, false] rfl rfl (any_of HT_.out (by kernel_rfl)) (fun _ _ _ h => h) (Or.inl ⟨by rfl, ?_⟩) ?_ ?_
                   rotate_left
                   ·intro w'
                    go_simp
                    with_reducible rfl
                   rotate_left
                   ·simp only [Act.put, List.setIfInBounds_toArray, List.set_cons_zero, List.set_cons_succ, i64_w, i32_w]
                    rfl
                   refine take_ (i := 3) (N := some 110) (v := ?_) (a' := ?_) #[true, true, true, true, false, true, false, false, false, false, false, false, false, false, false, false, false, false, false, false, false, false, false, false] rfl rfl (take_ofW HT_.out HW_.out (by kernel_rfl)) (fun _ _ _ h => h) (Or.inl ⟨by rfl, ?_⟩) hHeld ?_ ?_
                   rotate_left
                   ·rintro w' ⟨s0, s1, s2⟩
                    go_simp
                    with_reducible rfl
                   rotate_left
                   ·simp only [Act.put, List.setIfInBounds_toArray, List.set_cons_zero, List.set_cons_succ, i64_w, i32_w]
                    rfl
                   refine pure_ (i := 4) (N := some 111) (v := ?_) (a' := ?_) #[true, true, true, true, true, true, false, false, false, false, false, false, false, false, false, false, false, false, false, false, false, false, false, false] rfl rfl (any_of HT_.out (by kernel_rfl)) (fun _ _ _ h => h) (Or.inl ⟨by rfl, ?_⟩) ?_ ?_
                   rotate_left
                   ·intro w'
                    go_simp
                    with_reducible rfl
                   rotate_left
                   ·simp only [Act.put, List.setIfInBounds_toArray, List.set_cons_zero, List.set_cons_succ, i64_w, i32_w]
                    rfl
                   refine pure_ (i := 6) (N := some 113) (v := ?_) (a' := ?_) #[true, true, true, true, true, true, true, false, false, false, false, false, false, false, false, false, false, false, false, false, false, false, false, false] rfl rfl (any_of HT_.out (by kernel_rfl)) (fun _ _ _ h => h) (Or.inl ⟨by rfl, ?_⟩) ?_ ?_
                   rotate_left
                   ·intro w'
                    go_simp
                    with_reducible rfl
                   rotate_left
                   ·simp only [Act.put, List.setIfInBounds_toArray, List.set_cons_zero, List.set_cons_succ, i64_w, i32_w]
                    rfl
                   refine pure_ (i := 7) (N := some 114) (v := ?_) (a' := ?_) #[true, true, true, true, true, true, true, true, false, false, false, false, false, false, false, false, false, false, false, false, false, false, false, false] rfl rfl (any_of HT_.out (by kernel_rfl)) (fun _ _ _ h => h) (Or.inl ⟨by rfl, ?_⟩) ?_ ?_
                   rotate_left
                   ·intro w'
                    go_simp
                    with_reducible rfl
                   rotate_left
                   ·simp only [Act.put, List.setIfInBounds_toArray, List.set_cons_zero, List.set_cons_succ, i64_w, i32_w]
                    rfl
                   refine pure_ (i := 8) (N := some 115) (v := ?_) (a' := ?_) #[true, true, true, true, true, true, true, true, true, false, false, false, false, false, false, false, false, false, false, false, false, false, false, false] rfl rfl (any_of HT_.out (by kernel_rfl)) (fun _ _ _ h => h) (Or.inl ⟨by rfl, ?_⟩) ?_ ?_
                   rotate_left
                   ·intro w'
                    go_simp
                    with_reducible rfl
                   rotate_left
                   ·simp only [Act.put, List.setIfInBounds_toArray, List.set_cons_zero, List.set_cons_succ, i64_w, i32_w]
                    rfl
                   refine pure_ (i := 9) (N := some 116) (v := ?_) (a' := ?_) #[true, true, true, true, true, true, true, true, true, true, false, false, false, false, false, false, false, false, false, false, false, false, false, false] rfl rfl (any_of HT_.out (by kernel_rfl)) (fun _ _ _ h => h) (Or.inl ⟨by rfl, ?_⟩) ?_ ?_
                   rotate_left
                   ·intro w'
                    go_simp
                    with_reducible rfl
                   rotate_left
                   ·simp only [Act.put, List.setIfInBounds_toArray, List.set_cons_zero, List.set_cons_succ, i64_w, i32_w]
                    rfl
                   refine pure_ (i := 10) (N := some 117) (v := ?_) (a' := ?_) #[true, true, true, true, true, true, true, true, true, true, true, false, false, false, false, false, false, false, false, false, false, false, false, false] rfl rfl (any_of HT_.out (by kernel_rfl)) (fun _ _ _ h => h) (Or.inl ⟨by rfl, ?_⟩) ?_ ?_
                   rotate_left
                   ·intro w'
                    go_simp
                    with_reducible rfl
                   rotate_left
                   ·simp only [Act.put, List.setIfInBounds_toArray, List.set_cons_zero, List.set_cons_succ, i64_w, i32_w]
                    rfl
                   refine pure_ (i := 11) (N := some 118) (v := ?_) (a' := ?_) #[true, true, true, true, true, true, true, true, true, true, true, true, false, false, false, false, false, false, false, false, false, false, false, false] rfl rfl (any_of HT_.out (by kernel_rfl)) (fun _ _ _ h => h) (Or.inl ⟨by rfl, ?_⟩) ?_ ?_
                   rotate_left
                   ·intro w'
                    go_simp
                    with_reducible rfl
                   rotate_left
                   ·simp only [Act.put, List.setIfInBounds_toArray, List.set_cons_zero, List.set_cons_succ, i64_w, i32_w]
                    rfl
                   refine pure_ (i := 12) (N := some 119) (v := ?_) (a' := ?_) #[true, true, true, true, true, true, true, true, true, true, true, true, true, false, false, false, false, false, false, false, false, false, false, false] rfl rfl (any_of HT_.out (by kernel_rfl)) (fun _ _ _ h => h) (Or.inl ⟨by rfl, ?_⟩) ?_ ?_
                   rotate_left
                   ·intro w'
                    go_simp
                    with_reducible rfl
                   rotate_left
                   ·simp only [Act.put, List.setIfInBounds_toArray, List.set_cons_zero, List.set_cons_succ, i64_w, i32_w]
                    rfl
                   refine pure_ (i := 13) (N := some 120) (v := ?_) (a' := ?_) #[true, true, true, true, true, true, true, true, true, true, true, true, true, true, false, false, false, false, false, false, false, false, false, false] rfl rfl (any_of HT_.out (by kernel_rfl)) (fun _ _ _ h => h) (Or.inl ⟨by rfl, ?_⟩) ?_ ?_
                   rotate_left
                   ·intro w'
                    go_simp
                    with_reducible rfl
                   rotate_left
                   ·simp only [Act.put, List.setIfInBounds_toArray, List.set_cons_zero, List.set_cons_succ, i64_w, i32_w]
                    rfl
                   refine pure_ (i := 14) (N := some 121) (v := ?_) (a' := ?_) #[true, true, true, true, true, true, true, true, true, true, true, true, true, true, true, false, false, false, false, false, false, false, false, false] rfl rfl (any_of HT_.out (by kernel_rfl)) (fun _ _ _ h => h) (Or.inl ⟨by rfl, ?_⟩) ?_ ?_
                   rotate_left
                   ·intro w'
                    go_simp
                    with_reducible rfl
                   rotate_left
                   ·simp only [Act.put, List.setIfInBounds_toArray, List.set_cons_zero, List.set_cons_succ, i64_w, i32_w]
                    rfl
                   refine pure_ (i := 16) (N := some 123) (v := ?_) (a' := ?_) #[true, true, true, true, true, true, true, true, true, true, true, true, true, true, true, false, true, false, false, false, false, false, false, false] rfl rfl (any_of HT_.out (by kernel_rfl)) (fun _ _ _ h => h) (Or.inl ⟨by rfl, ?_⟩) ?_ ?_
                   rotate_left
                   ·intro w'
                    go_simp
                    with_reducible rfl
                   rotate_left
                   ·simp only [Act.put, List.setIfInBounds_toArray, List.set_cons_zero, List.set_cons_succ, i64_w, i32_w]
                    rfl
                   refine pure_ (i := 17) (N := some 124) (v := ?_) (a' := ?_) #[true, true, true, true, true, true, true, true, true, true, true, true, true, true, true, false, true, true, false, false, false, false, false, false] rfl rfl (any_of HT_.out (by kernel_rfl)) (fun _ _ _ h => h) (Or.inl ⟨by rfl, ?_⟩) ?_ ?_
                   rotate_left
                   ·intro w'
                    go_simp
                    with_reducible rfl
                   rotate_left
                   ·simp only [Act.put, List.setIfInBounds_toArray, List.set_cons_zero, List.set_cons_succ, i64_w, i32_w]
                    rfl
                   refine pure_ (i := 18) (N := some 125) (v := ?_) (a' := ?_) #[true, true, true, true, true, true, true, true, true, true, true, true, true, true, true, false, true, true, true, false, false, false, false, false] rfl rfl (any_of HT_.out (by kernel_rfl)) (fun _ _ _ h => h) (Or.inl ⟨by rfl, ?_⟩) ?_ ?_
                   rotate_left
                   ·intro w'
                    go_simp
                    with_reducible rfl
                   rotate_left
                   ·simp only [Act.put, List.setIfInBounds_toArray, List.set_cons_zero, List.set_cons_succ, i64_w, i32_w]
                    rfl
                   refine take_ (i := 15) (N := some 122) (v := ?_) (a' := ?_) #[true, true, true, true, true, true, true, true, true, true, true, true, true, true, true, true, true, true, true, false, false, false, false, false] rfl rfl (take_ofW HT_.out HW_.out (by kernel_rfl)) (fun _ _ _ h => h) (Or.inl ⟨by rfl, ?_⟩) hHeld ?_ ?_
                   rotate_left
                   ·rintro w' ⟨s0, s1, s2⟩
                    go_simp
                    with_reducible rfl
                   rotate_left
                   ·simp only [Act.put, List.setIfInBounds_toArray, List.set_cons_zero, List.set_cons_succ, i64_w, i32_w]
                    rfl
                   refine take_ (i := 19) (N := some 126) (v := ?_) (a' := ?_) #[true, true, true, true, true, true, true, true, true, true, true, true, true, true, true, true, true, true, true, true, false, false, false, false] rfl rfl (take_ofW HT_.out HW_.out (by kernel_rfl)) (fun _ _ _ h => h) (Or.inl ⟨by rfl, ?_⟩) hHeld ?_ ?_
                   rotate_left
                   ·rintro w' ⟨s0, s1, s2⟩
                    go_simp
                    with_reducible rfl
                   rotate_left
                   ·simp only [Act.put, List.setIfInBounds_toArray, List.set_cons_zero, List.set_cons_succ, i64_w, i32_w]
                    rfl
                   refine one_ (i := 20) (N := some 127) #[true, true, true, true, true, true, true, true, true, true, true, true, true, true, true, true, true, true, true, true, true, false, false, false] rfl rfl (one_of HT_.out (by kernel_rfl)) (by decide) (fun K hK => ?_)
                   refine goes_ Try.func41 (by kernel_rfl) rfl #[.slice A803_0 (rd_L1 t797 (ji72)).length c803_0, .slice A802_0 (rd_L1 t797 x16_3).length c802_0] (by rfl) rfl rfl (by (try simp only [List.map_toArray, List.map_cons, List.map_nil]); first | done | (simp only [hji72]; rfl) | rfl | (simp only [List.length_drop, List.length_take]; rfl)) ?_
                   with_reducible refine (padlocklaw03_earlier.calls k3 _ _ (rd_L1 t797 (ji72)) _ _ (rd_L1 t797 x16_3) t805 _ ?side1 ?side2 ?side3 ?side4 A75.out).mono ?_
                   (case side1 => repeat (first | exact (by repeat (first | (with_reducible exact HR803_0.out) | (with_reducible refine Kd.C_alloc ?_ _) | (with_reducible refine Kd.C_drewN ?_ _) | (with_reducible refine Kd.C_drew ?_) | exact HR803_0.out)) | (with_reducible refine Kd.C_alloc ?_ _) | (with_reducible refine Kd.C_drewN ?_ _) | (with_reducible refine Kd.C_drew ?_)))
                   (case side2 => exact HC803_0.out)
                   (case side3 => repeat (first | exact (by repeat (first | (with_reducible exact HR804_0.out) | (with_reducible refine Kd.C_alloc ?_ _) | (with_reducible refine Kd.C_drewN ?_ _) | (with_reducible refine Kd.C_drew ?_) | exact HR804_0.out)) | (with_reducible refine Kd.C_alloc ?_ _) | (with_reducible refine Kd.C_drewN ?_ _) | (with_reducible refine Kd.C_drew ?_)))
                   (case side4 => exact HC804_0.out)
                   rintro e w' ⟨rfl, ⟨nd, rfl⟩⟩
                   refine ⟨_, rfl, ?_⟩
                   refine hK.out _ _ ⟨hHeld.1, hHeld.2.1, hHeld.2.2⟩ (fun hHeld => ?_)
                   clear hK K
                   refine norm_ (a' := ?_) ?_ ?_
                   rotate_left
                   ·show Act.put _ (some 127) _ = _
                    simp only [Act.put, List.setIfInBounds_toArray, List.set_cons_zero, List.set_cons_succ, i64_w, i32_w]
                    rfl
                   refine pure_ (i := 21) (N := some 128) (v := ?_) (a' := ?_) #[true, true, true, true, true, true, true, true, true, true, true, true, true, true, true, true, true, true, true, true, true, true, false, false] rfl rfl (any_of HT_.out (by kernel_rfl)) (fun _ _ _ h => h) (Or.inl ⟨by rfl, ?_⟩) ?_ ?_
                   rotate_left
                   ·intro w'
                    go_simp
                    with_reducible rfl
                   rotate_left
                   ·simp only [Act.put, List.setIfInBounds_toArray, List.set_cons_zero, List.set_cons_succ, i64_w, i32_w]
                    rfl
                   refine pure_ (i := 22) (N := some 129) (v := ?_) (a' := ?_) #[true, true, true, true, true, true, true, true, true, true, true, true, true, true, true, true, true, true, true, true, true, true, true, false] rfl rfl (any_of HT_.out (by kernel_rfl)) (fun _ _ _ h => h) (Or.inl ⟨by rfl, ?_⟩) ?_ ?_
                   rotate_left
                   ·intro w'
                    go_simp
                    with_reducible rfl
                   rotate_left
                   ·simp only [Act.put, List.setIfInBounds_toArray, List.set_cons_zero, List.set_cons_succ, i64_w, i32_w]
                    rfl
                   refine pure_ (i := 23) (N := some 130) (v := ?_) (a' := ?_) #[true, true, true, true, true, true, true, true, true, true, true, true, true, true, true, true, true, true, true, true, true, true, true, true] rfl rfl (any_of HT_.out (by kernel_rfl)) (fun _ _ _ h => h) (Or.inl ⟨by rfl, ?_⟩) ?_ ?_
                   rotate_left
                   ·intro w'
                    go_simp
                    with_reducible rfl
                   rotate_left
                   ·simp only [Act.put, List.setIfInBounds_toArray, List.set_cons_zero, List.set_cons_succ, i64_w, i32_w]
                    rfl
                   refine done_ (done_of HT_.out (by kernel_rfl)) ?_
                   try go_wp2
                   go_meet
                   case rel => exact ⟨_, (!t805), (by first | rfl | (simp; done) | (simp [*]; done)), H', ⟨by have := HJ3.out; have := HJ32.out; have := HK3.out; first | omega | exact Nat.le_refl _⟩, ⟨by (with_reducible repeat (first | apply Kd.S_alloc | apply Kd.S_drewN | apply Kd.S_drew)); exact HO_14.out⟩, ⟨by (with_reducible repeat (first | refine blk_drewN ?_ _ | refine blk_drew ?_ | refine blk_alloc ?_ _)); exact BK765.out⟩, ⟨by (with_reducible repeat (first | refine blk_drewN ?_ _ | refine blk_drew ?_ | refine blk_alloc ?_ _)); exact BK772.out⟩, ⟨by repeat (first | (with_reducible first | exact HB.out | apply below_alloc | apply pw_below_drewN | apply below_drew1 | refine below_set ?_ GE765.out | refine below_set ?_ GE772.out) | exact HB.out)⟩⟩
                  ·rw [if_neg c74] at H
                   exact absurd H (by simp)
                 ·rw [if_neg c73] at H
                  exact absurd H (by simp)
                ·rw [if_neg c71] at H
                 have c71b0 : decide (0 < x16_3) = false := decide_eq_false c71
                 clear c71
                 have H' := Aside0.mk H
                 clear H
                 try go_wp2
                 have n0_ := Aside0.mk (Kd.S_drew HO_14.out)
                 have n1_ := Aside0.mk (blk_drew BK765.out)
                 have n2_ := Aside0.mk (blk_drew BK772.out)
                 have n3_ := Aside0.mk (below_drew1 HB.out)
                 clear HO_14
                 clear BK765
                 clear BK772
                 clear HB
                 have HO_14 := n0_
                 have BK765 := n1_
                 have BK772 := n2_
                 have HB := n3_
                 clear n0_ n1_ n2_ n3_
                 have p802 : 0 ≤ (x16_3 : Int) := of_decide_eq_true (by first | (with_reducible assumption) | assumption)
                 have q802 : x16_3 < (t797.length : Int) := of_decide_eq_true (by first | (with_reducible assumption) | assumption)
                 obtain ⟨ad802, A802_0, c802_0, e802, hx802_0, hl802_0, hi802_0⟩ := at_L1 (Kd.S_reads' HO_14.out).2.2 x16_3 p802 q802
                 cases e802
                 obtain ⟨ce802, hce802, hMe802, hcc802⟩ := Kd.S_get HO_14.out [] x16_3 p802 (by first | exact q802 | exact of_decide_eq_true (by first | (with_reducible assumption) | assumption) | (have e_ := (Kd.S_reads' HO_14.out).1; omega))
                 obtain ⟨ve802_0, rfl, ge802_0⟩ := hMe802
                 have hv802_0 := hcc802 0 _ rfl
                 rw [Nat.add_zero, show ((Kd.slice 3 (Kd.int .i64))).sz = 1 from rfl, Nat.mul_one] at hv802_0
                 replace hv802_0 := Option.some.inj (hv802_0.symm.trans hx802_0)
                 rw [hv802_0] at ge802_0
                 have HL802_0 := Aside0.mk (show Kd.R (Kd.int .i64) 3 _ _ _ _ (rd_L1 t797 x16_3) from ge802_0)
                 clear hv802_0 ge802_0
                 clear hcc802 hce802
                 have HR802_0 := Aside0.mk hi802_0
                 have HC802_0 := Aside0.mk hl802_0
                 clear hi802_0 hl802_0
                 replace p802 := eq_true p802
                 replace q802 := eq_true q802
                 refine start_ (n := 24) (S := fun w' => w'.cell? (ad802.add (x16_3).toNat) = some (.slice A802_0 (rd_L1 t797 x16_3).length c802_0)) (ds := []) #[false, false, false, false, false, false, false, false, false, false, false, false, false, false, false, false, false, false, false, false, false, false, false, false] (by kernel_rfl) rfl rfl (hx802_0) (fun hHeld => ?_); refine with_tabW padlocklaw03_PuzzlesHung.tab14 padlocklaw03_PuzzlesHung.bits14 (fun HT_ HW_ => ?_)
                 generalize wr.drew = w77 at HO_14 BK765 BK772 HB HL802_0 HR802_0 hx802_0 hHeld ⊢
                 refine pure_ (i := 0) (N := some 107) (v := ?_) (a' := ?_) #[true, false, false, false, false, false, false, false, false, false, false, false, false, false, false, false, false, false, false, false, false, false, false, false] rfl rfl (any_of HT_.out (by kernel_rfl)) (fun _ _ _ h => h) (Or.inl ⟨by rfl, ?_⟩) ?_ ?_
                 rotate_left
                 ·intro w'
                  go_simp
                  with_reducible rfl
                 rotate_left
                 ·simp only [Act.put, List.setIfInBounds_toArray, List.set_cons_zero, List.set_cons_succ, i64_w, i32_w]
                  rfl
                 refine pure_ (i := 1) (N := some 108) (v := ?_) (a' := ?_) #[true, true, false, false, false, false, false, false, false, false, false, false, false, false, false, false, false, false, false, false, false, false, false, false] rfl rfl (any_of HT_.out (by kernel_rfl)) (fun _ _ _ h => h) (Or.inl ⟨by rfl, ?_⟩) ?_ ?_
                 rotate_left
                 ·intro w'
                  go_simp
                  with_reducible rfl
                 rotate_left
                 ·simp only [Act.put, List.setIfInBounds_toArray, List.set_cons_zero, List.set_cons_succ, i64_w, i32_w]
                  rfl
                 refine pure_ (i := 2) (N := some 109) (v := ?_) (a' := ?_) #[true, true, true, false, false, false, false, false, false, false, false, false, false, false, false, false, false, false, false, false, false, false, false, false] rfl rfl (any_of HT_.out (by kernel_rfl)) (fun _ _ _ h => h) (Or.inl ⟨by rfl, ?_⟩) ?_ ?_
                 rotate_left
                 ·intro w'
                  go_simp
                  with_reducible rfl
                 rotate_left
                 ·simp only [Act.put, List.setIfInBounds_toArray, List.set_cons_zero, List.set_cons_succ, i64_w, i32_w]
                  rfl
                 refine pure_ (i := 5) (N := some 112) (v := ?_) (a' := ?_) #[true, true, true, false, false, true, false, false, false, false, false, false, false, false, false, false, false, false, false, false, false, false, false, false] rfl rfl (any_of HT_.out (by kernel_rfl)) (fun _ _ _ h => h) (Or.inl ⟨by rfl, ?_⟩) ?_ ?_
                 rotate_left
                 ·intro w'
                  go_simp
                  with_reducible rfl
                 rotate_left
                 ·simp only [Act.put, List.setIfInBounds_toArray, List.set_cons_zero, List.set_cons_succ, i64_w, i32_w]
                  rfl
                 refine take_ (i := 3) (N := some 110) (v := ?_) (a' := ?_) #[true, true, true, true, false, true, false, false, false, false, false, false, false, false, false, false, false, false, false, false, false, false, false, false] rfl rfl (take_ofW HT_.out HW_.out (by kernel_rfl)) (fun _ _ _ h => h) (Or.inl ⟨by rfl, ?_⟩) hHeld ?_ ?_
                 rotate_left
                 ·intro w' s0
                  go_simp
                  with_reducible rfl
                 rotate_left
                 ·simp only [Act.put, List.setIfInBounds_toArray, List.set_cons_zero, List.set_cons_succ, i64_w, i32_w]
                  rfl
                 refine pure_ (i := 4) (N := some 111) (v := ?_) (a' := ?_) #[true, true, true, true, true, true, false, false, false, false, false, false, false, false, false, false, false, false, false, false, false, false, false, false] rfl rfl (any_of HT_.out (by kernel_rfl)) (fun _ _ _ h => h) (Or.inl ⟨by rfl, ?_⟩) ?_ ?_
                 rotate_left
                 ·intro w'
                  go_simp
                  with_reducible rfl
                 rotate_left
                 ·simp only [Act.put, List.setIfInBounds_toArray, List.set_cons_zero, List.set_cons_succ, i64_w, i32_w]
                  rfl
                 refine pure_ (i := 6) (N := some 113) (v := ?_) (a' := ?_) #[true, true, true, true, true, true, true, false, false, false, false, false, false, false, false, false, false, false, false, false, false, false, false, false] rfl rfl (any_of HT_.out (by kernel_rfl)) (fun _ _ _ h => h) (Or.inl ⟨by rfl, ?_⟩) ?_ ?_
                 rotate_left
                 ·intro w'
                  go_simp
                  with_reducible rfl
                 rotate_left
                 ·simp only [Act.put, List.setIfInBounds_toArray, List.set_cons_zero, List.set_cons_succ, i64_w, i32_w]
                  rfl
                 refine pure_ (i := 7) (N := some 114) (v := ?_) (a' := ?_) #[true, true, true, true, true, true, true, true, false, false, false, false, false, false, false, false, false, false, false, false, false, false, false, false] rfl rfl (any_of HT_.out (by kernel_rfl)) (fun _ _ _ h => h) (Or.inl ⟨by rfl, ?_⟩) ?_ ?_
                 rotate_left
                 ·intro w'
                  go_simp
                  with_reducible rfl
                 rotate_left
                 ·simp only [Act.put, List.setIfInBounds_toArray, List.set_cons_zero, List.set_cons_succ, i64_w, i32_w]
                  rfl
                 refine pure_ (i := 8) (N := some 115) (v := ?_) (a' := ?_) #[true, true, true, true, true, true, true, true, true, false, false, false, false, false, false, false, false, false, false, false, false, false, false, false] rfl rfl (any_of HT_.out (by kernel_rfl)) (fun _ _ _ h => h) (Or.inl ⟨by rfl, ?_⟩) ?_ ?_
                 rotate_left
                 ·intro w'
                  go_simp
                  with_reducible rfl
                 rotate_left
                 ·simp only [Act.put, List.setIfInBounds_toArray, List.set_cons_zero, List.set_cons_succ, i64_w, i32_w]
                  rfl
                 refine pure_ (i := 9) (N := some 116) (v := ?_) (a' := ?_) #[true, true, true, true, true, true, true, true, true, true, false, false, false, false, false, false, false, false, false, false, false, false, false, false] rfl rfl (any_of HT_.out (by kernel_rfl)) (fun _ _ _ h => h) (Or.inl ⟨by rfl, ?_⟩) ?_ ?_
                 rotate_left
                 ·intro w'
                  go_simp
                  with_reducible rfl
                 rotate_left
                 ·simp only [Act.put, List.setIfInBounds_toArray, List.set_cons_zero, List.set_cons_succ, i64_w, i32_w]
                  rfl
                 refine pure_ (i := 10) (N := some 117) (v := ?_) (a' := ?_) #[true, true, true, true, true, true, true, true, true, true, true, false, false, false, false, false, false, false, false, false, false, false, false, false] rfl rfl (any_of HT_.out (by kernel_rfl)) (fun _ _ _ h => h) (Or.inl ⟨by rfl, ?_⟩) ?_ ?_
                 rotate_left
                 ·intro w'
                  go_simp
                  with_reducible rfl
                 rotate_left
                 ·simp only [Act.put, List.setIfInBounds_toArray, List.set_cons_zero, List.set_cons_succ, i64_w, i32_w]
                  rfl
                 refine pure_ (i := 11) (N := some 118) (v := undef) (a' := ?_) #[true, true, true, true, true, true, true, true, true, true, true, true, false, false, false, false, false, false, false, false, false, false, false, false] rfl rfl (any_of HT_.out (by kernel_rfl)) (fun _ _ _ h => h) (Or.inr ⟨by rfl, rfl⟩) ?_ ?_
                 rotate_left
                 ·simp only [Act.put, List.setIfInBounds_toArray, List.set_cons_zero, List.set_cons_succ, i64_w, i32_w]
                  rfl
                 refine pure_ (i := 12) (N := some 119) (v := undef) (a' := ?_) #[true, true, true, true, true, true, true, true, true, true, true, true, true, false, false, false, false, false, false, false, false, false, false, false] rfl rfl (any_of HT_.out (by kernel_rfl)) (fun _ _ _ h => h) (Or.inr ⟨by rfl, rfl⟩) ?_ ?_
                 rotate_left
                 ·simp only [Act.put, List.setIfInBounds_toArray, List.set_cons_zero, List.set_cons_succ, i64_w, i32_w]
                  rfl
                 refine pure_ (i := 13) (N := some 120) (v := undef) (a' := ?_) #[true, true, true, true, true, true, true, true, true, true, true, true, true, true, false, false, false, false, false, false, false, false, false, false] rfl rfl (any_of HT_.out (by kernel_rfl)) (fun _ _ _ h => h) (Or.inr ⟨by rfl, rfl⟩) ?_ ?_
                 rotate_left
                 ·simp only [Act.put, List.setIfInBounds_toArray, List.set_cons_zero, List.set_cons_succ, i64_w, i32_w]
                  rfl
                 refine pure_ (i := 14) (N := some 121) (v := undef) (a' := ?_) #[true, true, true, true, true, true, true, true, true, true, true, true, true, true, true, false, false, false, false, false, false, false, false, false] rfl rfl (any_of HT_.out (by kernel_rfl)) (fun _ _ _ h => h) (Or.inr ⟨by rfl, rfl⟩) ?_ ?_
                 rotate_left
                 ·simp only [Act.put, List.setIfInBounds_toArray, List.set_cons_zero, List.set_cons_succ, i64_w, i32_w]
                  rfl
                 refine pure_ (i := 15) (N := some 122) (v := undef) (a' := ?_) #[true, true, true, true, true, true, true, true, true, true, true, true, true, true, true, true, false, false, false, false, false, false, false, false] rfl rfl (any_of HT_.out (by kernel_rfl)) (fun _ _ _ h => h) (Or.inr ⟨by rfl, rfl⟩) ?_ ?_
                 rotate_left
                 ·simp only [Act.put, List.setIfInBounds_toArray, List.set_cons_zero, List.set_cons_succ, i64_w, i32_w]
                  rfl
                 refine pure_ (i := 16) (N := some 123) (v := undef) (a' := ?_) #[true, true, true, true, true, true, true, true, true, true, true, true, true, true, true, true, true, false, false, false, false, false, false, false] rfl rfl (any_of HT_.out (by kernel_rfl)) (fun _ _ _ h => h) (Or.inr ⟨by rfl, rfl⟩) ?_ ?_
                 rotate_left
                 ·simp only [Act.put, List.setIfInBounds_toArray, List.set_cons_zero, List.set_cons_succ, i64_w, i32_w]
                  rfl
                 refine pure_ (i := 17) (N := some 124) (v := undef) (a' := ?_) #[true, true, true, true, true, true, true, true, true, true, true, true, true, true, true, true, true, true, false, false, false, false, false, false] rfl rfl (any_of HT_.out (by kernel_rfl)) (fun _ _ _ h => h) (Or.inr ⟨by rfl, rfl⟩) ?_ ?_
                 rotate_left
                 ·simp only [Act.put, List.setIfInBounds_toArray, List.set_cons_zero, List.set_cons_succ, i64_w, i32_w]
                  rfl
                 refine pure_ (i := 18) (N := some 125) (v := undef) (a' := ?_) #[true, true, true, true, true, true, true, true, true, true, true, true, true, true, true, true, true, true, true, false, false, false, false, false] rfl rfl (any_of HT_.out (by kernel_rfl)) (fun _ _ _ h => h) (Or.inr ⟨by rfl, rfl⟩) ?_ ?_
                 rotate_left
                 ·simp only [Act.put, List.setIfInBounds_toArray, List.set_cons_zero, List.set_cons_succ, i64_w, i32_w]
                  rfl
                 refine pure_ (i := 19) (N := some 126) (v := undef) (a' := ?_) #[true, true, true, true, true, true, true, true, true, true, true, true, true, true, true, true, true, true, true, true, false, false, false, false] rfl rfl (any_of HT_.out (by kernel_rfl)) (fun _ _ _ h => h) (Or.inr ⟨by rfl, rfl⟩) ?_ ?_
                 rotate_left
                 ·simp only [Act.put, List.setIfInBounds_toArray, List.set_cons_zero, List.set_cons_succ, i64_w, i32_w]
                  rfl
                 refine pure_ (i := 20) (N := some 127) (v := undef) (a' := ?_) #[true, true, true, true, true, true, true, true, true, true, true, true, true, true, true, true, true, true, true, true, true, false, false, false] rfl rfl (any_of HT_.out (by kernel_rfl)) (fun _ _ _ h => h) (Or.inr ⟨by rfl, rfl⟩) ?_ ?_
                 rotate_left
                 ·simp only [Act.put, List.setIfInBounds_toArray, List.set_cons_zero, List.set_cons_succ, i64_w, i32_w]
                  rfl
                 refine pure_ (i := 21) (N := some 128) (v := undef) (a' := ?_) #[true, true, true, true, true, true, true, true, true, true, true, true, true, true, true, true, true, true, true, true, true, true, false, false] rfl rfl (any_of HT_.out (by kernel_rfl)) (fun _ _ _ h => h) (Or.inr ⟨by rfl, rfl⟩) ?_ ?_
                 rotate_left
                 ·simp only [Act.put, List.setIfInBounds_toArray, List.set_cons_zero, List.set_cons_succ, i64_w, i32_w]
                  rfl
                 refine pure_ (i := 22) (N := some 129) (v := ?_) (a' := ?_) #[true, true, true, true, true, true, true, true, true, true, true, true, true, true, true, true, true, true, true, true, true, true, true, false] rfl rfl (any_of HT_.out (by kernel_rfl)) (fun _ _ _ h => h) (Or.inl ⟨by rfl, ?_⟩) ?_ ?_
                 rotate_left
                 ·intro w'
                  go_simp
                  with_reducible rfl
                 rotate_left
                 ·simp only [Act.put, List.setIfInBounds_toArray, List.set_cons_zero, List.set_cons_succ, i64_w, i32_w]
                  rfl
                 refine pure_ (i := 23) (N := some 130) (v := ?_) (a' := ?_) #[true, true, true, true, true, true, true, true, true, true, true, true, true, true, true, true, true, true, true, true, true, true, true, true] rfl rfl (any_of HT_.out (by kernel_rfl)) (fun _ _ _ h => h) (Or.inl ⟨by rfl, ?_⟩) ?_ ?_
                 rotate_left
                 ·intro w'
                  go_simp
                  with_reducible rfl
                 rotate_left
                 ·simp only [Act.put, List.setIfInBounds_toArray, List.set_cons_zero, List.set_cons_succ, i64_w, i32_w]
                  rfl
                 refine done_ (done_of HT_.out (by kernel_rfl)) ?_
                 try go_wp2
                 go_meet
                 case rel => exact ⟨_, (false), (by first | rfl | (simp; done) | (simp [*]; done)), H', ⟨by have := HJ3.out; have := HJ32.out; have := HK3.out; first | omega | exact Nat.le_refl _⟩, ⟨by (with_reducible repeat (first | apply Kd.S_alloc | apply Kd.S_drewN | apply Kd.S_drew)); exact HO_14.out⟩, ⟨by (with_reducible repeat (first | refine blk_drewN ?_ _ | refine blk_drew ?_ | refine blk_alloc ?_ _)); exact BK765.out⟩, ⟨by (with_reducible repeat (first | refine blk_drewN ?_ _ | refine blk_drew ?_ | refine blk_alloc ?_ _)); exact BK772.out⟩, ⟨by repeat (first | (with_reducible first | exact HB.out | apply below_alloc | apply pw_below_drewN | apply below_drew1 | refine below_set ?_ GE765.out | refine below_set ?_ GE772.out) | exact HB.out)⟩⟩
               ·rw [if_neg c70] at H
                have c70b0 : (((rd_L1 t797 x16_3).length : Int) == a0) = false := beq_eq_false_iff_ne.mpr c70
                have c70b1 : (((rd_L1 t797 x16_3).length : Int) != a0) = true := bne_iff_ne.mpr c70
                have H' := Aside0.mk H
                clear H
                try go_wp2
                have n0_ := Aside0.mk (Kd.S_drew HO_14.out)
                have n1_ := Aside0.mk (blk_drew BK765.out)
                have n2_ := Aside0.mk (blk_drew BK772.out)
                have n3_ := Aside0.mk (below_drew1 HB.out)
                clear HO_14
                clear BK765
                clear BK772
                clear HB
                have HO_14 := n0_
                have BK765 := n1_
                have BK772 := n2_
                have HB := n3_
                clear n0_ n1_ n2_ n3_
                have p802 : 0 ≤ (x16_3 : Int) := of_decide_eq_true (by first | (with_reducible assumption) | assumption)
                have q802 : x16_3 < (t797.length : Int) := of_decide_eq_true (by first | (with_reducible assumption) | assumption)
                obtain ⟨ad802, A802_0, c802_0, e802, hx802_0, hl802_0, hi802_0⟩ := at_L1 (Kd.S_reads' HO_14.out).2.2 x16_3 p802 q802
                cases e802
                obtain ⟨ce802, hce802, hMe802, hcc802⟩ := Kd.S_get HO_14.out [] x16_3 p802 (by first | exact q802 | exact of_decide_eq_true (by first | (with_reducible assumption) | assumption) | (have e_ := (Kd.S_reads' HO_14.out).1; omega))
                obtain ⟨ve802_0, rfl, ge802_0⟩ := hMe802
                have hv802_0 := hcc802 0 _ rfl
                rw [Nat.add_zero, show ((Kd.slice 3 (Kd.int .i64))).sz = 1 from rfl, Nat.mul_one] at hv802_0
                replace hv802_0 := Option.some.inj (hv802_0.symm.trans hx802_0)
                rw [hv802_0] at ge802_0
                have HL802_0 := Aside0.mk (show Kd.R (Kd.int .i64) 3 _ _ _ _ (rd_L1 t797 x16_3) from ge802_0)
                clear hv802_0 ge802_0
                clear hcc802 hce802
                have HR802_0 := Aside0.mk hi802_0
                have HC802_0 := Aside0.mk hl802_0
                clear hi802_0 hl802_0
                replace p802 := eq_true p802
                replace q802 := eq_true q802
                refine start_ (n := 24) (S := fun w' => w'.cell? (ad802.add (x16_3).toNat) = some (.slice A802_0 (rd_L1 t797 x16_3).length c802_0)) (ds := []) #[false, false, false, false, false, false, false, false, false, false, false, false, false, false, false, false, false, false, false, false, false, false, false, false] (by kernel_rfl) rfl rfl (hx802_0) (fun hHeld => ?_); refine with_tabW padlocklaw03_PuzzlesHung.tab14 padlocklaw03_PuzzlesHung.bits14 (fun HT_ HW_ => ?_)
                generalize wr.drew = w78 at HO_14 BK765 BK772 HB HL802_0 HR802_0 hx802_0 hHeld ⊢
                refine pure_ (i := 0) (N := some 107) (v := ?_) (a' := ?_) #[true, false, false, false, false, false, false, false, false, false, false, false, false, false, false, false, false, false, false, false, false, false, false, false] rfl rfl (any_of HT_.out (by kernel_rfl)) (fun _ _ _ h => h) (Or.inl ⟨by rfl, ?_⟩) ?_ ?_
                rotate_left
                ·intro w'
                 go_simp
                 with_reducible rfl
                rotate_left
                ·simp only [Act.put, List.setIfInBounds_toArray, List.set_cons_zero, List.set_cons_succ, i64_w, i32_w]
                 rfl
                refine pure_ (i := 1) (N := some 108) (v := ?_) (a' := ?_) #[true, true, false, false, false, false, false, false, false, false, false, false, false, false, false, false, false, false, false, false, false, false, false, false] rfl rfl (any_of HT_.out (by kernel_rfl)) (fun _ _ _ h => h) (Or.inl ⟨by rfl, ?_⟩) ?_ ?_
                rotate_left
                ·intro w'
                 go_simp
                 with_reducible rfl
                rotate_left
                ·simp only [Act.put, List.setIfInBounds_toArray, List.set_cons_zero, List.set_cons_succ, i64_w, i32_w]
                 rfl
                refine pure_ (i := 2) (N := some 109) (v := ?_) (a' := ?_) #[true, true, true, false, false, false, false, false, false, false, false, false, false, false, false, false, false, false, false, false, false, false, false, false] rfl rfl (any_of HT_.out (by kernel_rfl)) (fun _ _ _ h => h) (Or.inl ⟨by rfl, ?_⟩) ?_ ?_
                rotate_left
                ·intro w'
                 go_simp
                 with_reducible rfl
                rotate_left
                ·simp only [Act.put, List.setIfInBounds_toArray, List.set_cons_zero, List.set_cons_succ, i64_w, i32_w]
                 rfl
                refine pure_ (i := 5) (N := some 112) (v := ?_) (a' := ?_) #[true, true, true, false, false, true, false, false, false, false, false, false, false, false, false, false, false, false, false, false, false, false, false, false] rfl rfl (any_of HT_.out (by kernel_rfl)) (fun _ _ _ h => h) (Or.inl ⟨by rfl, ?_⟩) ?_ ?_
                rotate_left
                ·intro w'
                 go_simp
                 with_reducible rfl
                rotate_left
                ·simp only [Act.put, List.setIfInBounds_toArray, List.set_cons_zero, List.set_cons_succ, i64_w, i32_w]
                 rfl
                refine take_ (i := 3) (N := some 110) (v := ?_) (a' := ?_) #[true, true, true, true, false, true, false, false, false, false, false, false, false, false, false, false, false, false, false, false, false, false, false, false] rfl rfl (take_ofW HT_.out HW_.out (by kernel_rfl)) (fun _ _ _ h => h) (Or.inl ⟨by rfl, ?_⟩) hHeld ?_ ?_
                rotate_left
                ·intro w' s0
                 go_simp
                 with_reducible rfl
                rotate_left
                ·simp only [Act.put, List.setIfInBounds_toArray, List.set_cons_zero, List.set_cons_succ, i64_w, i32_w]
                 rfl
                refine pure_ (i := 4) (N := some 111) (v := ?_) (a' := ?_) #[true, true, true, true, true, true, false, false, false, false, false, false, false, false, false, false, false, false, false, false, false, false, false, false] rfl rfl (any_of HT_.out (by kernel_rfl)) (fun _ _ _ h => h) (Or.inl ⟨by rfl, ?_⟩) ?_ ?_
                rotate_left
                ·intro w'
                 go_simp
                 with_reducible rfl
                rotate_left
                ·simp only [Act.put, List.setIfInBounds_toArray, List.set_cons_zero, List.set_cons_succ, i64_w, i32_w]
                 rfl
                refine pure_ (i := 6) (N := some 113) (v := ?_) (a' := ?_) #[true, true, true, true, true, true, true, false, false, false, false, false, false, false, false, false, false, false, false, false, false, false, false, false] rfl rfl (any_of HT_.out (by kernel_rfl)) (fun _ _ _ h => h) (Or.inl ⟨by rfl, ?_⟩) ?_ ?_
                rotate_left
                ·intro w'
                 go_simp
                 with_reducible rfl
                rotate_left
                ·simp only [Act.put, List.setIfInBounds_toArray, List.set_cons_zero, List.set_cons_succ, i64_w, i32_w]
                 rfl
                refine pure_ (i := 7) (N := some 114) (v := ?_) (a' := ?_) #[true, true, true, true, true, true, true, true, false, false, false, false, false, false, false, false, false, false, false, false, false, false, false, false] rfl rfl (any_of HT_.out (by kernel_rfl)) (fun _ _ _ h => h) (Or.inl ⟨by rfl, ?_⟩) ?_ ?_
                rotate_left
                ·intro w'
                 go_simp
                 with_reducible rfl
                rotate_left
                ·simp only [Act.put, List.setIfInBounds_toArray, List.set_cons_zero, List.set_cons_succ, i64_w, i32_w]
                 rfl
                refine pure_ (i := 8) (N := some 115) (v := undef) (a' := ?_) #[true, true, true, true, true, true, true, true, true, false, false, false, false, false, false, false, false, false, false, false, false, false, false, false] rfl rfl (any_of HT_.out (by kernel_rfl)) (fun _ _ _ h => h) (Or.inr ⟨by rfl, rfl⟩) ?_ ?_
                rotate_left
                ·simp only [Act.put, List.setIfInBounds_toArray, List.set_cons_zero, List.set_cons_succ, i64_w, i32_w]
                 rfl
                refine pure_ (i := 9) (N := some 116) (v := undef) (a' := ?_) #[true, true, true, true, true, true, true, true, true, true, false, false, false, false, false, false, false, false, false, false, false, false, false, false] rfl rfl (any_of HT_.out (by kernel_rfl)) (fun _ _ _ h => h) (Or.inr ⟨by rfl, rfl⟩) ?_ ?_
                rotate_left
                ·simp only [Act.put, List.setIfInBounds_toArray, List.set_cons_zero, List.set_cons_succ, i64_w, i32_w]
                 rfl
                refine pure_ (i := 10) (N := some 117) (v := undef) (a' := ?_) #[true, true, true, true, true, true, true, true, true, true, true, false, false, false, false, false, false, false, false, false, false, false, false, false] rfl rfl (any_of HT_.out (by kernel_rfl)) (fun _ _ _ h => h) (Or.inr ⟨by rfl, rfl⟩) ?_ ?_
                rotate_left
                ·simp only [Act.put, List.setIfInBounds_toArray, List.set_cons_zero, List.set_cons_succ, i64_w, i32_w]
                 rfl
                refine pure_ (i := 11) (N := some 118) (v := undef) (a' := ?_) #[true, true, true, true, true, true, true, true, true, true, true, true, false, false, false, false, false, false, false, false, false, false, false, false] rfl rfl (any_of HT_.out (by kernel_rfl)) (fun _ _ _ h => h) (Or.inr ⟨by rfl, rfl⟩) ?_ ?_
                rotate_left
                ·simp only [Act.put, List.setIfInBounds_toArray, List.set_cons_zero, List.set_cons_succ, i64_w, i32_w]
                 rfl
                refine pure_ (i := 12) (N := some 119) (v := undef) (a' := ?_) #[true, true, true, true, true, true, true, true, true, true, true, true, true, false, false, false, false, false, false, false, false, false, false, false] rfl rfl (any_of HT_.out (by kernel_rfl)) (fun _ _ _ h => h) (Or.inr ⟨by rfl, rfl⟩) ?_ ?_
                rotate_left
                ·simp only [Act.put, List.setIfInBounds_toArray, List.set_cons_zero, List.set_cons_succ, i64_w, i32_w]
                 rfl
                refine pure_ (i := 13) (N := some 120) (v := undef) (a' := ?_) #[true, true, true, true, true, true, true, true, true, true, true, true, true, true, false, false, false, false, false, false, false, false, false, false] rfl rfl (any_of HT_.out (by kernel_rfl)) (fun _ _ _ h => h) (Or.inr ⟨by rfl, rfl⟩) ?_ ?_
                rotate_left
                ·simp only [Act.put, List.setIfInBounds_toArray, List.set_cons_zero, List.set_cons_succ, i64_w, i32_w]
                 rfl
                refine pure_ (i := 14) (N := some 121) (v := undef) (a' := ?_) #[true, true, true, true, true, true, true, true, true, true, true, true, true, true, true, false, false, false, false, false, false, false, false, false] rfl rfl (any_of HT_.out (by kernel_rfl)) (fun _ _ _ h => h) (Or.inr ⟨by rfl, rfl⟩) ?_ ?_
                rotate_left
                ·simp only [Act.put, List.setIfInBounds_toArray, List.set_cons_zero, List.set_cons_succ, i64_w, i32_w]
                 rfl
                refine pure_ (i := 15) (N := some 122) (v := undef) (a' := ?_) #[true, true, true, true, true, true, true, true, true, true, true, true, true, true, true, true, false, false, false, false, false, false, false, false] rfl rfl (any_of HT_.out (by kernel_rfl)) (fun _ _ _ h => h) (Or.inr ⟨by rfl, rfl⟩) ?_ ?_
                rotate_left
                ·simp only [Act.put, List.setIfInBounds_toArray, List.set_cons_zero, List.set_cons_succ, i64_w, i32_w]
                 rfl
                refine pure_ (i := 16) (N := some 123) (v := undef) (a' := ?_) #[true, true, true, true, true, true, true, true, true, true, true, true, true, true, true, true, true, false, false, false, false, false, false, false] rfl rfl (any_of HT_.out (by kernel_rfl)) (fun _ _ _ h => h) (Or.inr ⟨by rfl, rfl⟩) ?_ ?_
                rotate_left
                ·simp only [Act.put, List.setIfInBounds_toArray, List.set_cons_zero, List.set_cons_succ, i64_w, i32_w]
                 rfl
                refine pure_ (i := 17) (N := some 124) (v := undef) (a' := ?_) #[true, true, true, true, true, true, true, true, true, true, true, true, true, true, true, true, true, true, false, false, false, false, false, false] rfl rfl (any_of HT_.out (by kernel_rfl)) (fun _ _ _ h => h) (Or.inr ⟨by rfl, rfl⟩) ?_ ?_
                rotate_left
                ·simp only [Act.put, List.setIfInBounds_toArray, List.set_cons_zero, List.set_cons_succ, i64_w, i32_w]
                 rfl
                refine pure_ (i := 18) (N := some 125) (v := undef) (a' := ?_) #[true, true, true, true, true, true, true, true, true, true, true, true, true, true, true, true, true, true, true, false, false, false, false, false] rfl rfl (any_of HT_.out (by kernel_rfl)) (fun _ _ _ h => h) (Or.inr ⟨by rfl, rfl⟩) ?_ ?_
                rotate_left
                ·simp only [Act.put, List.setIfInBounds_toArray, List.set_cons_zero, List.set_cons_succ, i64_w, i32_w]
                 rfl
                refine pure_ (i := 19) (N := some 126) (v := undef) (a' := ?_) #[true, true, true, true, true, true, true, true, true, true, true, true, true, true, true, true, true, true, true, true, false, false, false, false] rfl rfl (any_of HT_.out (by kernel_rfl)) (fun _ _ _ h => h) (Or.inr ⟨by rfl, rfl⟩) ?_ ?_
                rotate_left
                ·simp only [Act.put, List.setIfInBounds_toArray, List.set_cons_zero, List.set_cons_succ, i64_w, i32_w]
                 rfl
                refine pure_ (i := 20) (N := some 127) (v := undef) (a' := ?_) #[true, true, true, true, true, true, true, true, true, true, true, true, true, true, true, true, true, true, true, true, true, false, false, false] rfl rfl (any_of HT_.out (by kernel_rfl)) (fun _ _ _ h => h) (Or.inr ⟨by rfl, rfl⟩) ?_ ?_
                rotate_left
                ·simp only [Act.put, List.setIfInBounds_toArray, List.set_cons_zero, List.set_cons_succ, i64_w, i32_w]
                 rfl
                refine pure_ (i := 21) (N := some 128) (v := undef) (a' := ?_) #[true, true, true, true, true, true, true, true, true, true, true, true, true, true, true, true, true, true, true, true, true, true, false, false] rfl rfl (any_of HT_.out (by kernel_rfl)) (fun _ _ _ h => h) (Or.inr ⟨by rfl, rfl⟩) ?_ ?_
                rotate_left
                ·simp only [Act.put, List.setIfInBounds_toArray, List.set_cons_zero, List.set_cons_succ, i64_w, i32_w]
                 rfl
                refine pure_ (i := 22) (N := some 129) (v := undef) (a' := ?_) #[true, true, true, true, true, true, true, true, true, true, true, true, true, true, true, true, true, true, true, true, true, true, true, false] rfl rfl (any_of HT_.out (by kernel_rfl)) (fun _ _ _ h => h) (Or.inr ⟨by rfl, rfl⟩) ?_ ?_
                rotate_left
                ·simp only [Act.put, List.setIfInBounds_toArray, List.set_cons_zero, List.set_cons_succ, i64_w, i32_w]
                 rfl
                refine pure_ (i := 23) (N := some 130) (v := ?_) (a' := ?_) #[true, true, true, true, true, true, true, true, true, true, true, true, true, true, true, true, true, true, true, true, true, true, true, true] rfl rfl (any_of HT_.out (by kernel_rfl)) (fun _ _ _ h => h) (Or.inl ⟨by rfl, ?_⟩) ?_ ?_
                rotate_left
                ·intro w'
                 go_simp
                 with_reducible rfl
                rotate_left
                ·simp only [Act.put, List.setIfInBounds_toArray, List.set_cons_zero, List.set_cons_succ, i64_w, i32_w]
                 rfl
                refine done_ (done_of HT_.out (by kernel_rfl)) ?_
                try go_wp2
                go_meet
                case rel => exact ⟨_, (true), (by first | rfl | (simp; done) | (simp [*]; done)), H', ⟨by have := HJ3.out; have := HJ32.out; have := HK3.out; first | omega | exact Nat.le_refl _⟩, ⟨by (with_reducible repeat (first | apply Kd.S_alloc | apply Kd.S_drewN | apply Kd.S_drew)); exact HO_14.out⟩, ⟨by (with_reducible repeat (first | refine blk_drewN ?_ _ | refine blk_drew ?_ | refine blk_alloc ?_ _)); exact BK765.out⟩, ⟨by (with_reducible repeat (first | refine blk_drewN ?_ _ | refine blk_drew ?_ | refine blk_alloc ?_ _)); exact BK772.out⟩, ⟨by repeat (first | (with_reducible first | exact HB.out | apply below_alloc | apply pw_below_drewN | apply below_drew1 | refine below_set ?_ GE765.out | refine below_set ?_ GE772.out) | exact HB.out)⟩⟩
              ·rw [if_neg c69] at H
               exact absurd H (by simp)
             case rest =>
              clear HC67
              try clear p2
              try clear c4
              try clear c6
              try clear c7
              try clear c8
              try clear p8
              try clear q8
              try clear hx8
              try clear c41
              try clear c69
              try clear c70
              try clear c70b0
              try clear c70b1
              try clear c71
              try clear c71b0
              try clear c73
              try clear c74
              try clear hx802_0
              try clear hx803_0
              try clear hx804_0
              try clear p802
              try clear p804
              try clear q802
              try clear q804
              obtain ⟨kq, x130_66, rfl, HA, HJ66, HO_14, BK765, BK772, HB⟩ := hcut
              cases kq with
              | zero => exact absurd HA.out (by simp [padlocklaw03_PuzzlesHung.j3])
              | succ kj66 =>
               have H := HA.out
               clear HA
               simp only [padlocklaw03_PuzzlesHung.j3] at H
               by_cases c79 : x130_66 = true
               ·subst c79
                have H1 : (some false) = some r := by rw [if_pos rfl] at H; exact H
                clear H
                have H := H1
                clear H1
                obtain rfl := Option.some.inj H
                go_wp2
                go_ret
                exact ⟨by first | rfl | (simp [errW_none, errW_some] <;> rfl) | (simp [*, errW_none, errW_some] <;> rfl), by repeat (first | (with_reducible first | exact HB.out | apply below_alloc | apply pw_below_drewN | apply below_drew1 | refine below_set ?_ GE765.out | refine below_set ?_ GE772.out) | exact HB.out)⟩
               ·replace c79 := Bool.eq_false_iff.mpr c79
                subst c79
                have H1 : (padlocklaw03_PuzzlesHung.l1 kj66 a0 l1 t797 x16_3 0) = some r := by rw [if_neg (show ¬ (false = true) by decide)] at H; exact H
                clear H
                have H := H1
                clear H1
                have H' := Aside0.mk H
                clear H
                go_wp2
                go_loopg [17] kj66 (fun kq v17 w' => ∃ (x17_5 : Int), v17 = .int .i64 x17_5 ∧ Aside0 (padlocklaw03_PuzzlesHung.l1 kq a0 l1 t797 x16_3 x17_5 = some r) ∧ Aside0 (kq ≤ kj66) ∧ Aside0 (Kd.S (Kd.slice 3 (Kd.int .i64)) 22 w' w.heap.size (fun _ => True) (.slice Ao68 t797.length co68) t797) ∧ Aside0 (w'.heap[gb765]? = some (.cells #[.int .i64 a2_0, .int .i64 a2_1, .int .i64 a2_2, .int .i64 a2_3, .bool a2_4] 76 (0, 0))) ∧ Aside0 (w'.heap[gb772]? = some (.cells #[.int .i64 a2_0, .int .i64 a2_1, .int .i64 a2_2, .int .i64 a2_3, .bool (!a2_4)] 76 (0, 0))) ∧ Aside0 (Below w.heap.size w w'))
                case atStart => exact ⟨(0), (by first | rfl | (simp; done) | (simp [*]; done)), H', ⟨Nat.le_refl _⟩, ⟨by (with_reducible repeat (first | apply Kd.S_alloc | apply Kd.S_drewN | apply Kd.S_drew)); exact HO_14.out⟩, ⟨by (with_reducible repeat (first | refine blk_drewN ?_ _ | refine blk_drew ?_ | refine blk_alloc ?_ _)); exact BK765.out⟩, ⟨by (with_reducible repeat (first | refine blk_drewN ?_ _ | refine blk_drew ?_ | refine blk_alloc ?_ _)); exact BK772.out⟩, ⟨by repeat (first | (with_reducible first | exact HB.out | apply below_alloc | apply pw_below_drewN | apply below_drew1 | refine below_set ?_ GE765.out | refine below_set ?_ GE772.out) | exact HB.out)⟩⟩
                case round =>
                 clear H'
                 try clear p2
                 try clear c4
                 try clear c6
                 try clear c7
                 try clear c8
                 try clear p8
                 try clear q8
                 try clear hx8
                 try clear c41
                 try clear c69
                 try clear c70
                 try clear c70b0
                 try clear c70b1
                 try clear c71
                 try clear c71b0
                 try clear c73
                 try clear c74
                 try clear c79
                 try clear hx802_0
                 try clear hx803_0
                 try clear hx804_0
                 try clear p2
                 try clear p8
                 try clear p802
                 try clear p804
                 try clear q8
                 try clear q802
                 try clear q804
                 obtain ⟨x17_5, rfl, HA, HK5, HO_14, BK765, BK772, HB⟩ := hrel
                 cases gk with
                 | zero => exact absurd HA.out (by simp [padlocklaw03_PuzzlesHung.l1])
                 | succ k5 =>
                  have H := HA.out
                  clear HA
                  simp only [padlocklaw03_PuzzlesHung.l1] at H
                  by_cases c80 : x17_5 < a0
                  ·rw [if_pos c80] at H
                   have c80b0 : decide (x17_5 < a0) = true := decide_eq_true c80
                   clear c80
                   by_cases c81 : 0 ≤ x16_3
                   ·rw [if_pos c81] at H
                    have c81b0 : decide (0 ≤ x16_3) = true := decide_eq_true c81
                    clear c81
                    by_cases c82 : x16_3 < (t797.length : Int)
                    ·rw [if_pos c82] at H
                     have c82b0 : decide (x16_3 < (t797.length : Int)) = true := decide_eq_true c82
                     clear c82
                     replace H := Option.bind_eq_some_iff.mp H
                     obtain ⟨t807, A830, H⟩ := H
                     replace H : (if t807 = true then (padlocklaw03_PuzzlesHung.l1 k5 a0 l1 t797 x16_3 (wrap64 (x17_5 + 1))) else (some false)) = some r := H
                     have A83 := Aside0.mk A830
                     clear A830
                     by_cases c84 : t807 = true
                     ·subst c84
                      have H1 : (padlocklaw03_PuzzlesHung.l1 k5 a0 l1 t797 x16_3 (wrap64 (x17_5 + 1))) = some r := by rw [if_pos rfl] at H; exact H
                      clear H
                      have H := H1
                      clear H1
                      have H' := Aside0.mk H
                      clear H
                      have p806 : 0 ≤ (x16_3 : Int) := of_decide_eq_true (by first | (with_reducible assumption) | assumption)
                      have q806 : x16_3 < (t797.length : Int) := of_decide_eq_true (by first | (with_reducible assumption) | assumption)
                      obtain ⟨ad806, A806_0, c806_0, e806, hx806_0, hl806_0, hi806_0⟩ := at_L1 (Kd.S_reads' HO_14.out).2.2 x16_3 p806 q806
                      cases e806
                      obtain ⟨ce806, hce806, hMe806, hcc806⟩ := Kd.S_get HO_14.out [] x16_3 p806 (by first | exact q806 | exact of_decide_eq_true (by first | (with_reducible assumption) | assumption) | (have e_ := (Kd.S_reads' HO_14.out).1; omega))
                      obtain ⟨ve806_0, rfl, ge806_0⟩ := hMe806
                      have hv806_0 := hcc806 0 _ rfl
                      rw [Nat.add_zero, show ((Kd.slice 3 (Kd.int .i64))).sz = 1 from rfl, Nat.mul_one] at hv806_0
                      replace hv806_0 := Option.some.inj (hv806_0.symm.trans hx806_0)
                      rw [hv806_0] at ge806_0
                      have HL806_0 := Aside0.mk (show Kd.R (Kd.int .i64) 3 _ _ _ _ (rd_L1 t797 x16_3) from ge806_0)
                      clear hv806_0 ge806_0
                      clear hcc806 hce806
                      have HR806_0 := Aside0.mk hi806_0
                      have HC806_0 := Aside0.mk hl806_0
                      clear hi806_0 hl806_0
                      replace p806 := eq_true p806
                      replace q806 := eq_true q806
                      go_wp2_with (first | ((with_reducible refine gate_callee (f := 40) rfl ?_); refine goesL_ (some 141) rfl rfl Try.func40 (by kernel_rfl) rfl #[.slice A806_0 (rd_L1 t797 x16_3).length c806_0, .int .i64 x17_5] rfl (by (try simp only [List.map_toArray, List.map_cons, List.map_nil]); first | done | rfl | (simp only [List.length_drop, List.length_take]; rfl)) ?_; (with_reducible refine (padlocklaw03_has.calls k5 _ _ (rd_L1 t797 x16_3) x17_5 true _ ?side1 ?side2 A83.out).mono ?_); (case side1 => repeat (first | exact (by repeat (first | (with_reducible exact HR806_0.out) | (with_reducible refine Kd.C_alloc ?_ _) | (with_reducible refine Kd.C_drewN ?_ _) | (with_reducible refine Kd.C_drew ?_) | exact HR806_0.out)) | (with_reducible refine Kd.C_alloc ?_ _) | (with_reducible refine Kd.C_drewN ?_ _) | (with_reducible refine Kd.C_drew ?_))); (case side2 => exact HC806_0.out); rintro e w' ⟨rfl, ⟨nd, rfl⟩⟩; refine ⟨_, rfl, ?_⟩))
                      go_roundg k5
                      case measure => have := HJ3.out; have := HJ32.out; have := HK3.out; have := HJ66.out; have := HK5.out; omega
                      case rel => exact ⟨(wrap64 (x17_5 + 1)), (by first | rfl | (simp; done) | (simp [*]; done)), H', ⟨by have := HJ3.out; have := HJ32.out; have := HK3.out; have := HJ66.out; have := HK5.out; omega⟩, ⟨by (with_reducible repeat (first | apply Kd.S_alloc | apply Kd.S_drewN | apply Kd.S_drew)); exact HO_14.out⟩, ⟨by (with_reducible repeat (first | refine blk_drewN ?_ _ | refine blk_drew ?_ | refine blk_alloc ?_ _)); exact BK765.out⟩, ⟨by (with_reducible repeat (first | refine blk_drewN ?_ _ | refine blk_drew ?_ | refine blk_alloc ?_ _)); exact BK772.out⟩, ⟨by repeat (first | (with_reducible first | exact HB.out | apply below_alloc | apply pw_below_drewN | apply below_drew1 | refine below_set ?_ GE765.out | refine below_set ?_ GE772.out) | exact HB.out)⟩⟩
                     ·replace c84 := Bool.eq_false_iff.mpr c84
                      subst c84
                      have H1 : (some false) = some r := by rw [if_neg (show ¬ (false = true) by decide)] at H; exact H
                      clear H
                      have H := H1
                      clear H1
                      obtain rfl := Option.some.inj H
                      have p806 : 0 ≤ (x16_3 : Int) := of_decide_eq_true (by first | (with_reducible assumption) | assumption)
                      have q806 : x16_3 < (t797.length : Int) := of_decide_eq_true (by first | (with_reducible assumption) | assumption)
                      obtain ⟨ad806, A806_0, c806_0, e806, hx806_0, hl806_0, hi806_0⟩ := at_L1 (Kd.S_reads' HO_14.out).2.2 x16_3 p806 q806
                      cases e806
                      obtain ⟨ce806, hce806, hMe806, hcc806⟩ := Kd.S_get HO_14.out [] x16_3 p806 (by first | exact q806 | exact of_decide_eq_true (by first | (with_reducible assumption) | assumption) | (have e_ := (Kd.S_reads' HO_14.out).1; omega))
                      obtain ⟨ve806_0, rfl, ge806_0⟩ := hMe806
                      have hv806_0 := hcc806 0 _ rfl
                      rw [Nat.add_zero, show ((Kd.slice 3 (Kd.int .i64))).sz = 1 from rfl, Nat.mul_one] at hv806_0
                      replace hv806_0 := Option.some.inj (hv806_0.symm.trans hx806_0)
                      rw [hv806_0] at ge806_0
                      have HL806_0 := Aside0.mk (show Kd.R (Kd.int .i64) 3 _ _ _ _ (rd_L1 t797 x16_3) from ge806_0)
                      clear hv806_0 ge806_0
                      clear hcc806 hce806
                      have HR806_0 := Aside0.mk hi806_0
                      have HC806_0 := Aside0.mk hl806_0
                      clear hi806_0 hl806_0
                      replace p806 := eq_true p806
                      replace q806 := eq_true q806
                      go_wp2_with (first | ((with_reducible refine gate_callee (f := 40) rfl ?_); refine goesL_ (some 141) rfl rfl Try.func40 (by kernel_rfl) rfl #[.slice A806_0 (rd_L1 t797 x16_3).length c806_0, .int .i64 x17_5] rfl (by (try simp only [List.map_toArray, List.map_cons, List.map_nil]); first | done | rfl | (simp only [List.length_drop, List.length_take]; rfl)) ?_; (with_reducible refine (padlocklaw03_has.calls k5 _ _ (rd_L1 t797 x16_3) x17_5 false _ ?side1 ?side2 A83.out).mono ?_); (case side1 => repeat (first | exact (by repeat (first | (with_reducible exact HR806_0.out) | (with_reducible refine Kd.C_alloc ?_ _) | (with_reducible refine Kd.C_drewN ?_ _) | (with_reducible refine Kd.C_drew ?_) | exact HR806_0.out)) | (with_reducible refine Kd.C_alloc ?_ _) | (with_reducible refine Kd.C_drewN ?_ _) | (with_reducible refine Kd.C_drew ?_))); (case side2 => exact HC806_0.out); rintro e w' ⟨rfl, ⟨nd, rfl⟩⟩; refine ⟨_, rfl, ?_⟩))
                      go_ret
                      exact ⟨by first | rfl | (simp [errW_none, errW_some] <;> rfl) | (simp [*, errW_none, errW_some] <;> rfl), by repeat (first | (with_reducible first | exact HB.out | apply below_alloc | apply pw_below_drewN | apply below_drew1 | refine below_set ?_ GE765.out | refine below_set ?_ GE772.out) | exact HB.out)⟩
                    ·rw [if_neg c82] at H
                     exact absurd H (by simp)
                   ·rw [if_neg c81] at H
                    exact absurd H (by simp)
                  ·rw [if_neg c80] at H
                   have c80b0 : decide (x17_5 < a0) = false := decide_eq_false c80
                   clear c80
                   have H' := Aside0.mk H
                   clear H
                   go_wp2
                   go_loopg [18] k5 (fun kq v18 w' => ∃ (x18_6 : Int), v18 = .int .i64 x18_6 ∧ Aside0 (padlocklaw03_PuzzlesHung.l2 kq a0 l1 t797 x16_3 x18_6 = some r) ∧ Aside0 (kq ≤ k5) ∧ Aside0 (Kd.S (Kd.slice 3 (Kd.int .i64)) 22 w' w.heap.size (fun _ => True) (.slice Ao68 t797.length co68) t797) ∧ Aside0 (w'.heap[gb765]? = some (.cells #[.int .i64 a2_0, .int .i64 a2_1, .int .i64 a2_2, .int .i64 a2_3, .bool a2_4] 76 (0, 0))) ∧ Aside0 (w'.heap[gb772]? = some (.cells #[.int .i64 a2_0, .int .i64 a2_1, .int .i64 a2_2, .int .i64 a2_3, .bool (!a2_4)] 76 (0, 0))) ∧ Aside0 (Below w.heap.size w w'))
                   case atStart => exact ⟨(0), (by first | rfl | (simp; done) | (simp [*]; done)), H', ⟨Nat.le_refl _⟩, ⟨by (with_reducible repeat (first | apply Kd.S_alloc | apply Kd.S_drewN | apply Kd.S_drew)); exact HO_14.out⟩, ⟨by (with_reducible repeat (first | refine blk_drewN ?_ _ | refine blk_drew ?_ | refine blk_alloc ?_ _)); exact BK765.out⟩, ⟨by (with_reducible repeat (first | refine blk_drewN ?_ _ | refine blk_drew ?_ | refine blk_alloc ?_ _)); exact BK772.out⟩, ⟨by repeat (first | (with_reducible first | exact HB.out | apply below_alloc | apply pw_below_drewN | apply below_drew1 | refine below_set ?_ GE765.out | refine below_set ?_ GE772.out) | exact HB.out)⟩⟩
                   case round =>
                    clear H'
                    try clear p2
                    try clear c4
                    try clear c6
                    try clear p6
                    try clear c7
                    try clear c8
                    try clear p8
                    try clear q8
                    try clear hx8
                    try clear c40
                    try clear c41
                    try clear p64
                    try clear c69
                    try clear c70
                    try clear c70b0
                    try clear c70b1
                    try clear c71
                    try clear c71b0
                    try clear c73
                    try clear c74
                    try clear c79
                    try clear c80
                    try clear c80b0
                    try clear p80
                    try clear q80
                    try clear hx80
                    try clear c81
                    try clear c81b0
                    try clear c82
                    try clear c82b0
                    try clear c84
                    try clear hx802_0
                    try clear hx803_0
                    try clear hx804_0
                    try clear hx806_0
                    try clear p2
                    try clear p8
                    try clear p802
                    try clear p804
                    try clear p806
                    try clear q8
                    try clear q802
                    try clear q804
                    try clear q806
                    obtain ⟨x18_6, rfl, HA, HK6, HO_14, BK765, BK772, HB⟩ := hrel
                    cases gk with
                    | zero => exact absurd HA.out (by simp [padlocklaw03_PuzzlesHung.l2])
                    | succ k6 =>
                     have H := HA.out
                     clear HA
                     simp only [padlocklaw03_PuzzlesHung.l2] at H
                     by_cases c85 : x18_6 < (l1.length : Int)
                     ·rw [if_pos c85] at H
                      have c85b0 : decide (x18_6 < (l1.length : Int)) = true := decide_eq_true c85
                      clear c85
                      by_cases c86 : 0 ≤ x18_6
                      ·rw [if_pos c86] at H
                       have c86b0 : decide (0 ≤ x18_6) = true := decide_eq_true c86
                       clear c86
                       by_cases c87 : 0 ≤ x16_3
                       ·rw [if_pos c87] at H
                        have c87b0 : decide (0 ≤ x16_3) = true := decide_eq_true c87
                        clear c87
                        by_cases c88 : x16_3 < (t797.length : Int)
                        ·rw [if_pos c88] at H
                         have c88b0 : decide (x16_3 < (t797.length : Int)) = true := decide_eq_true c88
                         clear c88
                         replace H := Option.bind_eq_some_iff.mp H
                         obtain ⟨t810, A890, H⟩ := H
                         replace H : (if t810 = true then (padlocklaw03_PuzzlesHung.l2 k6 a0 l1 t797 x16_3 (wrap64 (x18_6 + 1))) else (some false)) = some r := H
                         have A89 := Aside0.mk A890
                         clear A890
                         by_cases c90 : t810 = true
                         ·subst c90
                          have H1 : (padlocklaw03_PuzzlesHung.l2 k6 a0 l1 t797 x16_3 (wrap64 (x18_6 + 1))) = some r := by rw [if_pos rfl] at H; exact H
                          clear H
                          have H := H1
                          clear H1
                          have H' := Aside0.mk H
                          clear H
                          try go_wp2
                          have n0_ := Aside0.mk (Kd.S_drew HO_14.out)
                          have n1_ := Aside0.mk (blk_drew BK765.out)
                          have n2_ := Aside0.mk (blk_drew BK772.out)
                          have n3_ := Aside0.mk (below_drew1 HB.out)
                          clear HO_14
                          clear BK765
                          clear BK772
                          clear HB
                          have HO_14 := n0_
                          have BK765 := n1_
                          have BK772 := n2_
                          have HB := n3_
                          clear n0_ n1_ n2_ n3_
                          have p808 : 0 ≤ (x18_6 : Int) := of_decide_eq_true (by first | (with_reducible assumption) | assumption)
                          have q808 : x18_6 < (l1.length : Int) := of_decide_eq_true (by first | (with_reducible assumption) | assumption)
                          obtain ⟨ad808, e808, hx808_0, hx808_1, hx808_2, hx808_3, hx808_4⟩ := at_T76 HR1.out x18_6 p808 q808
                          have hw808_4 := hx808_4
                          have hw808_3 := hx808_3
                          have hw808_2 := hx808_2
                          have hw808_1 := hx808_1
                          have hw808_0 := hx808_0
                          cases e808
                          replace hx808_0 := (HB.out.cell (World.block_lt_of_cell? w _ hx808_0)).trans hx808_0
                          replace hx808_1 := (HB.out.cell (World.block_lt_of_cell? w _ hx808_1)).trans hx808_1
                          replace hx808_2 := (HB.out.cell (World.block_lt_of_cell? w _ hx808_2)).trans hx808_2
                          replace hx808_3 := (HB.out.cell (World.block_lt_of_cell? w _ hx808_3)).trans hx808_3
                          replace hx808_4 := (HB.out.cell (World.block_lt_of_cell? w _ hx808_4)).trans hx808_4
                          replace p808 := eq_true p808
                          replace q808 := eq_true q808
                          have p809 : 0 ≤ (x16_3 : Int) := of_decide_eq_true (by first | (with_reducible assumption) | assumption)
                          have q809 : x16_3 < (t797.length : Int) := of_decide_eq_true (by first | (with_reducible assumption) | assumption)
                          obtain ⟨ad809, A809_0, c809_0, e809, hx809_0, hl809_0, hi809_0⟩ := at_L1 (Kd.S_reads' HO_14.out).2.2 x16_3 p809 q809
                          cases e809
                          obtain ⟨ce809, hce809, hMe809, hcc809⟩ := Kd.S_get HO_14.out [] x16_3 p809 (by first | exact q809 | exact of_decide_eq_true (by first | (with_reducible assumption) | assumption) | (have e_ := (Kd.S_reads' HO_14.out).1; omega))
                          obtain ⟨ve809_0, rfl, ge809_0⟩ := hMe809
                          have hv809_0 := hcc809 0 _ rfl
                          rw [Nat.add_zero, show ((Kd.slice 3 (Kd.int .i64))).sz = 1 from rfl, Nat.mul_one] at hv809_0
                          replace hv809_0 := Option.some.inj (hv809_0.symm.trans hx809_0)
                          rw [hv809_0] at ge809_0
                          have HL809_0 := Aside0.mk (show Kd.R (Kd.int .i64) 3 _ _ _ _ (rd_L1 t797 x16_3) from ge809_0)
                          clear hv809_0 ge809_0
                          clear hcc809 hce809
                          have HR809_0 := Aside0.mk hi809_0
                          have HC809_0 := Aside0.mk hl809_0
                          clear hi809_0 hl809_0
                          replace p809 := eq_true p809
                          replace q809 := eq_true q809
                          refine start_ (n := 10) (S := fun w' => w'.cell? (ad808.add ((x18_6).toNat * 5)) = some (.int .i64 ((rd_T76 l1 x18_6).f0)) ∧ w'.cell? ⟨(ad808.add ((x18_6).toNat * 5)).block, (ad808.add ((x18_6).toNat * 5)).off + 1, none⟩ = some (.int .i64 ((rd_T76 l1 x18_6).f1)) ∧ w'.cell? ⟨(ad808.add ((x18_6).toNat * 5)).block, (ad808.add ((x18_6).toNat * 5)).off + 2, none⟩ = some (.int .i64 ((rd_T76 l1 x18_6).f2)) ∧ w'.cell? ⟨(ad808.add ((x18_6).toNat * 5)).block, (ad808.add ((x18_6).toNat * 5)).off + 3, none⟩ = some (.int .i64 ((rd_T76 l1 x18_6).f3)) ∧ w'.cell? ⟨(ad808.add ((x18_6).toNat * 5)).block, (ad808.add ((x18_6).toNat * 5)).off + 4, none⟩ = some (.bool ((rd_T76 l1 x18_6).f4)) ∧ w'.cell? (ad809.add (x16_3).toNat) = some (.slice A809_0 (rd_L1 t797 x16_3).length c809_0)) (ds := []) #[false, false, false, false, false, false, false, false, false, false] (by kernel_rfl) rfl rfl ⟨((HB.out.cell (World.block_lt_of_cell? w _ hw808_0)).trans hw808_0), ((HB.out.cell (World.block_lt_of_cell? w _ hw808_1)).trans hw808_1), ((HB.out.cell (World.block_lt_of_cell? w _ hw808_2)).trans hw808_2), ((HB.out.cell (World.block_lt_of_cell? w _ hw808_3)).trans hw808_3), ((HB.out.cell (World.block_lt_of_cell? w _ hw808_4)).trans hw808_4), hx809_0⟩ (fun hHeld => ?_); refine with_tabW padlocklaw03_PuzzlesHung.tab24 padlocklaw03_PuzzlesHung.bits24 (fun HT_ HW_ => ?_)
                          generalize wr.drew = w91 at HO_14 BK765 BK772 HB HL809_0 HR809_0 hx808_0 hx808_1 hx808_2 hx808_3 hx808_4 hx809_0 hHeld ⊢
                          refine pure_ (i := 0) (N := some 149) (v := ?_) (a' := ?_) #[true, false, false, false, false, false, false, false, false, false] rfl rfl (any_of HT_.out (by kernel_rfl)) (fun _ _ _ h => h) (Or.inl ⟨by rfl, ?_⟩) ?_ ?_
                          rotate_left
                          ·intro w'
                           go_simp
                           with_reducible rfl
                          rotate_left
                          ·simp only [Act.put, List.setIfInBounds_toArray, List.set_cons_zero, List.set_cons_succ, i64_w, i32_w]
                           rfl
                          refine pure_ (i := 1) (N := some 150) (v := ?_) (a' := ?_) #[true, true, false, false, false, false, false, false, false, false] rfl rfl (any_of HT_.out (by kernel_rfl)) (fun _ _ _ h => h) (Or.inl ⟨by rfl, ?_⟩) ?_ ?_
                          rotate_left
                          ·intro w'
                           go_simp
                           with_reducible rfl
                          rotate_left
                          ·simp only [Act.put, List.setIfInBounds_toArray, List.set_cons_zero, List.set_cons_succ, i64_w, i32_w]
                           rfl
                          refine pure_ (i := 2) (N := some 151) (v := ?_) (a' := ?_) #[true, true, true, false, false, false, false, false, false, false] rfl rfl (any_of HT_.out (by kernel_rfl)) (fun _ _ _ h => h) (Or.inl ⟨by rfl, ?_⟩) ?_ ?_
                          rotate_left
                          ·intro w'
                           go_simp
                           with_reducible rfl
                          rotate_left
                          ·simp only [Act.put, List.setIfInBounds_toArray, List.set_cons_zero, List.set_cons_succ, i64_w, i32_w]
                           rfl
                          refine pure_ (i := 4) (N := some 153) (v := ?_) (a' := ?_) #[true, true, true, false, true, false, false, false, false, false] rfl rfl (any_of HT_.out (by kernel_rfl)) (fun _ _ _ h => h) (Or.inl ⟨by rfl, ?_⟩) ?_ ?_
                          rotate_left
                          ·intro w'
                           go_simp
                           with_reducible rfl
                          rotate_left
                          ·simp only [Act.put, List.setIfInBounds_toArray, List.set_cons_zero, List.set_cons_succ, i64_w, i32_w]
                           rfl
                          refine pure_ (i := 5) (N := some 154) (v := ?_) (a' := ?_) #[true, true, true, false, true, true, false, false, false, false] rfl rfl (any_of HT_.out (by kernel_rfl)) (fun _ _ _ h => h) (Or.inl ⟨by rfl, ?_⟩) ?_ ?_
                          rotate_left
                          ·intro w'
                           go_simp
                           with_reducible rfl
                          rotate_left
                          ·simp only [Act.put, List.setIfInBounds_toArray, List.set_cons_zero, List.set_cons_succ, i64_w, i32_w]
                           rfl
                          refine pure_ (i := 6) (N := some 155) (v := ?_) (a' := ?_) #[true, true, true, false, true, true, true, false, false, false] rfl rfl (any_of HT_.out (by kernel_rfl)) (fun _ _ _ h => h) (Or.inl ⟨by rfl, ?_⟩) ?_ ?_
                          rotate_left
                          ·intro w'
                           go_simp
                           with_reducible rfl
                          rotate_left
                          ·simp only [Act.put, List.setIfInBounds_toArray, List.set_cons_zero, List.set_cons_succ, i64_w, i32_w]
                           rfl
                          refine take_ (i := 3) (N := some 152) (v := ?_) (a' := ?_) #[true, true, true, true, true, true, true, false, false, false] rfl rfl (take_ofW HT_.out HW_.out (by kernel_rfl)) (fun _ _ _ h => h) (Or.inl ⟨by rfl, ?_⟩) hHeld ?_ ?_
                          rotate_left
                          ·rintro w' ⟨s0, s1, s2, s3, s4, s5⟩
                           go_simp
                           with_reducible rfl
                          rotate_left
                          ·simp only [Act.put, List.setIfInBounds_toArray, List.set_cons_zero, List.set_cons_succ, i64_w, i32_w]
                           rfl
                          refine take_ (i := 7) (N := some 156) (v := ?_) (a' := ?_) #[true, true, true, true, true, true, true, true, false, false] rfl rfl (take_ofW HT_.out HW_.out (by kernel_rfl)) (fun _ _ _ h => h) (Or.inl ⟨by rfl, ?_⟩) hHeld ?_ ?_
                          rotate_left
                          ·rintro w' ⟨s0, s1, s2, s3, s4, s5⟩
                           go_simp
                           with_reducible rfl
                          rotate_left
                          ·simp only [Act.put, List.setIfInBounds_toArray, List.set_cons_zero, List.set_cons_succ, i64_w, i32_w]
                           rfl
                          refine one_ (i := 8) (N := some 157) #[true, true, true, true, true, true, true, true, true, false] rfl rfl (one_of HT_.out (by kernel_rfl)) (by decide) (fun K hK => ?_)
                          refine goes_ Try.func59 (by kernel_rfl) rfl #[.agg #[.int .i64 ((rd_T76 l1 x18_6).f0), .int .i64 ((rd_T76 l1 x18_6).f1), .int .i64 ((rd_T76 l1 x18_6).f2), .int .i64 ((rd_T76 l1 x18_6).f3), .bool ((rd_T76 l1 x18_6).f4)], .slice A809_0 (rd_L1 t797 x16_3).length c809_0] (by rfl) rfl rfl (by (try simp only [List.map_toArray, List.map_cons, List.map_nil]); first | done | rfl | (simp only [List.length_drop, List.length_take]; rfl)) ?_
                          with_reducible refine (padlockref03_True.calls k6 ((rd_T76 l1 x18_6).f0) ((rd_T76 l1 x18_6).f1) ((rd_T76 l1 x18_6).f2) ((rd_T76 l1 x18_6).f3) ((rd_T76 l1 x18_6).f4) _ _ (rd_L1 t797 x16_3) true _ ?side1 ?side2 A89.out).mono ?_
                          (case side1 => repeat (first | exact (by repeat (first | (with_reducible exact HR809_0.out) | (with_reducible refine Kd.C_alloc ?_ _) | (with_reducible refine Kd.C_drewN ?_ _) | (with_reducible refine Kd.C_drew ?_) | exact HR809_0.out)) | (with_reducible refine Kd.C_alloc ?_ _) | (with_reducible refine Kd.C_drewN ?_ _) | (with_reducible refine Kd.C_drew ?_)))
                          (case side2 => exact HC809_0.out)
                          rintro e w92 ⟨rfl, hb⟩
                          have HS5_ := (hb.cell (World.block_lt_of_cell? _ _ (hHeld.2.2.2.2.2))).trans (hHeld.2.2.2.2.2)
                          refine ⟨_, rfl, ?_⟩
                          have n0_ := Aside0.mk (Kd.S_below (by (with_reducible repeat (first | apply Kd.S_alloc | apply Kd.S_drewN | apply Kd.S_drew)); exact HO_14.out) hb)
                          have n1_ := Aside0.mk (Kd.R_below (by (with_reducible repeat (first | apply Kd.R_alloc | apply Kd.R_drewN | apply Kd.R_drew)); exact HL809_0.out) hb)
                          have n2_ := Aside0.mk (blk_below (g := gb765) (o := .cells #[.int .i64 a2_0, .int .i64 a2_1, .int .i64 a2_2, .int .i64 a2_3, .bool a2_4] 76 (0, 0)) (by (with_reducible repeat (first | refine blk_drewN ?_ _ | refine blk_drew ?_ | refine blk_alloc ?_ _)); exact BK765.out) hb)
                          have n3_ := Aside0.mk (blk_below (g := gb772) (o := .cells #[.int .i64 a2_0, .int .i64 a2_1, .int .i64 a2_2, .int .i64 a2_3, .bool (!a2_4)] 76 (0, 0)) (by (with_reducible repeat (first | refine blk_drewN ?_ _ | refine blk_drew ?_ | refine blk_alloc ?_ _)); exact BK772.out) hb)
                          have n4_ := Aside0.mk (Kd.C_below (by repeat (first | (with_reducible exact HR809_0.out) | (with_reducible refine Kd.C_alloc ?_ _) | (with_reducible refine Kd.C_drewN ?_ _) | (with_reducible refine Kd.C_drew ?_) | exact HR809_0.out)) hb)
                          have n5_ := Aside0.mk (below_step (by repeat (first | (with_reducible first | exact HB.out | apply below_alloc | apply pw_below_drewN | apply below_drew1 | refine below_set ?_ GE765.out | refine below_set ?_ GE772.out) | exact HB.out)) hb)
                          clear HO_14
                          clear HL809_0
                          clear BK765
                          clear BK772
                          clear HR809_0
                          clear HB
                          have HO_14 := n0_
                          have HL809_0 := n1_
                          have BK765 := n2_
                          have BK772 := n3_
                          have HR809_0 := n4_
                          have HB := n5_
                          clear n0_ n1_ n2_ n3_ n4_ n5_
                          (try clear hb)
                          (try clear hb2)
                          (try clear hk)
                          (try clear hi)
                          refine hK.out _ _ ⟨((HB.out.cell (World.block_lt_of_cell? w _ hw808_0)).trans hw808_0), ((HB.out.cell (World.block_lt_of_cell? w _ hw808_1)).trans hw808_1), ((HB.out.cell (World.block_lt_of_cell? w _ hw808_2)).trans hw808_2), ((HB.out.cell (World.block_lt_of_cell? w _ hw808_3)).trans hw808_3), ((HB.out.cell (World.block_lt_of_cell? w _ hw808_4)).trans hw808_4), HS5_⟩ (fun hHeld => ?_)
                          clear hK K
                          refine norm_ (a' := ?_) ?_ ?_
                          rotate_left
                          ·show Act.put _ (some 157) _ = _
                           simp only [Act.put, List.setIfInBounds_toArray, List.set_cons_zero, List.set_cons_succ, i64_w, i32_w]
                           rfl
                          refine pure_ (i := 9) (N := some 158) (v := ?_) (a' := ?_) #[true, true, true, true, true, true, true, true, true, true] rfl rfl (any_of HT_.out (by kernel_rfl)) (fun _ _ _ h => h) (Or.inl ⟨by rfl, ?_⟩) ?_ ?_
                          rotate_left
                          ·intro w'
                           go_simp
                           with_reducible rfl
                          rotate_left
                          ·simp only [Act.put, List.setIfInBounds_toArray, List.set_cons_zero, List.set_cons_succ, i64_w, i32_w]
                           rfl
                          refine done_ (done_of HT_.out (by kernel_rfl)) ?_
                          try go_wp2
                          go_roundg k6
                          case measure => have := HJ3.out; have := HJ32.out; have := HK3.out; have := HJ66.out; have := HK5.out; have := HK6.out; omega
                          case rel => exact ⟨(wrap64 (x18_6 + 1)), (by first | rfl | (simp; done) | (simp [*]; done)), H', ⟨by have := HJ3.out; have := HJ32.out; have := HK3.out; have := HJ66.out; have := HK5.out; have := HK6.out; omega⟩, ⟨by (with_reducible repeat (first | apply Kd.S_alloc | apply Kd.S_drewN | apply Kd.S_drew)); exact HO_14.out⟩, ⟨by (with_reducible repeat (first | refine blk_drewN ?_ _ | refine blk_drew ?_ | refine blk_alloc ?_ _)); exact BK765.out⟩, ⟨by (with_reducible repeat (first | refine blk_drewN ?_ _ | refine blk_drew ?_ | refine blk_alloc ?_ _)); exact BK772.out⟩, ⟨by repeat (first | (with_reducible first | exact HB.out | apply below_alloc | apply pw_below_drewN | apply below_drew1 | refine below_set ?_ GE765.out | refine below_set ?_ GE772.out) | exact HB.out)⟩⟩
                         ·replace c90 := Bool.eq_false_iff.mpr c90
                          subst c90
                          have H1 : (some false) = some r := by rw [if_neg (show ¬ (false = true) by decide)] at H; exact H
                          clear H
                          have H := H1
                          clear H1
                          obtain rfl := Option.some.inj H
                          try go_wp2
                          have n0_ := Aside0.mk (Kd.S_drew HO_14.out)
                          have n1_ := Aside0.mk (blk_drew BK765.out)
                          have n2_ := Aside0.mk (blk_drew BK772.out)
                          have n3_ := Aside0.mk (below_drew1 HB.out)
                          clear HO_14
                          clear BK765
                          clear BK772
                          clear HB
                          have HO_14 := n0_
                          have BK765 := n1_
                          have BK772 := n2_
                          have HB := n3_
                          clear n0_ n1_ n2_ n3_
                          have p808 : 0 ≤ (x18_6 : Int) := of_decide_eq_true (by first | (with_reducible assumption) | assumption)
                          have q808 : x18_6 < (l1.length : Int) := of_decide_eq_true (by first | (with_reducible assumption) | assumption)
                          obtain ⟨ad808, e808, hx808_0, hx808_1, hx808_2, hx808_3, hx808_4⟩ := at_T76 HR1.out x18_6 p808 q808
                          have hw808_4 := hx808_4
                          have hw808_3 := hx808_3
                          have hw808_2 := hx808_2
                          have hw808_1 := hx808_1
                          have hw808_0 := hx808_0
                          cases e808
                          replace hx808_0 := (HB.out.cell (World.block_lt_of_cell? w _ hx808_0)).trans hx808_0
                          replace hx808_1 := (HB.out.cell (World.block_lt_of_cell? w _ hx808_1)).trans hx808_1
                          replace hx808_2 := (HB.out.cell (World.block_lt_of_cell? w _ hx808_2)).trans hx808_2
                          replace hx808_3 := (HB.out.cell (World.block_lt_of_cell? w _ hx808_3)).trans hx808_3
                          replace hx808_4 := (HB.out.cell (World.block_lt_of_cell? w _ hx808_4)).trans hx808_4
                          replace p808 := eq_true p808
                          replace q808 := eq_true q808
                          have p809 : 0 ≤ (x16_3 : Int) := of_decide_eq_true (by first | (with_reducible assumption) | assumption)
                          have q809 : x16_3 < (t797.length : Int) := of_decide_eq_true (by first | (with_reducible assumption) | assumption)
                          obtain ⟨ad809, A809_0, c809_0, e809, hx809_0, hl809_0, hi809_0⟩ := at_L1 (Kd.S_reads' HO_14.out).2.2 x16_3 p809 q809
                          cases e809
                          obtain ⟨ce809, hce809, hMe809, hcc809⟩ := Kd.S_get HO_14.out [] x16_3 p809 (by first | exact q809 | exact of_decide_eq_true (by first | (with_reducible assumption) | assumption) | (have e_ := (Kd.S_reads' HO_14.out).1; omega))
                          obtain ⟨ve809_0, rfl, ge809_0⟩ := hMe809
                          have hv809_0 := hcc809 0 _ rfl
                          rw [Nat.add_zero, show ((Kd.slice 3 (Kd.int .i64))).sz = 1 from rfl, Nat.mul_one] at hv809_0
                          replace hv809_0 := Option.some.inj (hv809_0.symm.trans hx809_0)
                          rw [hv809_0] at ge809_0
                          have HL809_0 := Aside0.mk (show Kd.R (Kd.int .i64) 3 _ _ _ _ (rd_L1 t797 x16_3) from ge809_0)
                          clear hv809_0 ge809_0
                          clear hcc809 hce809
                          have HR809_0 := Aside0.mk hi809_0
                          have HC809_0 := Aside0.mk hl809_0
                          clear hi809_0 hl809_0
                          replace p809 := eq_true p809
                          replace q809 := eq_true q809
                          refine start_ (n := 10) (S := fun w' => w'.cell? (ad808.add ((x18_6).toNat * 5)) = some (.int .i64 ((rd_T76 l1 x18_6).f0)) ∧ w'.cell? ⟨(ad808.add ((x18_6).toNat * 5)).block, (ad808.add ((x18_6).toNat * 5)).off + 1, none⟩ = some (.int .i64 ((rd_T76 l1 x18_6).f1)) ∧ w'.cell? ⟨(ad808.add ((x18_6).toNat * 5)).block, (ad808.add ((x18_6).toNat * 5)).off + 2, none⟩ = some (.int .i64 ((rd_T76 l1 x18_6).f2)) ∧ w'.cell? ⟨(ad808.add ((x18_6).toNat * 5)).block, (ad808.add ((x18_6).toNat * 5)).off + 3, none⟩ = some (.int .i64 ((rd_T76 l1 x18_6).f3)) ∧ w'.cell? ⟨(ad808.add ((x18_6).toNat * 5)).block, (ad808.add ((x18_6).toNat * 5)).off + 4, none⟩ = some (.bool ((rd_T76 l1 x18_6).f4)) ∧ w'.cell? (ad809.add (x16_3).toNat) = some (.slice A809_0 (rd_L1 t797 x16_3).length c809_0)) (ds := []) #[false, false, false, false, false, false, false, false, false, false] (by kernel_rfl) rfl rfl ⟨((HB.out.cell (World.block_lt_of_cell? w _ hw808_0)).trans hw808_0), ((HB.out.cell (World.block_lt_of_cell? w _ hw808_1)).trans hw808_1), ((HB.out.cell (World.block_lt_of_cell? w _ hw808_2)).trans hw808_2), ((HB.out.cell (World.block_lt_of_cell? w _ hw808_3)).trans hw808_3), ((HB.out.cell (World.block_lt_of_cell? w _ hw808_4)).trans hw808_4), hx809_0⟩ (fun hHeld => ?_); refine with_tabW padlocklaw03_PuzzlesHung.tab24 padlocklaw03_PuzzlesHung.bits24 (fun HT_ HW_ => ?_)
                          generalize wr.drew = w93 at HO_14 BK765 BK772 HB HL809_0 HR809_0 hx808_0 hx808_1 hx808_2 hx808_3 hx808_4 hx809_0 hHeld ⊢
                          refine pure_ (i := 0) (N := some 149) (v := ?_) (a' := ?_) #[true, false, false, false, false, false, false, false, false, false] rfl rfl (any_of HT_.out (by kernel_rfl)) (fun _ _ _ h => h) (Or.inl ⟨by rfl, ?_⟩) ?_ ?_
                          rotate_left
                          ·intro w'
                           go_simp
                           with_reducible rfl
                          rotate_left
                          ·simp only [Act.put, List.setIfInBounds_toArray, List.set_cons_zero, List.set_cons_succ, i64_w, i32_w]
                           rfl
                          refine pure_ (i := 1) (N := some 150) (v := ?_) (a' := ?_) #[true, true, false, false, false, false, false, false, false, false] rfl rfl (any_of HT_.out (by kernel_rfl)) (fun _ _ _ h => h) (Or.inl ⟨by rfl, ?_⟩) ?_ ?_
                          rotate_left
                          ·intro w'
                           go_simp
                           with_reducible rfl
                          rotate_left
                          ·simp only [Act.put, List.setIfInBounds_toArray, List.set_cons_zero, List.set_cons_succ, i64_w, i32_w]
                           rfl
                          refine pure_ (i := 2) (N := some 151) (v := ?_) (a' := ?_) #[true, true, true, false, false, false, false, false, false, false] rfl rfl (any_of HT_.out (by kernel_rfl)) (fun _ _ _ h => h) (Or.inl ⟨by rfl, ?_⟩) ?_ ?_
                          rotate_left
                          ·intro w'
                           go_simp
                           with_reducible rfl
                          rotate_left
                          ·simp only [Act.put, List.setIfInBounds_toArray, List.set_cons_zero, List.set_cons_succ, i64_w, i32_w]
                           rfl
                          refine pure_ (i := 4) (N := some 153) (v := ?_) (a' := ?_) #[true, true, true, false, true, false, false, false, false, false] rfl rfl (any_of HT_.out (by kernel_rfl)) (fun _ _ _ h => h) (Or.inl ⟨by rfl, ?_⟩) ?_ ?_
                          rotate_left
                          ·intro w'
                           go_simp
                           with_reducible rfl
                          rotate_left
                          ·simp only [Act.put, List.setIfInBounds_toArray, List.set_cons_zero, List.set_cons_succ, i64_w, i32_w]
                           rfl
                          refine pure_ (i := 5) (N := some 154) (v := ?_) (a' := ?_) #[true, true, true, false, true, true, false, false, false, false] rfl rfl (any_of HT_.out (by kernel_rfl)) (fun _ _ _ h => h) (Or.inl ⟨by rfl, ?_⟩) ?_ ?_
                          rotate_left
                          ·intro w'
                           go_simp
                           with_reducible rfl
                          rotate_left
                          ·simp only [Act.put, List.setIfInBounds_toArray, List.set_cons_zero, List.set_cons_succ, i64_w, i32_w]
                           rfl
                          refine pure_ (i := 6) (N := some 155) (v := ?_) (a' := ?_) #[true, true, true, false, true, true, true, false, false, false] rfl rfl (any_of HT_.out (by kernel_rfl)) (fun _ _ _ h => h) (Or.inl ⟨by rfl, ?_⟩) ?_ ?_
                          rotate_left
                          ·intro w'
                           go_simp
                           with_reducible rfl
                          rotate_left
                          ·simp only [Act.put, List.setIfInBounds_toArray, List.set_cons_zero, List.set_cons_succ, i64_w, i32_w]
                           rfl
                          refine take_ (i := 3) (N := some 152) (v := ?_) (a' := ?_) #[true, true, true, true, true, true, true, false, false, false] rfl rfl (take_ofW HT_.out HW_.out (by kernel_rfl)) (fun _ _ _ h => h) (Or.inl ⟨by rfl, ?_⟩) hHeld ?_ ?_
                          rotate_left
                          ·rintro w' ⟨s0, s1, s2, s3, s4, s5⟩
                           go_simp
                           with_reducible rfl
                          rotate_left
                          ·simp only [Act.put, List.setIfInBounds_toArray, List.set_cons_zero, List.set_cons_succ, i64_w, i32_w]
                           rfl
                          refine take_ (i := 7) (N := some 156) (v := ?_) (a' := ?_) #[true, true, true, true, true, true, true, true, false, false] rfl rfl (take_ofW HT_.out HW_.out (by kernel_rfl)) (fun _ _ _ h => h) (Or.inl ⟨by rfl, ?_⟩) hHeld ?_ ?_
                          rotate_left
                          ·rintro w' ⟨s0, s1, s2, s3, s4, s5⟩
                           go_simp
                           with_reducible rfl
                          rotate_left
                          ·simp only [Act.put, List.setIfInBounds_toArray, List.set_cons_zero, List.set_cons_succ, i64_w, i32_w]
                           rfl
                          refine one_ (i := 8) (N := some 157) #[true, true, true, true, true, true, true, true, true, false] rfl rfl (one_of HT_.out (by kernel_rfl)) (by decide) (fun K hK => ?_)
                          refine goes_ Try.func59 (by kernel_rfl) rfl #[.agg #[.int .i64 ((rd_T76 l1 x18_6).f0), .int .i64 ((rd_T76 l1 x18_6).f1), .int .i64 ((rd_T76 l1 x18_6).f2), .int .i64 ((rd_T76 l1 x18_6).f3), .bool ((rd_T76 l1 x18_6).f4)], .slice A809_0 (rd_L1 t797 x16_3).length c809_0] (by rfl) rfl rfl (by (try simp only [List.map_toArray, List.map_cons, List.map_nil]); first | done | rfl | (simp only [List.length_drop, List.length_take]; rfl)) ?_
                          with_reducible refine (padlockref03_True.calls k6 ((rd_T76 l1 x18_6).f0) ((rd_T76 l1 x18_6).f1) ((rd_T76 l1 x18_6).f2) ((rd_T76 l1 x18_6).f3) ((rd_T76 l1 x18_6).f4) _ _ (rd_L1 t797 x16_3) false _ ?side1 ?side2 A89.out).mono ?_
                          (case side1 => repeat (first | exact (by repeat (first | (with_reducible exact HR809_0.out) | (with_reducible refine Kd.C_alloc ?_ _) | (with_reducible refine Kd.C_drewN ?_ _) | (with_reducible refine Kd.C_drew ?_) | exact HR809_0.out)) | (with_reducible refine Kd.C_alloc ?_ _) | (with_reducible refine Kd.C_drewN ?_ _) | (with_reducible refine Kd.C_drew ?_)))
                          (case side2 => exact HC809_0.out)
                          rintro e w94 ⟨rfl, hb⟩
                          have HS5_ := (hb.cell (World.block_lt_of_cell? _ _ (hHeld.2.2.2.2.2))).trans (hHeld.2.2.2.2.2)
                          refine ⟨_, rfl, ?_⟩
                          have n0_ := Aside0.mk (Kd.S_below (by (with_reducible repeat (first | apply Kd.S_alloc | apply Kd.S_drewN | apply Kd.S_drew)); exact HO_14.out) hb)
                          have n1_ := Aside0.mk (Kd.R_below (by (with_reducible repeat (first | apply Kd.R_alloc | apply Kd.R_drewN | apply Kd.R_drew)); exact HL809_0.out) hb)
                          have n2_ := Aside0.mk (blk_below (g := gb765) (o := .cells #[.int .i64 a2_0, .int .i64 a2_1, .int .i64 a2_2, .int .i64 a2_3, .bool a2_4] 76 (0, 0)) (by (with_reducible repeat (first | refine blk_drewN ?_ _ | refine blk_drew ?_ | refine blk_alloc ?_ _)); exact BK765.out) hb)
                          have n3_ := Aside0.mk (blk_below (g := gb772) (o := .cells #[.int .i64 a2_0, .int .i64 a2_1, .int .i64 a2_2, .int .i64 a2_3, .bool (!a2_4)] 76 (0, 0)) (by (with_reducible repeat (first | refine blk_drewN ?_ _ | refine blk_drew ?_ | refine blk_alloc ?_ _)); exact BK772.out) hb)
                          have n4_ := Aside0.mk (Kd.C_below (by repeat (first | (with_reducible exact HR809_0.out) | (with_reducible refine Kd.C_alloc ?_ _) | (with_reducible refine Kd.C_drewN ?_ _) | (with_reducible refine Kd.C_drew ?_) | exact HR809_0.out)) hb)
                          have n5_ := Aside0.mk (below_step (by repeat (first | (with_reducible first | exact HB.out | apply below_alloc | apply pw_below_drewN | apply below_drew1 | refine below_set ?_ GE765.out | refine below_set ?_ GE772.out) | exact HB.out)) hb)
                          clear HO_14
                          clear HL809_0
                          clear BK765
                          clear BK772
                          clear HR809_0
                          clear HB
                          have HO_14 := n0_
                          have HL809_0 := n1_
                          have BK765 := n2_
                          have BK772 := n3_
                          have HR809_0 := n4_
                          have HB := n5_
                          clear n0_ n1_ n2_ n3_ n4_ n5_
                          (try clear hb)
                          (try clear hb2)
                          (try clear hk)
                          (try clear hi)
                          refine hK.out _ _ ⟨((HB.out.cell (World.block_lt_of_cell? w _ hw808_0)).trans hw808_0), ((HB.out.cell (World.block_lt_of_cell? w _ hw808_1)).trans hw808_1), ((HB.out.cell (World.block_lt_of_cell? w _ hw808_2)).trans hw808_2), ((HB.out.cell (World.block_lt_of_cell? w _ hw808_3)).trans hw808_3), ((HB.out.cell (World.block_lt_of_cell? w _ hw808_4)).trans hw808_4), HS5_⟩ (fun hHeld => ?_)
                          clear hK K
                          refine norm_ (a' := ?_) ?_ ?_
                          rotate_left
                          ·show Act.put _ (some 157) _ = _
                           simp only [Act.put, List.setIfInBounds_toArray, List.set_cons_zero, List.set_cons_succ, i64_w, i32_w]
                           rfl
                          refine pure_ (i := 9) (N := some 158) (v := ?_) (a' := ?_) #[true, true, true, true, true, true, true, true, true, true] rfl rfl (any_of HT_.out (by kernel_rfl)) (fun _ _ _ h => h) (Or.inl ⟨by rfl, ?_⟩) ?_ ?_
                          rotate_left
                          ·intro w'
                           go_simp
                           with_reducible rfl
                          rotate_left
                          ·simp only [Act.put, List.setIfInBounds_toArray, List.set_cons_zero, List.set_cons_succ, i64_w, i32_w]
                           rfl
                          refine done_ (done_of HT_.out (by kernel_rfl)) ?_
                          try go_wp2
                          go_ret
                          exact ⟨by first | rfl | (simp [errW_none, errW_some] <;> rfl) | (simp [*, errW_none, errW_some] <;> rfl), by repeat (first | (with_reducible first | exact HB.out | apply below_alloc | apply pw_below_drewN | apply below_drew1 | refine below_set ?_ GE765.out | refine below_set ?_ GE772.out) | exact HB.out)⟩
                        ·rw [if_neg c88] at H
                         exact absurd H (by simp)
                       ·rw [if_neg c87] at H
                        exact absurd H (by simp)
                      ·rw [if_neg c86] at H
                       exact absurd H (by simp)
                     ·rw [if_neg c85] at H
                      have c85b0 : decide (x18_6 < (l1.length : Int)) = false := decide_eq_false c85
                      clear c85
                      have H' := Aside0.mk H
                      clear H
                      go_wp2
                      go_roundg k6
                      case measure => have := HJ3.out; have := HJ32.out; have := HK3.out; have := HJ66.out; have := HK5.out; have := HK6.out; omega
                      case rel => exact ⟨(wrap64 (x16_3 + 1)), (by first | rfl | (simp; done) | (simp [*]; done)), H', ⟨by have := HJ3.out; have := HJ32.out; have := HK3.out; have := HJ66.out; have := HK5.out; have := HK6.out; omega⟩, ⟨by (with_reducible repeat (first | apply Kd.S_alloc | apply Kd.S_drewN | apply Kd.S_drew)); exact HO_14.out⟩, ⟨by (with_reducible repeat (first | refine blk_drewN ?_ _ | refine blk_drew ?_ | refine blk_alloc ?_ _)); exact BK765.out⟩, ⟨by (with_reducible repeat (first | refine blk_drewN ?_ _ | refine blk_drew ?_ | refine blk_alloc ?_ _)); exact BK772.out⟩, ⟨by repeat (first | (with_reducible first | exact HB.out | apply below_alloc | apply pw_below_drewN | apply below_drew1 | refine below_set ?_ GE765.out | refine below_set ?_ GE772.out) | exact HB.out)⟩⟩
            ·rw [if_neg c66] at H
             have c66b0 : decide (x16_3 < (t797.length : Int)) = false := decide_eq_false c66
             clear c66
             replace H := Option.bind_eq_some_iff.mp H
             obtain ⟨t801, A950, H⟩ := H
             replace H : (some t801) = some r := H
             have A95 := Aside0.mk A950
             clear A950
             obtain rfl := Option.some.inj H
             obtain ⟨Ao96, co96, eo96⟩ := Kd.S_slice HO_14.out
             subst eo96
             go_wp2_with (first | ((with_reducible refine gate_callee (f := 21) rfl ?_); refine goesL_ (some 159) rfl rfl Try.func21 (by kernel_rfl) rfl #[] rfl (by (try simp only [List.map_toArray, List.map_cons, List.map_nil]); first | done | rfl | (simp only [List.length_drop, List.length_take]; rfl)) ?_; (with_reducible refine (padlocklaw03_works.calls k3  t801 _ A95.out).mono ?_); rintro e w97 ⟨rfl, hb⟩; refine ⟨_, rfl, ?_⟩; have n0_ := Aside0.mk (Kd.S_below (by (with_reducible repeat (first | apply Kd.S_alloc | apply Kd.S_drewN | apply Kd.S_drew)); exact HO_14.out) hb); have n1_ := Aside0.mk (blk_below (g := gb765) (o := .cells #[.int .i64 a2_0, .int .i64 a2_1, .int .i64 a2_2, .int .i64 a2_3, .bool a2_4] 76 (0, 0)) (by (with_reducible repeat (first | refine blk_drewN ?_ _ | refine blk_drew ?_ | refine blk_alloc ?_ _)); exact BK765.out) hb); have n2_ := Aside0.mk (blk_below (g := gb772) (o := .cells #[.int .i64 a2_0, .int .i64 a2_1, .int .i64 a2_2, .int .i64 a2_3, .bool (!a2_4)] 76 (0, 0)) (by (with_reducible repeat (first | refine blk_drewN ?_ _ | refine blk_drew ?_ | refine blk_alloc ?_ _)); exact BK772.out) hb); have n3_ := Aside0.mk (below_step (by repeat (first | (with_reducible first | exact HB.out | apply below_alloc | apply pw_below_drewN | apply below_drew1 | refine below_set ?_ GE765.out | refine below_set ?_ GE772.out) | exact HB.out)) hb); clear HO_14; clear BK765; clear BK772; clear HB; have HO_14 := n0_; have BK765 := n1_; have BK772 := n2_; have HB := n3_; clear n0_ n1_ n2_ n3_; (try clear hb); (try clear hb2); (try clear hk); (try clear hi)))
             go_ret
             exact ⟨by first | rfl | (simp [errW_none, errW_some] <;> rfl) | (simp [*, errW_none, errW_some] <;> rfl), by repeat (first | (with_reducible first | exact HB.out | apply below_alloc | apply pw_below_drewN | apply below_drew1 | refine below_set ?_ GE765.out | refine below_set ?_ GE772.out) | exact HB.out)⟩
      ·rw [if_neg c30] at H
       exact absurd H (by simp)
     ·rw [if_neg c28] at H
      exact absurd H (by simp)
    ·rw [if_neg c27] at H
     exact absurd H (by simp)

end Go.Proofs.Ytdhiijleafcfcaa.T
