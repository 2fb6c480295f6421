/- Grids, in plain numbers: the cell beside another one. -/
import Derived.Test.YtdhiijleafcfcaaT0
import Derived.Test.YtdhiijleafcfcaaP0
import Derived.Test.YtdhiijleafcfcaaTg
import Derived.Test.YtdhiijleafcfcaaTgb
import Derived.Test.YtdhiijleafcfcaaMz
namespace Go.Proofs.Ytdhiijleafcfcaa.T
open Go.RowKit Go.Proofs.YtdhiijleafcfcaaW.PrintWords Go.Proofs.YtdhiijleafcfcaaW.PrintLast Go.Proofs.YtdhiijleafcfcaaW.PrintMore
attribute [local go_sem] max2_int min2_int max_two min_two max_three min_three max_four min_four
set_option linter.unusedVariables false
set_option linter.unusedSimpArgs false

def dx (s : Int) : Int := if s = 1 then 1 else if s = 3 then -1 else 0
def dy (s : Int) : Int := if s = 0 then -1 else if s = 2 then 1 else 0
theorem dxy_bd (s : Int) : -1 ≤ dx s ∧ dx s ≤ 1 ∧ -1 ≤ dy s ∧ dy s ≤ 1 := by
 unfold dx dy
 refine ⟨?_, ?_, ?_, ?_⟩ <;> split <;> (try split) <;> omega
/-- The cell at a side; -1: there is none. -/
def nb (W H c s : Int) : Int :=
 if 0 ≤ c % W + dx s ∧ c % W + dx s ≤ W - 1 ∧ 0 ≤ c / W + dy s ∧ c / W + dy s ≤ H - 1
 then (c / W + dy s) * W + (c % W + dx s) else -1
/-- Sizes of a grid, and a cell of it. -/
structure Gd (W H c : Int) : Prop where
 w1 : 1 ≤ W
 w2 : W ≤ 64
 h1 : 1 ≤ H
 h2 : H ≤ 64
 c0 : 0 ≤ c
 c1 : c < W * H
theorem nb_range {W H c s : Int} (h : Gd W H c) (hn : 0 ≤ nb W H c s) : nb W H c s < W * H := by
 unfold nb at hn ⊢
 split
 ·rename_i k
  obtain ⟨_, k2, _, k4⟩ := k
  obtain ⟨y, hy⟩ : ∃ y, c / W + dy s = y := ⟨_, rfl⟩
  obtain ⟨x, hx⟩ : ∃ x, c % W + dx s = x := ⟨_, rfl⟩
  rw [hy] at k4 ⊢
  rw [hx] at k2 ⊢
  have := Int.mul_le_mul_of_nonneg_right k4 (show 0 ≤ W by have := h.w1; omega)
  have e : (H - 1) * W = W * H - W := by rw [Int.sub_mul, Int.one_mul, Int.mul_comm]
  omega
 ·have := h.c0; have := h.c1; omega
theorem nb_neg {W H c s : Int} (h : Gd W H c) (hn : ¬ 0 ≤ nb W H c s) : nb W H c s = -1 := by
 unfold nb at hn ⊢
 split
 ·rename_i k
  rw [if_pos k] at hn
  obtain ⟨k1, _, k3, _⟩ := k
  have := Int.mul_nonneg k3 (show 0 ≤ W by have := h.w1; omega)
  omega
 ·rfl
theorem gd_div {W H c : Int} (h : Gd W H c) : 0 ≤ c / W ∧ c / W ≤ 63 ∧ 0 ≤ c % W ∧ c % W ≤ 63 ∧ c.tdiv W = c / W ∧ c.tmod W = c % W ∧ c / W < H := by
 have h1 := h.w1
 have h2 := h.w2
 have h3 := Int.emod_nonneg c (b := W) (by omega)
 have h4 := Int.emod_lt_of_pos c (b := W) (by omega)
 have h5 : c / W < H := Int.ediv_lt_of_lt_mul (by omega) (by rw [Int.mul_comm]; exact h.c1)
 have h6 := Int.ediv_nonneg h.c0 (show 0 ≤ W by omega)
 have := h.h2
 exact ⟨h6, by omega, h3, by omega, Int.tdiv_eq_ediv_of_nonneg h.c0, Int.tmod_eq_emod_of_nonneg h.c0, h5⟩
theorem gd_mul {W y : Int} (hw : 0 ≤ W) (hw2 : W ≤ 64) (h0 : -1 ≤ y) (h1 : y ≤ 64) : -64 ≤ y * W ∧ y * W ≤ 4096 := by
 have a := Int.mul_le_mul_of_nonneg_right h0 hw
 have b := Int.mul_le_mul_of_nonneg_right h1 hw
 constructor <;> omega
/-- The program's answer. -/
theorem beside_val {W H c s : Int} (h : Gd W H c) (hs : 0 ≤ s ∧ s ≤ 3) : ∃ x, puzzles_grid_beside.f W H c s = some (x, decide (0 ≤ nb W H c s)) ∧ (0 ≤ nb W H c s → x = nb W H c s) := by
 obtain ⟨d1, d2, d3, d4, d5, d6, d7⟩ := gd_div h
 have w1 := h.w1
 have w2 := h.w2
 have h1 := h.h1
 have h2 := h.h2
 unfold puzzles_grid_beside.f
 rw [if_neg (by omega), d5, d6]
 have g := fun y (a : -1 ≤ y) (b : y ≤ 64) => gd_mul (W := W) (y := y) (by omega) w2 a b
 have key : ∀ x y : Int, -1 ≤ x → x ≤ 64 → -1 ≤ y → y ≤ 64 → (0 ≤ y * W + x ↔ 0 ≤ x ∧ 0 ≤ y ∨ (0 ≤ y * W + x ∧ ¬ (0 ≤ x ∧ 0 ≤ y))) := fun x y _ _ _ _ => by
  constructor
  ·intro q
   by_cases r : 0 ≤ x ∧ 0 ≤ y
   ·exact .inl r
   ·exact .inr ⟨q, r⟩
  ·rintro (⟨r1, r2⟩ | ⟨q, _⟩)
   ·have := Int.mul_nonneg r2 (show 0 ≤ W by omega); omega
   ·exact q
 have fin : ∀ x y : Int, -1 ≤ x → x ≤ 64 → -1 ≤ y → y ≤ 64 → (0 ≤ x ∧ x ≤ W - 1 ∧ 0 ≤ y ∧ y ≤ H - 1 ↔ (decide (0 ≤ x) && decide (x ≤ W - 1) && (decide (0 ≤ y) && decide (y ≤ H - 1))) = true) := fun x y _ _ _ _ => by simp [and_assoc]
 have ans : ∀ x y : Int, -1 ≤ x → x ≤ 64 → -1 ≤ y → y ≤ 64 → (decide (0 ≤ (if 0 ≤ x ∧ x ≤ W - 1 ∧ 0 ≤ y ∧ y ≤ H - 1 then y * W + x else -1)) = (decide (0 ≤ x) && decide (x ≤ W - 1) && (decide (0 ≤ y) && decide (y ≤ H - 1)))) := fun x y a b c d => by
  by_cases q : 0 ≤ x ∧ x ≤ W - 1 ∧ 0 ≤ y ∧ y ≤ H - 1
  ·rw [if_pos q, (fin x y a b c d).1 q]
   have := Int.mul_nonneg q.2.2.1 (show 0 ≤ W by omega)
   exact decide_eq_true (by omega)
  ·rw [if_neg q]
   have := mt (fin x y a b c d).2 q
   rw [Bool.not_eq_true] at this
   rw [this]
   rfl
 have run : ∀ x y : Int, -1 ≤ x → x ≤ 64 → -1 ≤ y → y ≤ 64 → nb W H c s = (if 0 ≤ x ∧ x ≤ W - 1 ∧ 0 ≤ y ∧ y ≤ H - 1 then y * W + x else -1) →
   ∃ z, ((puzzles_within.f x 0 (W - 1)).bind fun t277 => (if t277 = true then ((puzzles_within.f y 0 (H - 1)).bind fun t278 => (some (y * W + x, t278))) else (some (y * W + x, false)))) = some (z, decide (0 ≤ nb W H c s)) ∧ (0 ≤ nb W H c s → z = nb W H c s) := by
  intro x y a b c' d e
  rw [e, ans x y a b c' d, within_val, Option.bind_some]
  refine ⟨y * W + x, ?_, fun q => ?_⟩
  ·by_cases q : (decide (0 ≤ x) && decide (x ≤ W - 1)) = true
   ·rw [if_pos q, within_val, Option.bind_some, q, Bool.true_and]
   ·rw [if_neg q]
    rw [Bool.not_eq_true] at q
    rw [q, Bool.false_and]
  ·split
   ·rfl
   ·rename_i r; rw [if_neg r] at q; omega
 have s4 : s = 0 ∨ s = 1 ∨ s = 2 ∨ s = 3 := by omega
 rcases s4 with rfl | rfl | rfl | rfl
 ·have gg := g (c / W - 1) (by omega) (by omega)
  rw [if_pos rfl, w64 (W - 1) (by omega) (by omega), w64 (c / W) (by omega) (by omega), w64 (c / W - 1) (by omega) (by omega), w64 (H - 1) (by omega) (by omega), w64 ((c / W - 1) * W) (by omega) (by omega), w64 ((c / W - 1) * W + c % W) (by omega) (by omega)]
  exact run (c % W) (c / W - 1) (by omega) (by omega) (by omega) (by omega) (by unfold nb; simp [dx, dy, Int.sub_eq_add_neg])
 ·have gg := g (c / W) (by omega) (by omega)
  rw [if_neg (by omega), if_pos rfl, w64 (W - 1) (by omega) (by omega), w64 (c / W) (by omega) (by omega), w64 (c % W + 1) (by omega) (by omega), w64 (H - 1) (by omega) (by omega), w64 ((c / W) * W) (by omega) (by omega), w64 ((c / W) * W + (c % W + 1)) (by omega) (by omega)]
  exact run (c % W + 1) (c / W) (by omega) (by omega) (by omega) (by omega) (by unfold nb; simp [dx, dy])
 ·have gg := g (c / W + 1) (by omega) (by omega)
  rw [if_neg (by omega), if_neg (by omega), if_pos rfl, w64 (W - 1) (by omega) (by omega), w64 (c / W) (by omega) (by omega), w64 (c / W + 1) (by omega) (by omega), w64 (H - 1) (by omega) (by omega), w64 ((c / W + 1) * W) (by omega) (by omega), w64 ((c / W + 1) * W + c % W) (by omega) (by omega)]
  exact run (c % W) (c / W + 1) (by omega) (by omega) (by omega) (by omega) (by unfold nb; simp [dx, dy])
 ·have gg := g (c / W) (by omega) (by omega)
  rw [if_neg (by omega), if_neg (by omega), if_neg (by omega), if_pos rfl, w64 (W - 1) (by omega) (by omega), w64 (c / W) (by omega) (by omega), w64 (c % W - 1) (by omega) (by omega), w64 (H - 1) (by omega) (by omega), w64 ((c / W) * W) (by omega) (by omega), w64 ((c / W) * W + (c % W - 1)) (by omega) (by omega)]
  exact run (c % W - 1) (c / W) (by omega) (by omega) (by omega) (by omega) (by unfold nb; simp [dx, dy, Int.sub_eq_add_neg])
/-- The document's. -/
theorem refbeside_ev {W H c s : Int} (h : Gd W H c) (hs : 0 ≤ s ∧ s ≤ 3) : Ev (fun k => padlockref03_beside.f k W H c s) (nb W H c s) := by
 obtain ⟨d1, d2, d3, d4, d5, d6, d7⟩ := gd_div h
 have w1 := h.w1
 have w2 := h.w2
 have h1 := h.h1
 have h2 := h.h2
 have g := fun y (a : -1 ≤ y) (b : y ≤ 64) => gd_mul (W := W) (y := y) (by omega) w2 a b
 have run : ∀ x y : Int, -1 ≤ x → x ≤ 64 → -1 ≤ y → y ≤ 64 → nb W H c s = (if 0 ≤ x ∧ x ≤ W - 1 ∧ 0 ≤ y ∧ y ≤ H - 1 then y * W + x else -1) → Ev (fun k => padlockref03_beside.j0 k W H x y) (nb W H c s) := by
  intro x y a b c' d e
  have gg := g y c' d
  rw [e]
  refine Ev.step (fun k => padlockref03_beside.j0.eq_2 W H x y k) ?_
  simp only [refwithin_val, Option.bind_some]
  rw [w64 (W - 1) (by omega) (by omega), w64 (H - 1) (by omega) (by omega), w64 (y * W) (by omega) (by omega), w64 (y * W + x) (by omega) (by omega)]
  refine Ev.const ?_
  by_cases q1 : 0 ≤ x ∧ x ≤ W - 1
  ·by_cases q2 : 0 ≤ y ∧ y ≤ H - 1
   ·rw [show (if 0 ≤ x ∧ x ≤ W - 1 ∧ 0 ≤ y ∧ y ≤ H - 1 then y * W + x else -1) = y * W + x from if_pos ⟨q1.1, q1.2, q2.1, q2.2⟩]; simp [q1.1, q1.2, q2.1, q2.2]
   ·rw [show (if 0 ≤ x ∧ x ≤ W - 1 ∧ 0 ≤ y ∧ y ≤ H - 1 then y * W + x else -1) = -1 from if_neg (fun r => q2 ⟨r.2.2.1, r.2.2.2⟩), if_pos (by simp [q1.1, q1.2]), if_neg (by simpa using q2)]
  ·rw [show (if 0 ≤ x ∧ x ≤ W - 1 ∧ 0 ≤ y ∧ y ≤ H - 1 then y * W + x else -1) = -1 from if_neg (fun r => q1 ⟨r.1, r.2.1⟩), if_neg (by simpa using q1)]
 refine Ev.congr (fun k => ?_) (run (c % W + dx s) (c / W + dy s) (by have := dxy_bd s; omega) (by have := dxy_bd s; omega) (by have := dxy_bd s; omega) (by have := dxy_bd s; omega) rfl)
 ·unfold padlockref03_beside.f
  rw [if_neg (by omega), d5, d6]
  have s4 : s = 0 ∨ s = 1 ∨ s = 2 ∨ s = 3 := by omega
  rcases s4 with rfl | rfl | rfl | rfl
  ·rw [if_pos rfl, w64 (c / W) (by omega) (by omega), w64 (c / W - 1) (by omega) (by omega)]; simp [dx, dy, Int.sub_eq_add_neg]
  ·rw [if_neg (by omega), if_pos rfl, w64 (c / W) (by omega) (by omega), w64 (c % W + 1) (by omega) (by omega)]; simp [dx, dy]
  ·rw [if_neg (by omega), if_neg (by omega), if_pos rfl, w64 (c / W) (by omega) (by omega), w64 (c / W + 1) (by omega) (by omega)]; simp [dx, dy]
  ·rw [if_neg (by omega), if_neg (by omega), if_neg (by omega), if_pos rfl, w64 (c / W) (by omega) (by omega), w64 (c % W - 1) (by omega) (by omega)]; simp [dx, dy, Int.sub_eq_add_neg]

end Go.Proofs.Ytdhiijleafcfcaa.T
