-- PRINTED by print.py (a twelfth state) out of the translation. Not trusted: Lean checks it.
import Derived.Test.YtdhiijleafcfcaaT0
import Derived.Test.YtdhiijleafcfcaaTw
import Derived.Test.YtdhiijleafcfcaaTq
import Derived.Test.YtdhiijleafcfcaaPb
import Derived.Test.YtdhiijleafcfcaaWk
namespace Go.Proofs.Ytdhiijleafcfcaa.T
open Go.RowKit Go.Proofs.YtdhiijleafcfcaaW.PrintWords Go.Proofs.YtdhiijleafcfcaaW.PrintLast Go.Proofs.YtdhiijleafcfcaaW.PrintMore
attribute [local go_sem] max2_int min2_int max_two min_two max_three min_three max_four min_four   -- for this text's walks alone
set_option linter.unusedVariables false
set_option linter.unusedSimpArgs false

/-! ### padlocklaw03_PuzzlesPlumbs: function 12 -/
mutual
def padlocklaw03_PuzzlesPlumbs.j0 : Nat → Bool → Int → Int → List Int → Int → Int → Option (Bool)
 | 0, _, _, _, _, _, _ => none
 | k + 1, x18, x569000, x569001, x569002, x569003, x569004 => if x18 = true then ((padlocklaw03_works.f k).bind fun t569 => (some t569)) else ((puzzles_Plumb.f k x569000 x569001 x569002 x569003 x569004).bind fun bt570 => ((padlockref03_Plumb.f k x569000 x569001 x569002 x569003 x569004).bind fun bt574 => (if bt570.2 = bt574.2 then ((padlocklaw03_sameInts.f k bt570.1 bt574.1).bind fun t578 => (padlocklaw03_PuzzlesPlumbs.j1 k (!t578) x569000 x569001 x569002 x569003 x569004)) else (padlocklaw03_PuzzlesPlumbs.j1 k true x569000 x569001 x569002 x569003 x569004))))
def padlocklaw03_PuzzlesPlumbs.j1 : Nat → Bool → Int → Int → List Int → Int → Int → Option (Bool)
 | 0, _, _, _, _, _, _ => none
 | k + 1, x38, x569000, x569001, x569002, x569003, x569004 => if x38 = true then (some false) else ((puzzles_Plumbings.f k x569000 x569001 x569002 x569003 x569004).bind fun bt579 => ((padlockref03_Plumbings.f k x569000 x569001 x569002 x569003 x569004).bind fun bt581 => (if bt579.1 = bt581.1 then (if bt579.2 = bt581.2 then ((padlocklaw03_works.f k).bind fun t583 => (some t583)) else (some false)) else (some false))))
end
def padlocklaw03_PuzzlesPlumbs.f (k : Nat) (a0_0 : Int) (a0_1 : Int) (l0_2 : List Int) (a0_3 : Int) (a0_4 : Int) : Option (Bool) := if (l0_2.length : Int) > 6 then (padlocklaw03_PuzzlesPlumbs.j0 k (decide ((l0_2.length : Int) ≤ 9)) a0_0 a0_1 l0_2 a0_3 a0_4) else (padlocklaw03_PuzzlesPlumbs.j0 k false a0_0 a0_1 l0_2 a0_3 a0_4)
theorem padlocklaw03_PuzzlesPlumbs.mono_l : ∀ k, (∀ y0 y1 y2 y3 y4 y5, LeO (padlocklaw03_PuzzlesPlumbs.j0 k y0 y1 y2 y3 y4 y5) (padlocklaw03_PuzzlesPlumbs.j0 (k + 1) y0 y1 y2 y3 y4 y5)) ∧ (∀ y0 y1 y2 y3 y4 y5, LeO (padlocklaw03_PuzzlesPlumbs.j1 k y0 y1 y2 y3 y4 y5) (padlocklaw03_PuzzlesPlumbs.j1 (k + 1) y0 y1 y2 y3 y4 y5))
 | 0 => ⟨fun _ _ _ _ _ _ r h => by simp [padlocklaw03_PuzzlesPlumbs.j0] at h, fun _ _ _ _ _ _ r h => by simp [padlocklaw03_PuzzlesPlumbs.j1] at h⟩
 | k + 1 => by
  obtain ⟨ih0, ih1⟩ := padlocklaw03_PuzzlesPlumbs.mono_l k
  refine ⟨?_, ?_⟩
  ·intro y0 y1 y2 y3 y4 y5
   unfold padlocklaw03_PuzzlesPlumbs.j0
   repeat' first
   | (with_reducible exact ih0 _ _ _ _ _ _)
   | (with_reducible exact ih1 _ _ _ _ _ _)
   | (with_reducible exact padlocklaw03_sameInts.mono _ _ _)
   | (with_reducible exact padlocklaw03_works.mono _)
   | (with_reducible exact padlockref03_Plumb.mono _ _ _ _ _ _)
   | (with_reducible exact padlockref03_Plumbings.mono _ _ _ _ _ _)
   | (with_reducible exact puzzles_Plumb.mono _ _ _ _ _ _)
   | (with_reducible exact puzzles_Plumbings.mono _ _ _ _ _ _)
   | (with_reducible exact LeO.refl _)
   | (with_reducible exact LeO.none _)
   | (with_reducible refine LeO.ite ?_ ?_)
   | (with_reducible refine LeO.bind ?_ (fun _ => ?_))
   | exact ih0 _ _ _ _ _ _
   | exact ih1 _ _ _ _ _ _
   | exact padlocklaw03_sameInts.mono _ _ _
   | exact padlocklaw03_works.mono _
   | exact padlockref03_Plumb.mono _ _ _ _ _ _
   | exact padlockref03_Plumbings.mono _ _ _ _ _ _
   | exact puzzles_Plumb.mono _ _ _ _ _ _
   | exact puzzles_Plumbings.mono _ _ _ _ _ _
   | exact LeO.none _
   | refine LeO.ite ?_ ?_
   | refine LeO.bind ?_ (fun _ => ?_)
  ·intro y0 y1 y2 y3 y4 y5
   unfold padlocklaw03_PuzzlesPlumbs.j1
   repeat' first
   | (with_reducible exact ih0 _ _ _ _ _ _)
   | (with_reducible exact ih1 _ _ _ _ _ _)
   | (with_reducible exact padlocklaw03_sameInts.mono _ _ _)
   | (with_reducible exact padlocklaw03_works.mono _)
   | (with_reducible exact padlockref03_Plumb.mono _ _ _ _ _ _)
   | (with_reducible exact padlockref03_Plumbings.mono _ _ _ _ _ _)
   | (with_reducible exact puzzles_Plumb.mono _ _ _ _ _ _)
   | (with_reducible exact puzzles_Plumbings.mono _ _ _ _ _ _)
   | (with_reducible exact LeO.refl _)
   | (with_reducible exact LeO.none _)
   | (with_reducible refine LeO.ite ?_ ?_)
   | (with_reducible refine LeO.bind ?_ (fun _ => ?_))
   | exact ih0 _ _ _ _ _ _
   | exact ih1 _ _ _ _ _ _
   | exact padlocklaw03_sameInts.mono _ _ _
   | exact padlocklaw03_works.mono _
   | exact padlockref03_Plumb.mono _ _ _ _ _ _
   | exact padlockref03_Plumbings.mono _ _ _ _ _ _
   | exact puzzles_Plumb.mono _ _ _ _ _ _
   | exact puzzles_Plumbings.mono _ _ _ _ _ _
   | exact LeO.none _
   | refine LeO.ite ?_ ?_
   | refine LeO.bind ?_ (fun _ => ?_)
theorem padlocklaw03_PuzzlesPlumbs.mono : ∀ a0 a1 a2 a3 a4 k, LeO (padlocklaw03_PuzzlesPlumbs.f k a0 a1 a2 a3 a4) (padlocklaw03_PuzzlesPlumbs.f (k + 1) a0 a1 a2 a3 a4) := by
 intro a0 a1 a2 a3 a4 k
 obtain ⟨ih0, ih1⟩ := padlocklaw03_PuzzlesPlumbs.mono_l k
 unfold padlocklaw03_PuzzlesPlumbs.f
 repeat' first
   | (with_reducible exact ih0 _ _ _ _ _ _)
   | (with_reducible exact ih1 _ _ _ _ _ _)
   | (with_reducible exact padlocklaw03_sameInts.mono _ _ _)
   | (with_reducible exact padlocklaw03_works.mono _)
   | (with_reducible exact padlockref03_Plumb.mono _ _ _ _ _ _)
   | (with_reducible exact padlockref03_Plumbings.mono _ _ _ _ _ _)
   | (with_reducible exact puzzles_Plumb.mono _ _ _ _ _ _)
   | (with_reducible exact puzzles_Plumbings.mono _ _ _ _ _ _)
   | (with_reducible exact LeO.refl _)
   | (with_reducible exact LeO.none _)
   | (with_reducible refine LeO.ite ?_ ?_)
   | (with_reducible refine LeO.bind ?_ (fun _ => ?_))
   | exact ih0 _ _ _ _ _ _
   | exact ih1 _ _ _ _ _ _
   | exact padlocklaw03_sameInts.mono _ _ _
   | exact padlocklaw03_works.mono _
   | exact padlockref03_Plumb.mono _ _ _ _ _ _
   | exact padlockref03_Plumbings.mono _ _ _ _ _ _
   | exact puzzles_Plumb.mono _ _ _ _ _ _
   | exact puzzles_Plumbings.mono _ _ _ _ _ _
   | exact LeO.none _
   | refine LeO.ite ?_ ?_
   | refine LeO.bind ?_ (fun _ => ?_)
set_option maxHeartbeats 8000000 in
set_option maxRecDepth 100000 in
theorem padlocklaw03_PuzzlesPlumbs.calls (k : Nat) (a0_0 : Int) (a0_1 : Int) (A0_2 : Option Addr) (c0_2 : Nat) (l0_2 : List Int) (a0_3 : Int) (a0_4 : Int) (r : Bool) (w : World) (hr0_2 : Kd.C (Kd.int .i64) w A0_2 l0_2.length l0_2) (hc0_2 : l0_2.length ≤ c0_2) (h : padlocklaw03_PuzzlesPlumbs.f k a0_0 a0_1 l0_2 a0_3 a0_4 = some r) :
  Calls Try.prog 12 #[.agg #[.int .i64 a0_0, .int .i64 a0_1, .slice A0_2 l0_2.length c0_2, .int .i64 a0_3, .int .i64 a0_4]] w fun e w' => e = .returned (.bool r) ∧ Below w.heap.size w w' := by
 have hu50 := Try.underlying50
 have HR0_2 := Aside0.mk hr0_2
 have HC0_2 := Aside0.mk hc0_2
 clear hr0_2 hc0_2
 have HB := Aside0.mk (Below.refl w.heap.size w)
 have H : (if (l0_2.length : Int) > 6 then (padlocklaw03_PuzzlesPlumbs.j0 k (decide ((l0_2.length : Int) ≤ 9)) a0_0 a0_1 l0_2 a0_3 a0_4) else (padlocklaw03_PuzzlesPlumbs.j0 k false a0_0 a0_1 l0_2 a0_3 a0_4)) = some r := h
 clear h
 have HC2 := Aside0.mk H
 clear H
 go_enter Try.func12, Try.ntmps12
 go_upto_region 1 with (first | ((with_reducible refine gate_dst (N := 1) rfl ?_); (try (refine gate_guard (by rfl) ?_; dsimp only)); refine box_event ?hg (N := 1) ?hd (cs := #[.int .i64 a0_0, .int .i64 a0_1, .slice A0_2 l0_2.length c0_2, .int .i64 a0_3, .int .i64 a0_4]) (t := 50) ?hr ?_; (case hd => rfl); (case hg => rfl); (case hr => first | (go_simp; done) | (go_simp; rfl)); intro gb568 hg w3 hbox hb; have n0_ := Aside0.mk (below_step (by repeat (first | (with_reducible first | exact HB.out | apply below_alloc | apply pw_below_drewN | apply below_drew1) | exact HB.out)) hb); have n1_ := Aside0.mk (hbox); have n2_ := Aside0.mk ((by rw [hg]; exact (below_size (by repeat (first | (with_reducible first | exact HB.out | apply below_alloc | apply pw_below_drewN | apply below_drew1) | exact HB.out))) : w.heap.size ≤ gb568)); have n3_ := Aside0.mk ((by rw [hg]; exact (below_size (by repeat (first | (with_reducible first | exact HB.out | apply below_alloc | apply pw_below_drewN | apply below_drew1) | exact HB.out))) : w.heap.size ≤ gb568)); clear HB; have HB := n0_; have BK568 := n1_; have GW568 := n2_; have GE568 := n3_; clear n0_ n1_ n2_ n3_; clear hb hbox hg))
 (try simp only [Act.put, List.setIfInBounds_toArray, List.set_cons_zero, List.set_cons_succ])
 go_cut [18] (fun v18 wc => ∃ (kq : Nat) (x18_1 : Bool), v18 = .bool x18_1 ∧ Aside0 (padlocklaw03_PuzzlesPlumbs.j0 kq x18_1 a0_0 a0_1 l0_2 a0_3 a0_4 = some r) ∧ Aside0 (kq ≤ k) ∧ Aside0 (wc.heap[gb568]? = some (.cells #[.int .i64 a0_0, .int .i64 a0_1, (.slice A0_2 l0_2.length c0_2), .int .i64 a0_3, .int .i64 a0_4] 50 (0, 0))) ∧ Aside0 (Below w.heap.size w wc))
 case first =>
  have H := HC2.out
  clear HC2
  by_cases c4 : (l0_2.length : Int) > 6
  ·rw [if_pos c4] at H
   have c4b0 : decide (6 < (l0_2.length : Int)) = true := decide_eq_true c4
   have c4b1 : decide (6 < l0_2.length) = true := decide_eq_true (by omega)
   clear c4
   (first | rw [c4b0] | (simp only [i64_w, i32_w]; rw [c4b0]) | skip)
   have H' := Aside0.mk H
   clear H
   have hcz5_0 : w3.cell? ⟨gb568, 0, none⟩ = some (.int .i64 a0_0) := (blk_cell BK568.out 0).trans rfl
   have hcz5_1 : w3.cell? ⟨gb568, 1, none⟩ = some (.int .i64 a0_1) := (blk_cell BK568.out 1).trans rfl
   have hcz5_2 : w3.cell? ⟨gb568, 2, none⟩ = some (.slice A0_2 l0_2.length c0_2) := (blk_cell BK568.out 2).trans rfl
   have hcz5_3 : w3.cell? ⟨gb568, 3, none⟩ = some (.int .i64 a0_3) := (blk_cell BK568.out 3).trans rfl
   have hcz5_4 : w3.cell? ⟨gb568, 4, none⟩ = some (.int .i64 a0_4) := (blk_cell BK568.out 4).trans rfl
   have hfz5_0 := blk_frozen BK568.out 0
   have hfz5_1 := blk_frozen BK568.out 1
   have hfz5_2 := blk_frozen BK568.out 2
   have hfz5_3 := blk_frozen BK568.out 3
   have hfz5_4 := blk_frozen BK568.out 4
   go_wp2
   go_meet
   case rel => exact ⟨_, (decide ((l0_2.length : Int) ≤ 9)), (by first | rfl | (simp; done) | (simp [*]; done)), H', ⟨by first | omega | exact Nat.le_refl _⟩, ⟨by (with_reducible repeat (first | refine blk_drewN ?_ _ | refine blk_drew ?_ | refine blk_alloc ?_ _)); exact BK568.out⟩, ⟨by repeat (first | (with_reducible first | exact HB.out | apply below_alloc | apply pw_below_drewN | apply below_drew1 | refine below_set ?_ GE568.out) | exact HB.out)⟩⟩
  ·rw [if_neg c4] at H
   have c4b0 : decide (6 < (l0_2.length : Int)) = false := decide_eq_false c4
   have c4b1 : decide (6 < l0_2.length) = false := decide_eq_false (by omega)
   clear c4
   (first | rw [c4b0] | (simp only [i64_w, i32_w]; rw [c4b0]) | skip)
   have H' := Aside0.mk H
   clear H
   have hcz6_0 : w3.cell? ⟨gb568, 0, none⟩ = some (.int .i64 a0_0) := (blk_cell BK568.out 0).trans rfl
   have hcz6_1 : w3.cell? ⟨gb568, 1, none⟩ = some (.int .i64 a0_1) := (blk_cell BK568.out 1).trans rfl
   have hcz6_2 : w3.cell? ⟨gb568, 2, none⟩ = some (.slice A0_2 l0_2.length c0_2) := (blk_cell BK568.out 2).trans rfl
   have hcz6_3 : w3.cell? ⟨gb568, 3, none⟩ = some (.int .i64 a0_3) := (blk_cell BK568.out 3).trans rfl
   have hcz6_4 : w3.cell? ⟨gb568, 4, none⟩ = some (.int .i64 a0_4) := (blk_cell BK568.out 4).trans rfl
   have hfz6_0 := blk_frozen BK568.out 0
   have hfz6_1 := blk_frozen BK568.out 1
   have hfz6_2 := blk_frozen BK568.out 2
   have hfz6_3 := blk_frozen BK568.out 3
   have hfz6_4 := blk_frozen BK568.out 4
   go_wp2
   go_meet
   case rel => exact ⟨_, (false), (by first | rfl | (simp; done) | (simp [*]; done)), H', ⟨by first | omega | exact Nat.le_refl _⟩, ⟨by (with_reducible repeat (first | refine blk_drewN ?_ _ | refine blk_drew ?_ | refine blk_alloc ?_ _)); exact BK568.out⟩, ⟨by repeat (first | (with_reducible first | exact HB.out | apply below_alloc | apply pw_below_drewN | apply below_drew1 | refine below_set ?_ GE568.out) | exact HB.out)⟩⟩
 case rest =>
  clear HC2
  try clear c1
  try clear p2
  try clear c4
  try clear c4b0
  try clear c4b1
  try clear hcz5_0
  try clear hcz5_1
  try clear hcz5_2
  try clear hcz5_3
  try clear hcz5_4
  try clear hcz6_0
  try clear hcz6_1
  try clear hcz6_2
  try clear hcz6_3
  try clear hcz6_4
  try clear hfz5_0
  try clear hfz5_1
  try clear hfz5_2
  try clear hfz5_3
  try clear hfz5_4
  try clear hfz6_0
  try clear hfz6_1
  try clear hfz6_2
  try clear hfz6_3
  try clear hfz6_4
  obtain ⟨kq, x18_1, rfl, HA, HJ1, BK568, HB⟩ := hcut
  cases kq with
  | zero => exact absurd HA.out (by simp [padlocklaw03_PuzzlesPlumbs.j0])
  | succ kj1 =>
   have H := HA.out
   clear HA
   simp only [padlocklaw03_PuzzlesPlumbs.j0] at H
   by_cases c7 : x18_1 = true
   ·subst c7
    have H1 : ((padlocklaw03_works.f kj1).bind fun t569 => (some t569)) = some r := by rw [if_pos rfl] at H; exact H
    clear H
    have H := H1
    clear H1
    replace H := Option.bind_eq_some_iff.mp H
    obtain ⟨t569, A80, H⟩ := H
    replace H : (some t569) = some r := H
    have A8 := Aside0.mk A80
    clear A80
    obtain rfl := Option.some.inj H
    go_wp2_with (first | ((with_reducible refine gate_callee (f := 21) rfl ?_); refine goesL_ (some 19) rfl rfl Try.func21 (by kernel_rfl) rfl #[] rfl (by (try simp only [List.map_toArray, List.map_cons, List.map_nil]); first | done | rfl | (simp only [List.length_drop, List.length_take]; rfl)) ?_; (with_reducible refine (padlocklaw03_works.calls kj1  t569 _ A8.out).mono ?_); rintro e w9 ⟨rfl, hb⟩; refine ⟨_, rfl, ?_⟩; have n0_ := Aside0.mk (blk_below (g := gb568) (o := .cells #[.int .i64 a0_0, .int .i64 a0_1, .slice A0_2 l0_2.length c0_2, .int .i64 a0_3, .int .i64 a0_4] 50 (0, 0)) (by (with_reducible repeat (first | refine blk_drewN ?_ _ | refine blk_drew ?_ | refine blk_alloc ?_ _)); exact BK568.out) hb); have n1_ := Aside0.mk (below_step (by repeat (first | (with_reducible first | exact HB.out | apply below_alloc | apply pw_below_drewN | apply below_drew1 | refine below_set ?_ GE568.out) | exact HB.out)) hb); clear BK568; clear HB; have BK568 := n0_; have HB := n1_; clear n0_ n1_; (try clear hb); (try clear hb2); (try clear hk); (try clear hi)))
    go_ret
    exact ⟨by first | rfl | (simp [errW_none, errW_some] <;> rfl) | (simp [*, errW_none, errW_some] <;> rfl), by repeat (first | (with_reducible first | exact HB.out | apply below_alloc | apply pw_below_drewN | apply below_drew1 | refine below_set ?_ GE568.out) | exact HB.out)⟩
   ·replace c7 := Bool.eq_false_iff.mpr c7
    subst c7
    have H1 : ((puzzles_Plumb.f kj1 a0_0 a0_1 l0_2 a0_3 a0_4).bind fun bt570 => ((padlockref03_Plumb.f kj1 a0_0 a0_1 l0_2 a0_3 a0_4).bind fun bt574 => (if bt570.2 = bt574.2 then ((padlocklaw03_sameInts.f kj1 bt570.1 bt574.1).bind fun t578 => (padlocklaw03_PuzzlesPlumbs.j1 kj1 (!t578) a0_0 a0_1 l0_2 a0_3 a0_4)) else (padlocklaw03_PuzzlesPlumbs.j1 kj1 true a0_0 a0_1 l0_2 a0_3 a0_4)))) = some r := by rw [if_neg (show ¬ (false = true) by decide)] at H; exact H
    clear H
    have H := H1
    clear H1
    replace H := Option.bind_eq_some_iff.mp H
    obtain ⟨⟨t570, t573⟩, A100, H⟩ := H
    replace H : ((padlockref03_Plumb.f kj1 a0_0 a0_1 l0_2 a0_3 a0_4).bind fun bt574 => (if t573 = bt574.2 then ((padlocklaw03_sameInts.f kj1 t570 bt574.1).bind fun t578 => (padlocklaw03_PuzzlesPlumbs.j1 kj1 (!t578) a0_0 a0_1 l0_2 a0_3 a0_4)) else (padlocklaw03_PuzzlesPlumbs.j1 kj1 true a0_0 a0_1 l0_2 a0_3 a0_4))) = some r := H
    have A10 := Aside0.mk A100
    clear A100
    replace H := Option.bind_eq_some_iff.mp H
    obtain ⟨⟨t574, t577⟩, A110, H⟩ := H
    replace H : (if t573 = t577 then ((padlocklaw03_sameInts.f kj1 t570 t574).bind fun t578 => (padlocklaw03_PuzzlesPlumbs.j1 kj1 (!t578) a0_0 a0_1 l0_2 a0_3 a0_4)) else (padlocklaw03_PuzzlesPlumbs.j1 kj1 true a0_0 a0_1 l0_2 a0_3 a0_4)) = some r := H
    have A11 := Aside0.mk A110
    clear A110
    have HC12 := Aside0.mk H
    clear H
    have hcz13_0 : wc.cell? ⟨gb568, 0, none⟩ = some (.int .i64 a0_0) := (blk_cell BK568.out 0).trans rfl
    have hcz13_1 : wc.cell? ⟨gb568, 1, none⟩ = some (.int .i64 a0_1) := (blk_cell BK568.out 1).trans rfl
    have hcz13_2 : wc.cell? ⟨gb568, 2, none⟩ = some (.slice A0_2 l0_2.length c0_2) := (blk_cell BK568.out 2).trans rfl
    have hcz13_3 : wc.cell? ⟨gb568, 3, none⟩ = some (.int .i64 a0_3) := (blk_cell BK568.out 3).trans rfl
    have hcz13_4 : wc.cell? ⟨gb568, 4, none⟩ = some (.int .i64 a0_4) := (blk_cell BK568.out 4).trans rfl
    have hfz13_0 := blk_frozen BK568.out 0
    have hfz13_1 := blk_frozen BK568.out 1
    have hfz13_2 := blk_frozen BK568.out 2
    have hfz13_3 := blk_frozen BK568.out 3
    have hfz13_4 := blk_frozen BK568.out 4
    go_upto_region 5 with (first | ((with_reducible refine gate_callee (f := 45) rfl ?_); refine goesL_ (some 22) rfl rfl Try.func45 (by kernel_rfl) rfl #[.agg #[.int .i64 a0_0, .int .i64 a0_1, .slice A0_2 l0_2.length c0_2, .int .i64 a0_3, .int .i64 a0_4]] rfl (by (try simp only [List.map_toArray, List.map_cons, List.map_nil]); first | done | rfl | (simp only [List.length_drop, List.length_take]; rfl)) ?_; (with_reducible refine (puzzles_Plumb.calls kj1 a0_0 a0_1 _ _ l0_2 a0_3 a0_4 t570 t573 _ ?side1 ?side2 A10.out).mono ?_); (case side1 => repeat (first | exact (Kd.C_below HR0_2.out HB.out) | (with_reducible refine Kd.C_alloc ?_ _) | (with_reducible refine Kd.C_drewN ?_ _) | (with_reducible refine Kd.C_drew ?_))); (case side2 => exact HC0_2.out); rintro e w14 ⟨v571, rfl, ho0, hb⟩; refine ⟨_, rfl, ?_⟩; have n0_ := Aside0.mk (Kd.R_lower ho0 (below_size (by repeat (first | (with_reducible first | exact HB.out | apply below_alloc | apply pw_below_drewN | apply below_drew1 | refine below_set ?_ GE568.out) | exact HB.out)))); have n1_ := Aside0.mk (blk_below (g := gb568) (o := .cells #[.int .i64 a0_0, .int .i64 a0_1, .slice A0_2 l0_2.length c0_2, .int .i64 a0_3, .int .i64 a0_4] 50 (0, 0)) (by (with_reducible repeat (first | refine blk_drewN ?_ _ | refine blk_drew ?_ | refine blk_alloc ?_ _)); exact BK568.out) hb); have n2_ := Aside0.mk (below_step (by repeat (first | (with_reducible first | exact HB.out | apply below_alloc | apply pw_below_drewN | apply below_drew1 | refine below_set ?_ GE568.out) | exact HB.out)) hb); clear BK568; clear HB; have HO572 := n0_; have BK568 := n1_; have HB := n2_; clear n0_ n1_ n2_; (try clear hb); (try clear hb2); (try clear hk); (try clear hi); (try clear ho0); have hcz15_0 : w14.cell? ⟨gb568, 0, none⟩ = some (.int .i64 a0_0) := (blk_cell BK568.out 0).trans rfl; have hcz15_1 : w14.cell? ⟨gb568, 1, none⟩ = some (.int .i64 a0_1) := (blk_cell BK568.out 1).trans rfl; have hcz15_2 : w14.cell? ⟨gb568, 2, none⟩ = some (.slice A0_2 l0_2.length c0_2) := (blk_cell BK568.out 2).trans rfl; have hcz15_3 : w14.cell? ⟨gb568, 3, none⟩ = some (.int .i64 a0_3) := (blk_cell BK568.out 3).trans rfl; have hcz15_4 : w14.cell? ⟨gb568, 4, none⟩ = some (.int .i64 a0_4) := (blk_cell BK568.out 4).trans rfl; have hfz15_0 := blk_frozen BK568.out 0; have hfz15_1 := blk_frozen BK568.out 1; have hfz15_2 := blk_frozen BK568.out 2; have hfz15_3 := blk_frozen BK568.out 3; have hfz15_4 := blk_frozen BK568.out 4) | ((with_reducible refine gate_callee (f := 46) rfl ?_); refine goesL_ (some 27) rfl rfl Try.func46 (by kernel_rfl) rfl #[.agg #[.int .i64 a0_0, .int .i64 a0_1, .slice A0_2 l0_2.length c0_2, .int .i64 a0_3, .int .i64 a0_4]] rfl (by (try simp only [List.map_toArray, List.map_cons, List.map_nil]); first | done | rfl | (simp only [List.length_drop, List.length_take]; rfl)) ?_; (with_reducible refine (padlockref03_Plumb.calls kj1 a0_0 a0_1 _ _ l0_2 a0_3 a0_4 t574 t577 _ ?side1 ?side2 A11.out).mono ?_); (case side1 => repeat (first | exact (Kd.C_below HR0_2.out HB.out) | (with_reducible refine Kd.C_alloc ?_ _) | (with_reducible refine Kd.C_drewN ?_ _) | (with_reducible refine Kd.C_drew ?_))); (case side2 => exact HC0_2.out); rintro e w16 ⟨v575, rfl, ho0, hb⟩; refine ⟨_, rfl, ?_⟩; have n0_ := Aside0.mk (Kd.R_elder' (by (with_reducible repeat (first | apply Kd.R_alloc | apply Kd.R_drewN | apply Kd.R_drew)); exact HO572.out) (Kd.R_base ho0) hb); have n1_ := Aside0.mk (Kd.R_lower (Kd.R_new' ho0 (Kd.R_lt (by (with_reducible repeat (first | apply Kd.R_alloc | apply Kd.R_drewN | apply Kd.R_drew)); exact HO572.out))) (below_size (by repeat (first | (with_reducible first | exact HB.out | apply below_alloc | apply pw_below_drewN | apply below_drew1 | refine below_set ?_ GE568.out) | exact HB.out)))); have n2_ := Aside0.mk (blk_below (g := gb568) (o := .cells #[.int .i64 a0_0, .int .i64 a0_1, .slice A0_2 l0_2.length c0_2, .int .i64 a0_3, .int .i64 a0_4] 50 (0, 0)) (by (with_reducible repeat (first | refine blk_drewN ?_ _ | refine blk_drew ?_ | refine blk_alloc ?_ _)); exact BK568.out) hb); have n3_ := Aside0.mk (below_step (by repeat (first | (with_reducible first | exact HB.out | apply below_alloc | apply pw_below_drewN | apply below_drew1 | refine below_set ?_ GE568.out) | exact HB.out)) hb); clear HO572; clear BK568; clear HB; have HO572 := n0_; have HO576 := n1_; have BK568 := n2_; have HB := n3_; clear n0_ n1_ n2_ n3_; (try clear hb); (try clear hb2); (try clear hk); (try clear hi); (try clear ho0)))
    (try simp only [Act.put, List.setIfInBounds_toArray, List.set_cons_zero, List.set_cons_succ])
    go_cut [38] (fun v38 wc => ∃ (kq : Nat) (x38_11 : Bool), v38 = .bool x38_11 ∧ Aside0 (padlocklaw03_PuzzlesPlumbs.j1 kq x38_11 a0_0 a0_1 l0_2 a0_3 a0_4 = some r) ∧ Aside0 (kq ≤ kj1) ∧ Aside0 (wc.heap[gb568]? = some (.cells #[.int .i64 a0_0, .int .i64 a0_1, (.slice A0_2 l0_2.length c0_2), .int .i64 a0_3, .int .i64 a0_4] 50 (0, 0))) ∧ Aside0 (Below w.heap.size w wc))
    case first =>
     have H := HC12.out
     clear HC12
     by_cases c17 : t573 = t577
     ·rw [if_pos c17] at H
      have c17b0 : (t573 == t577) = true := beq_iff_eq.mpr c17
      have c17b1 : (t573 != t577) = false := bne_eq_false_iff_eq.mpr c17
      clear c17
      (first | rw [c17b0] | (simp only [i64_w, i32_w]; rw [c17b0]) | skip)
      replace H := Option.bind_eq_some_iff.mp H
      obtain ⟨t578, A180, H⟩ := H
      replace H : (padlocklaw03_PuzzlesPlumbs.j1 kj1 (!t578) a0_0 a0_1 l0_2 a0_3 a0_4) = some r := H
      have A18 := Aside0.mk A180
      clear A180
      have H' := Aside0.mk H
      clear H
      obtain ⟨Ao19, co19, eo19⟩ := Kd.R_slice HO572.out
      subst eo19
      obtain ⟨Ao20, co20, eo20⟩ := Kd.R_slice HO576.out
      subst eo20
      go_wp2_with (first | (go_at_call 26; (with_reducible refine (padlocklaw03_sameInts.calls kj1 _ _ t570 _ _ t574 t578 _ ?side1 ?side2 ?side3 ?side4 A18.out).mono ?_); (case side1 => repeat (first | exact (Kd.R_reads' HO572.out).2.2 | (with_reducible refine Kd.C_alloc ?_ _) | (with_reducible refine Kd.C_drewN ?_ _) | (with_reducible refine Kd.C_drew ?_))); (case side2 => exact (Kd.R_reads' HO572.out).2.1); (case side3 => repeat (first | exact (Kd.R_reads' HO576.out).2.2 | (with_reducible refine Kd.C_alloc ?_ _) | (with_reducible refine Kd.C_drewN ?_ _) | (with_reducible refine Kd.C_drew ?_))); (case side4 => exact (Kd.R_reads' HO576.out).2.1); rintro e w' ⟨rfl, ⟨nd, rfl⟩⟩))
      go_meet
      case rel => exact ⟨_, (!t578), (by first | rfl | (simp; done) | (simp [*]; done)), H', ⟨by have := HJ1.out; first | omega | exact Nat.le_refl _⟩, ⟨by (with_reducible repeat (first | refine blk_drewN ?_ _ | refine blk_drew ?_ | refine blk_alloc ?_ _)); exact BK568.out⟩, ⟨by repeat (first | (with_reducible first | exact HB.out | apply below_alloc | apply pw_below_drewN | apply below_drew1 | refine below_set ?_ GE568.out) | exact HB.out)⟩⟩
     ·rw [if_neg c17] at H
      have c17b0 : (t573 == t577) = false := beq_eq_false_iff_ne.mpr c17
      have c17b1 : (t573 != t577) = true := bne_iff_ne.mpr c17
      (first | rw [c17b0] | (simp only [i64_w, i32_w]; rw [c17b0]) | skip)
      have H' := Aside0.mk H
      clear H
      go_wp2
      go_meet
      case rel => exact ⟨_, (true), (by first | rfl | (simp; done) | (simp [*]; done)), H', ⟨by have := HJ1.out; first | omega | exact Nat.le_refl _⟩, ⟨by (with_reducible repeat (first | refine blk_drewN ?_ _ | refine blk_drew ?_ | refine blk_alloc ?_ _)); exact BK568.out⟩, ⟨by repeat (first | (with_reducible first | exact HB.out | apply below_alloc | apply pw_below_drewN | apply below_drew1 | refine below_set ?_ GE568.out) | exact HB.out)⟩⟩
    case rest =>
     clear HC12
     try clear c1
     try clear c2
     try clear p2
     try clear c4
     try clear c4b0
     try clear c4b1
     try clear c7
     try clear c12
     try clear c17
     try clear c17b0
     try clear c17b1
     try clear hcz13_0
     try clear hcz13_1
     try clear hcz13_2
     try clear hcz13_3
     try clear hcz13_4
     try clear hcz15_0
     try clear hcz15_1
     try clear hcz15_2
     try clear hcz15_3
     try clear hcz15_4
     try clear hcz5_0
     try clear hcz5_1
     try clear hcz5_2
     try clear hcz5_3
     try clear hcz5_4
     try clear hcz6_0
     try clear hcz6_1
     try clear hcz6_2
     try clear hcz6_3
     try clear hcz6_4
     try clear hfz13_0
     try clear hfz13_1
     try clear hfz13_2
     try clear hfz13_3
     try clear hfz13_4
     try clear hfz15_0
     try clear hfz15_1
     try clear hfz15_2
     try clear hfz15_3
     try clear hfz15_4
     try clear hfz5_0
     try clear hfz5_1
     try clear hfz5_2
     try clear hfz5_3
     try clear hfz5_4
     try clear hfz6_0
     try clear hfz6_1
     try clear hfz6_2
     try clear hfz6_3
     try clear hfz6_4
     try clear p2
     obtain ⟨kq, x38_11, rfl, HA, HJ11, BK568, HB⟩ := hcut
     cases kq with
     | zero => exact absurd HA.out (by simp [padlocklaw03_PuzzlesPlumbs.j1])
     | succ kj11 =>
      have H := HA.out
      clear HA
      simp only [padlocklaw03_PuzzlesPlumbs.j1] at H
      by_cases c21 : x38_11 = true
      ·subst c21
       have H1 : (some false) = some r := by rw [if_pos rfl] at H; exact H
       clear H
       have H := H1
       clear H1
       obtain rfl := Option.some.inj H
       go_wp2
       go_ret
       exact ⟨by first | rfl | (simp [errW_none, errW_some] <;> rfl) | (simp [*, errW_none, errW_some] <;> rfl), by repeat (first | (with_reducible first | exact HB.out | apply below_alloc | apply pw_below_drewN | apply below_drew1 | refine below_set ?_ GE568.out) | exact HB.out)⟩
      ·replace c21 := Bool.eq_false_iff.mpr c21
       subst c21
       have H1 : ((puzzles_Plumbings.f kj11 a0_0 a0_1 l0_2 a0_3 a0_4).bind fun bt579 => ((padlockref03_Plumbings.f kj11 a0_0 a0_1 l0_2 a0_3 a0_4).bind fun bt581 => (if bt579.1 = bt581.1 then (if bt579.2 = bt581.2 then ((padlocklaw03_works.f kj11).bind fun t583 => (some t583)) else (some false)) else (some false)))) = some r := by rw [if_neg (show ¬ (false = true) by decide)] at H; exact H
       clear H
       have H := H1
       clear H1
       replace H := Option.bind_eq_some_iff.mp H
       obtain ⟨⟨t579, t580⟩, A220, H⟩ := H
       replace H : ((padlockref03_Plumbings.f kj11 a0_0 a0_1 l0_2 a0_3 a0_4).bind fun bt581 => (if t579 = bt581.1 then (if t580 = bt581.2 then ((padlocklaw03_works.f kj11).bind fun t583 => (some t583)) else (some false)) else (some false))) = some r := H
       have A22 := Aside0.mk A220
       clear A220
       replace H := Option.bind_eq_some_iff.mp H
       obtain ⟨⟨t581, t582⟩, A230, H⟩ := H
       replace H : (if t579 = t581 then (if t580 = t582 then ((padlocklaw03_works.f kj11).bind fun t583 => (some t583)) else (some false)) else (some false)) = some r := H
       have A23 := Aside0.mk A230
       clear A230
       by_cases c24 : t579 = t581
       ·rw [if_pos c24] at H
        have c24b0 : (t579 == t581) = true := beq_iff_eq.mpr c24
        have c24b1 : (t579 != t581) = false := bne_eq_false_iff_eq.mpr c24
        clear c24
        by_cases c25 : t580 = t582
        ·rw [if_pos c25] at H
         have c25b0 : (t580 == t582) = true := beq_iff_eq.mpr c25
         have c25b1 : (t580 != t582) = false := bne_eq_false_iff_eq.mpr c25
         clear c25
         replace H := Option.bind_eq_some_iff.mp H
         obtain ⟨t583, A260, H⟩ := H
         replace H : (some t583) = some r := H
         have A26 := Aside0.mk A260
         clear A260
         obtain rfl := Option.some.inj H
         have hcz27_0 : wc.cell? ⟨gb568, 0, none⟩ = some (.int .i64 a0_0) := (blk_cell BK568.out 0).trans rfl
         have hcz27_1 : wc.cell? ⟨gb568, 1, none⟩ = some (.int .i64 a0_1) := (blk_cell BK568.out 1).trans rfl
         have hcz27_2 : wc.cell? ⟨gb568, 2, none⟩ = some (.slice A0_2 l0_2.length c0_2) := (blk_cell BK568.out 2).trans rfl
         have hcz27_3 : wc.cell? ⟨gb568, 3, none⟩ = some (.int .i64 a0_3) := (blk_cell BK568.out 3).trans rfl
         have hcz27_4 : wc.cell? ⟨gb568, 4, none⟩ = some (.int .i64 a0_4) := (blk_cell BK568.out 4).trans rfl
         have hfz27_0 := blk_frozen BK568.out 0
         have hfz27_1 := blk_frozen BK568.out 1
         have hfz27_2 := blk_frozen BK568.out 2
         have hfz27_3 := blk_frozen BK568.out 3
         have hfz27_4 := blk_frozen BK568.out 4
         go_wp2_with (first | ((with_reducible refine gate_callee (f := 47) rfl ?_); refine goesL_ (some 41) rfl rfl Try.func47 (by kernel_rfl) rfl #[.agg #[.int .i64 a0_0, .int .i64 a0_1, .slice A0_2 l0_2.length c0_2, .int .i64 a0_3, .int .i64 a0_4]] rfl (by (try simp only [List.map_toArray, List.map_cons, List.map_nil]); first | done | rfl | (simp only [List.length_drop, List.length_take]; rfl)) ?_; (with_reducible refine (puzzles_Plumbings.calls kj11 a0_0 a0_1 _ _ l0_2 a0_3 a0_4 t579 t580 _ ?side1 ?side2 A22.out).mono ?_); (case side1 => repeat (first | exact (Kd.C_below HR0_2.out HB.out) | (with_reducible refine Kd.C_alloc ?_ _) | (with_reducible refine Kd.C_drewN ?_ _) | (with_reducible refine Kd.C_drew ?_))); (case side2 => exact HC0_2.out); rintro e w28 ⟨rfl, hb⟩; refine ⟨_, rfl, ?_⟩; have n0_ := Aside0.mk (blk_below (g := gb568) (o := .cells #[.int .i64 a0_0, .int .i64 a0_1, .slice A0_2 l0_2.length c0_2, .int .i64 a0_3, .int .i64 a0_4] 50 (0, 0)) (by (with_reducible repeat (first | refine blk_drewN ?_ _ | refine blk_drew ?_ | refine blk_alloc ?_ _)); exact BK568.out) hb); have n1_ := Aside0.mk (below_step (by repeat (first | (with_reducible first | exact HB.out | apply below_alloc | apply pw_below_drewN | apply below_drew1 | refine below_set ?_ GE568.out) | exact HB.out)) hb); clear BK568; clear HB; have BK568 := n0_; have HB := n1_; clear n0_ n1_; (try clear hb); (try clear hb2); (try clear hk); (try clear hi); have hcz29_0 : w28.cell? ⟨gb568, 0, none⟩ = some (.int .i64 a0_0) := (blk_cell BK568.out 0).trans rfl; have hcz29_1 : w28.cell? ⟨gb568, 1, none⟩ = some (.int .i64 a0_1) := (blk_cell BK568.out 1).trans rfl; have hcz29_2 : w28.cell? ⟨gb568, 2, none⟩ = some (.slice A0_2 l0_2.length c0_2) := (blk_cell BK568.out 2).trans rfl; have hcz29_3 : w28.cell? ⟨gb568, 3, none⟩ = some (.int .i64 a0_3) := (blk_cell BK568.out 3).trans rfl; have hcz29_4 : w28.cell? ⟨gb568, 4, none⟩ = some (.int .i64 a0_4) := (blk_cell BK568.out 4).trans rfl; have hfz29_0 := blk_frozen BK568.out 0; have hfz29_1 := blk_frozen BK568.out 1; have hfz29_2 := blk_frozen BK568.out 2; have hfz29_3 := blk_frozen BK568.out 3; have hfz29_4 := blk_frozen BK568.out 4) | ((with_reducible refine gate_callee (f := 48) rfl ?_); refine goesL_ (some 46) rfl rfl Try.func48 (by kernel_rfl) rfl #[.agg #[.int .i64 a0_0, .int .i64 a0_1, .slice A0_2 l0_2.length c0_2, .int .i64 a0_3, .int .i64 a0_4]] rfl (by (try simp only [List.map_toArray, List.map_cons, List.map_nil]); first | done | rfl | (simp only [List.length_drop, List.length_take]; rfl)) ?_; (with_reducible refine (padlockref03_Plumbings.calls kj11 a0_0 a0_1 _ _ l0_2 a0_3 a0_4 t581 t582 _ ?side1 ?side2 A23.out).mono ?_); (case side1 => repeat (first | exact (Kd.C_below HR0_2.out HB.out) | (with_reducible refine Kd.C_alloc ?_ _) | (with_reducible refine Kd.C_drewN ?_ _) | (with_reducible refine Kd.C_drew ?_))); (case side2 => exact HC0_2.out); rintro e w30 ⟨rfl, hb⟩; refine ⟨_, rfl, ?_⟩; have n0_ := Aside0.mk (blk_below (g := gb568) (o := .cells #[.int .i64 a0_0, .int .i64 a0_1, .slice A0_2 l0_2.length c0_2, .int .i64 a0_3, .int .i64 a0_4] 50 (0, 0)) (by (with_reducible repeat (first | refine blk_drewN ?_ _ | refine blk_drew ?_ | refine blk_alloc ?_ _)); exact BK568.out) hb); have n1_ := Aside0.mk (below_step (by repeat (first | (with_reducible first | exact HB.out | apply below_alloc | apply pw_below_drewN | apply below_drew1 | refine below_set ?_ GE568.out) | exact HB.out)) hb); clear BK568; clear HB; have BK568 := n0_; have HB := n1_; clear n0_ n1_; (try clear hb); (try clear hb2); (try clear hk); (try clear hi)) | (go_at_call 21; (with_reducible refine (padlocklaw03_works.calls kj11  t583 _ A26.out).mono ?_); rintro e w31 ⟨rfl, hb⟩; have n0_ := Aside0.mk (blk_below (g := gb568) (o := .cells #[.int .i64 a0_0, .int .i64 a0_1, .slice A0_2 l0_2.length c0_2, .int .i64 a0_3, .int .i64 a0_4] 50 (0, 0)) (by (with_reducible repeat (first | refine blk_drewN ?_ _ | refine blk_drew ?_ | refine blk_alloc ?_ _)); exact BK568.out) hb); have n1_ := Aside0.mk (below_step (by repeat (first | (with_reducible first | exact HB.out | apply below_alloc | apply pw_below_drewN | apply below_drew1 | refine below_set ?_ GE568.out) | exact HB.out)) hb); clear BK568; clear HB; have BK568 := n0_; have HB := n1_; clear n0_ n1_; (try clear hb); (try clear hb2); (try clear hk); (try clear hi)))
         go_ret
         exact ⟨by first | rfl | (simp [errW_none, errW_some] <;> rfl) | (simp [*, errW_none, errW_some] <;> rfl), by repeat (first | (with_reducible first | exact HB.out | apply below_alloc | apply pw_below_drewN | apply below_drew1 | refine below_set ?_ GE568.out) | exact HB.out)⟩
        ·rw [if_neg c25] at H
         have c25b0 : (t580 == t582) = false := beq_eq_false_iff_ne.mpr c25
         have c25b1 : (t580 != t582) = true := bne_iff_ne.mpr c25
         obtain rfl := Option.some.inj H
         have hcz32_0 : wc.cell? ⟨gb568, 0, none⟩ = some (.int .i64 a0_0) := (blk_cell BK568.out 0).trans rfl
         have hcz32_1 : wc.cell? ⟨gb568, 1, none⟩ = some (.int .i64 a0_1) := (blk_cell BK568.out 1).trans rfl
         have hcz32_2 : wc.cell? ⟨gb568, 2, none⟩ = some (.slice A0_2 l0_2.length c0_2) := (blk_cell BK568.out 2).trans rfl
         have hcz32_3 : wc.cell? ⟨gb568, 3, none⟩ = some (.int .i64 a0_3) := (blk_cell BK568.out 3).trans rfl
         have hcz32_4 : wc.cell? ⟨gb568, 4, none⟩ = some (.int .i64 a0_4) := (blk_cell BK568.out 4).trans rfl
         have hfz32_0 := blk_frozen BK568.out 0
         have hfz32_1 := blk_frozen BK568.out 1
         have hfz32_2 := blk_frozen BK568.out 2
         have hfz32_3 := blk_frozen BK568.out 3
         have hfz32_4 := blk_frozen BK568.out 4
         go_wp2_with (first | ((with_reducible refine gate_callee (f := 47) rfl ?_); refine goesL_ (some 41) rfl rfl Try.func47 (by kernel_rfl) rfl #[.agg #[.int .i64 a0_0, .int .i64 a0_1, .slice A0_2 l0_2.length c0_2, .int .i64 a0_3, .int .i64 a0_4]] rfl (by (try simp only [List.map_toArray, List.map_cons, List.map_nil]); first | done | rfl | (simp only [List.length_drop, List.length_take]; rfl)) ?_; (with_reducible refine (puzzles_Plumbings.calls kj11 a0_0 a0_1 _ _ l0_2 a0_3 a0_4 t579 t580 _ ?side1 ?side2 A22.out).mono ?_); (case side1 => repeat (first | exact (Kd.C_below HR0_2.out HB.out) | (with_reducible refine Kd.C_alloc ?_ _) | (with_reducible refine Kd.C_drewN ?_ _) | (with_reducible refine Kd.C_drew ?_))); (case side2 => exact HC0_2.out); rintro e w33 ⟨rfl, hb⟩; refine ⟨_, rfl, ?_⟩; have n0_ := Aside0.mk (blk_below (g := gb568) (o := .cells #[.int .i64 a0_0, .int .i64 a0_1, .slice A0_2 l0_2.length c0_2, .int .i64 a0_3, .int .i64 a0_4] 50 (0, 0)) (by (with_reducible repeat (first | refine blk_drewN ?_ _ | refine blk_drew ?_ | refine blk_alloc ?_ _)); exact BK568.out) hb); have n1_ := Aside0.mk (below_step (by repeat (first | (with_reducible first | exact HB.out | apply below_alloc | apply pw_below_drewN | apply below_drew1 | refine below_set ?_ GE568.out) | exact HB.out)) hb); clear BK568; clear HB; have BK568 := n0_; have HB := n1_; clear n0_ n1_; (try clear hb); (try clear hb2); (try clear hk); (try clear hi); have hcz34_0 : w33.cell? ⟨gb568, 0, none⟩ = some (.int .i64 a0_0) := (blk_cell BK568.out 0).trans rfl; have hcz34_1 : w33.cell? ⟨gb568, 1, none⟩ = some (.int .i64 a0_1) := (blk_cell BK568.out 1).trans rfl; have hcz34_2 : w33.cell? ⟨gb568, 2, none⟩ = some (.slice A0_2 l0_2.length c0_2) := (blk_cell BK568.out 2).trans rfl; have hcz34_3 : w33.cell? ⟨gb568, 3, none⟩ = some (.int .i64 a0_3) := (blk_cell BK568.out 3).trans rfl; have hcz34_4 : w33.cell? ⟨gb568, 4, none⟩ = some (.int .i64 a0_4) := (blk_cell BK568.out 4).trans rfl; have hfz34_0 := blk_frozen BK568.out 0; have hfz34_1 := blk_frozen BK568.out 1; have hfz34_2 := blk_frozen BK568.out 2; have hfz34_3 := blk_frozen BK568.out 3; have hfz34_4 := blk_frozen BK568.out 4) | ((with_reducible refine gate_callee (f := 48) rfl ?_); refine goesL_ (some 46) rfl rfl Try.func48 (by kernel_rfl) rfl #[.agg #[.int .i64 a0_0, .int .i64 a0_1, .slice A0_2 l0_2.length c0_2, .int .i64 a0_3, .int .i64 a0_4]] rfl (by (try simp only [List.map_toArray, List.map_cons, List.map_nil]); first | done | rfl | (simp only [List.length_drop, List.length_take]; rfl)) ?_; (with_reducible refine (padlockref03_Plumbings.calls kj11 a0_0 a0_1 _ _ l0_2 a0_3 a0_4 t581 t582 _ ?side1 ?side2 A23.out).mono ?_); (case side1 => repeat (first | exact (Kd.C_below HR0_2.out HB.out) | (with_reducible refine Kd.C_alloc ?_ _) | (with_reducible refine Kd.C_drewN ?_ _) | (with_reducible refine Kd.C_drew ?_))); (case side2 => exact HC0_2.out); rintro e w35 ⟨rfl, hb⟩; refine ⟨_, rfl, ?_⟩; have n0_ := Aside0.mk (blk_below (g := gb568) (o := .cells #[.int .i64 a0_0, .int .i64 a0_1, .slice A0_2 l0_2.length c0_2, .int .i64 a0_3, .int .i64 a0_4] 50 (0, 0)) (by (with_reducible repeat (first | refine blk_drewN ?_ _ | refine blk_drew ?_ | refine blk_alloc ?_ _)); exact BK568.out) hb); have n1_ := Aside0.mk (below_step (by repeat (first | (with_reducible first | exact HB.out | apply below_alloc | apply pw_below_drewN | apply below_drew1 | refine below_set ?_ GE568.out) | exact HB.out)) hb); clear BK568; clear HB; have BK568 := n0_; have HB := n1_; clear n0_ n1_; (try clear hb); (try clear hb2); (try clear hk); (try clear hi)))
         go_ret
         exact ⟨by first | rfl | (simp [errW_none, errW_some] <;> rfl) | (simp [*, errW_none, errW_some] <;> rfl), by repeat (first | (with_reducible first | exact HB.out | apply below_alloc | apply pw_below_drewN | apply below_drew1 | refine below_set ?_ GE568.out) | exact HB.out)⟩
       ·rw [if_neg c24] at H
        have c24b0 : (t579 == t581) = false := beq_eq_false_iff_ne.mpr c24
        have c24b1 : (t579 != t581) = true := bne_iff_ne.mpr c24
        obtain rfl := Option.some.inj H
        have hcz36_0 : wc.cell? ⟨gb568, 0, none⟩ = some (.int .i64 a0_0) := (blk_cell BK568.out 0).trans rfl
        have hcz36_1 : wc.cell? ⟨gb568, 1, none⟩ = some (.int .i64 a0_1) := (blk_cell BK568.out 1).trans rfl
        have hcz36_2 : wc.cell? ⟨gb568, 2, none⟩ = some (.slice A0_2 l0_2.length c0_2) := (blk_cell BK568.out 2).trans rfl
        have hcz36_3 : wc.cell? ⟨gb568, 3, none⟩ = some (.int .i64 a0_3) := (blk_cell BK568.out 3).trans rfl
        have hcz36_4 : wc.cell? ⟨gb568, 4, none⟩ = some (.int .i64 a0_4) := (blk_cell BK568.out 4).trans rfl
        have hfz36_0 := blk_frozen BK568.out 0
        have hfz36_1 := blk_frozen BK568.out 1
        have hfz36_2 := blk_frozen BK568.out 2
        have hfz36_3 := blk_frozen BK568.out 3
        have hfz36_4 := blk_frozen BK568.out 4
        go_wp2_with (first | ((with_reducible refine gate_callee (f := 47) rfl ?_); refine goesL_ (some 41) rfl rfl Try.func47 (by kernel_rfl) rfl #[.agg #[.int .i64 a0_0, .int .i64 a0_1, .slice A0_2 l0_2.length c0_2, .int .i64 a0_3, .int .i64 a0_4]] rfl (by (try simp only [List.map_toArray, List.map_cons, List.map_nil]); first | done | rfl | (simp only [List.length_drop, List.length_take]; rfl)) ?_; (with_reducible refine (puzzles_Plumbings.calls kj11 a0_0 a0_1 _ _ l0_2 a0_3 a0_4 t579 t580 _ ?side1 ?side2 A22.out).mono ?_); (case side1 => repeat (first | exact (Kd.C_below HR0_2.out HB.out) | (with_reducible refine Kd.C_alloc ?_ _) | (with_reducible refine Kd.C_drewN ?_ _) | (with_reducible refine Kd.C_drew ?_))); (case side2 => exact HC0_2.out); rintro e w37 ⟨rfl, hb⟩; refine ⟨_, rfl, ?_⟩; have n0_ := Aside0.mk (blk_below (g := gb568) (o := .cells #[.int .i64 a0_0, .int .i64 a0_1, .slice A0_2 l0_2.length c0_2, .int .i64 a0_3, .int .i64 a0_4] 50 (0, 0)) (by (with_reducible repeat (first | refine blk_drewN ?_ _ | refine blk_drew ?_ | refine blk_alloc ?_ _)); exact BK568.out) hb); have n1_ := Aside0.mk (below_step (by repeat (first | (with_reducible first | exact HB.out | apply below_alloc | apply pw_below_drewN | apply below_drew1 | refine below_set ?_ GE568.out) | exact HB.out)) hb); clear BK568; clear HB; have BK568 := n0_; have HB := n1_; clear n0_ n1_; (try clear hb); (try clear hb2); (try clear hk); (try clear hi); have hcz38_0 : w37.cell? ⟨gb568, 0, none⟩ = some (.int .i64 a0_0) := (blk_cell BK568.out 0).trans rfl; have hcz38_1 : w37.cell? ⟨gb568, 1, none⟩ = some (.int .i64 a0_1) := (blk_cell BK568.out 1).trans rfl; have hcz38_2 : w37.cell? ⟨gb568, 2, none⟩ = some (.slice A0_2 l0_2.length c0_2) := (blk_cell BK568.out 2).trans rfl; have hcz38_3 : w37.cell? ⟨gb568, 3, none⟩ = some (.int .i64 a0_3) := (blk_cell BK568.out 3).trans rfl; have hcz38_4 : w37.cell? ⟨gb568, 4, none⟩ = some (.int .i64 a0_4) := (blk_cell BK568.out 4).trans rfl; have hfz38_0 := blk_frozen BK568.out 0; have hfz38_1 := blk_frozen BK568.out 1; have hfz38_2 := blk_frozen BK568.out 2; have hfz38_3 := blk_frozen BK568.out 3; have hfz38_4 := blk_frozen BK568.out 4) | ((with_reducible refine gate_callee (f := 48) rfl ?_); refine goesL_ (some 46) rfl rfl Try.func48 (by kernel_rfl) rfl #[.agg #[.int .i64 a0_0, .int .i64 a0_1, .slice A0_2 l0_2.length c0_2, .int .i64 a0_3, .int .i64 a0_4]] rfl (by (try simp only [List.map_toArray, List.map_cons, List.map_nil]); first | done | rfl | (simp only [List.length_drop, List.length_take]; rfl)) ?_; (with_reducible refine (padlockref03_Plumbings.calls kj11 a0_0 a0_1 _ _ l0_2 a0_3 a0_4 t581 t582 _ ?side1 ?side2 A23.out).mono ?_); (case side1 => repeat (first | exact (Kd.C_below HR0_2.out HB.out) | (with_reducible refine Kd.C_alloc ?_ _) | (with_reducible refine Kd.C_drewN ?_ _) | (with_reducible refine Kd.C_drew ?_))); (case side2 => exact HC0_2.out); rintro e w39 ⟨rfl, hb⟩; refine ⟨_, rfl, ?_⟩; have n0_ := Aside0.mk (blk_below (g := gb568) (o := .cells #[.int .i64 a0_0, .int .i64 a0_1, .slice A0_2 l0_2.length c0_2, .int .i64 a0_3, .int .i64 a0_4] 50 (0, 0)) (by (with_reducible repeat (first | refine blk_drewN ?_ _ | refine blk_drew ?_ | refine blk_alloc ?_ _)); exact BK568.out) hb); have n1_ := Aside0.mk (below_step (by repeat (first | (with_reducible first | exact HB.out | apply below_alloc | apply pw_below_drewN | apply below_drew1 | refine below_set ?_ GE568.out) | exact HB.out)) hb); clear BK568; clear HB; have BK568 := n0_; have HB := n1_; clear n0_ n1_; (try clear hb); (try clear hb2); (try clear hk); (try clear hi)))
        go_ret
        exact ⟨by first | rfl | (simp [errW_none, errW_some] <;> rfl) | (simp [*, errW_none, errW_some] <;> rfl), by repeat (first | (with_reducible first | exact HB.out | apply below_alloc | apply pw_below_drewN | apply below_drew1 | refine below_set ?_ GE568.out) | exact HB.out)⟩

end Go.Proofs.Ytdhiijleafcfcaa.T
