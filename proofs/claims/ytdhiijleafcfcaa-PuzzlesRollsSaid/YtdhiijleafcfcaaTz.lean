-- PRINTED by print.py (a twelfth state) out of the translation. Not trusted: Lean checks it.
import Derived.Test.YtdhiijleafcfcaaT0
import Derived.Test.YtdhiijleafcfcaaTw
namespace Go.Proofs.Ytdhiijleafcfcaa.T
open Go.RowKit Go.Proofs.YtdhiijleafcfcaaW.PrintWords Go.Proofs.YtdhiijleafcfcaaW.PrintLast Go.Proofs.YtdhiijleafcfcaaW.PrintMore
attribute [local go_sem] max2_int min2_int max_two min_two max_three min_three max_four min_four   -- for this text's walks alone
set_option linter.unusedVariables false
set_option linter.unusedSimpArgs false

/-! ### padlockref03_CheckMaze: function 86 -/
def padlockref03_CheckMaze.j0 : Nat → Bool → Int → Int → List Bool → Int → Int → Option (Int)
 | 0, _, _, _, _, _, _ => none
 | k + 1, x32, x273000, x273001, x273002, x273003, x273004 => if x32 = true then (some 30) else ((padlockref03_Within.f x273003 0 (wrap64 ((x273002.length : Int) - 1))).bind fun t275 => (if t275 = true then ((padlockref03_Within.f x273004 0 (wrap64 ((x273002.length : Int) - 1))).bind fun t276 => (if t276 = true then (if 0 ≤ x273003 then (if x273003 < (x273002.length : Int) then (if rdOf false x273002 x273003 = true then (some 30) else (if 0 ≤ x273004 then (if x273004 < (x273002.length : Int) then (if rdOf false x273002 x273004 = true then (some 30) else (some 0)) else (none)) else (none))) else (none)) else (none)) else (some 30))) else (some 30)))
def padlockref03_CheckMaze.f (k : Nat) (a0_0 : Int) (a0_1 : Int) (l0_2 : List Bool) (a0_3 : Int) (a0_4 : Int) : Option (Int) := (padlockref03_Within.f a0_0 1 64).bind fun t273 => (if t273 = true then ((padlockref03_Within.f a0_1 1 64).bind fun t274 => (if t274 = true then (if (wrap64 (a0_0 * a0_1)) > 64 then (padlockref03_CheckMaze.j0 k true a0_0 a0_1 l0_2 a0_3 a0_4) else (padlockref03_CheckMaze.j0 k ((l0_2.length : Int) != (wrap64 (a0_0 * a0_1))) a0_0 a0_1 l0_2 a0_3 a0_4)) else (padlockref03_CheckMaze.j0 k true a0_0 a0_1 l0_2 a0_3 a0_4))) else (padlockref03_CheckMaze.j0 k true a0_0 a0_1 l0_2 a0_3 a0_4))
theorem padlockref03_CheckMaze.mono_l : ∀ k, (∀ y0 y1 y2 y3 y4 y5, LeO (padlockref03_CheckMaze.j0 k y0 y1 y2 y3 y4 y5) (padlockref03_CheckMaze.j0 (k + 1) y0 y1 y2 y3 y4 y5))
 | 0 => fun _ _ _ _ _ _ r h => by simp [padlockref03_CheckMaze.j0] at h
 | k + 1 => by
  have ih0 := padlockref03_CheckMaze.mono_l k
  ·intro y0 y1 y2 y3 y4 y5
   unfold padlockref03_CheckMaze.j0
   repeat' first
   | (with_reducible exact ih0 _ _ _ _ _ _)
   | (with_reducible exact LeO.refl _)
   | (with_reducible exact LeO.none _)
   | (with_reducible refine LeO.ite ?_ ?_)
   | (with_reducible refine LeO.bind ?_ (fun _ => ?_))
   | exact ih0 _ _ _ _ _ _
   | exact LeO.none _
   | refine LeO.ite ?_ ?_
   | refine LeO.bind ?_ (fun _ => ?_)
theorem padlockref03_CheckMaze.mono : ∀ a0 a1 a2 a3 a4 k, LeO (padlockref03_CheckMaze.f k a0 a1 a2 a3 a4) (padlockref03_CheckMaze.f (k + 1) a0 a1 a2 a3 a4) := by
 intro a0 a1 a2 a3 a4 k
 have ih0 := padlockref03_CheckMaze.mono_l k
 unfold padlockref03_CheckMaze.f
 repeat' first
   | (with_reducible exact ih0 _ _ _ _ _ _)
   | (with_reducible exact LeO.refl _)
   | (with_reducible exact LeO.none _)
   | (with_reducible refine LeO.ite ?_ ?_)
   | (with_reducible refine LeO.bind ?_ (fun _ => ?_))
   | exact ih0 _ _ _ _ _ _
   | exact LeO.none _
   | refine LeO.ite ?_ ?_
   | refine LeO.bind ?_ (fun _ => ?_)
set_option maxHeartbeats 8000000 in
set_option maxRecDepth 100000 in
theorem padlockref03_CheckMaze.calls (k : Nat) (a0_0 : Int) (a0_1 : Int) (A0_2 : Option Addr) (c0_2 : Nat) (l0_2 : List Bool) (a0_3 : Int) (a0_4 : Int) (r : Int) (w : World) (hr0_2 : Kd.C Kd.bool w A0_2 l0_2.length l0_2) (hc0_2 : l0_2.length ≤ c0_2) (h : padlockref03_CheckMaze.f k a0_0 a0_1 l0_2 a0_3 a0_4 = some r) :
  Calls Try.prog 86 #[.agg #[.int .i64 a0_0, .int .i64 a0_1, .slice A0_2 l0_2.length c0_2, .int .i64 a0_3, .int .i64 a0_4]] w fun e w' => e = .returned (.int .i64 r) ∧ Below w.heap.size w w' := by
 have hu39 := Try.underlying39
 have HR0_2 := Aside0.mk hr0_2
 have HC0_2 := Aside0.mk hc0_2
 clear hr0_2 hc0_2
 have HB := Aside0.mk (Below.refl w.heap.size w)
 have H : ((padlockref03_Within.f a0_0 1 64).bind fun t273 => (if t273 = true then ((padlockref03_Within.f a0_1 1 64).bind fun t274 => (if t274 = true then (if (wrap64 (a0_0 * a0_1)) > 64 then (padlockref03_CheckMaze.j0 k true a0_0 a0_1 l0_2 a0_3 a0_4) else (padlockref03_CheckMaze.j0 k ((l0_2.length : Int) != (wrap64 (a0_0 * a0_1))) a0_0 a0_1 l0_2 a0_3 a0_4)) else (padlockref03_CheckMaze.j0 k true a0_0 a0_1 l0_2 a0_3 a0_4))) else (padlockref03_CheckMaze.j0 k true a0_0 a0_1 l0_2 a0_3 a0_4))) = some r := h
 clear h
 have HC2 := Aside0.mk H
 clear H
 go_enter Try.func86, Try.ntmps86
 go_upto_region 1 with (first | ((with_reducible refine gate_dst (N := 1) rfl ?_); (try (refine gate_guard (by rfl) ?_; dsimp only)); refine box_event ?hg (N := 1) ?hd (cs := #[.int .i64 a0_0, .int .i64 a0_1, .slice A0_2 l0_2.length c0_2, .int .i64 a0_3, .int .i64 a0_4]) (t := 39) ?hr ?_; (case hd => rfl); (case hg => rfl); (case hr => first | (go_simp; done) | (go_simp; rfl)); intro gb272 hg w3 hbox hb; have n0_ := Aside0.mk (below_step (by repeat (first | (with_reducible first | exact HB.out | apply below_alloc | apply pw_below_drewN | apply below_drew1) | exact HB.out)) hb); have n1_ := Aside0.mk (hbox); have n2_ := Aside0.mk ((by rw [hg]; exact (below_size (by repeat (first | (with_reducible first | exact HB.out | apply below_alloc | apply pw_below_drewN | apply below_drew1) | exact HB.out))) : w.heap.size ≤ gb272)); have n3_ := Aside0.mk ((by rw [hg]; exact (below_size (by repeat (first | (with_reducible first | exact HB.out | apply below_alloc | apply pw_below_drewN | apply below_drew1) | exact HB.out))) : w.heap.size ≤ gb272)); clear HB; have HB := n0_; have BK272 := n1_; have GW272 := n2_; have GE272 := n3_; clear n0_ n1_ n2_ n3_; clear hb hbox hg))
 (try simp only [Act.put, List.setIfInBounds_toArray, List.set_cons_zero, List.set_cons_succ])
 go_cut [32] (fun v32 wc => ∃ (kq : Nat) (x32_1 : Bool), v32 = .bool x32_1 ∧ Aside0 (padlockref03_CheckMaze.j0 kq x32_1 a0_0 a0_1 l0_2 a0_3 a0_4 = some r) ∧ Aside0 (kq ≤ k) ∧ Aside0 (wc.heap[gb272]? = some (.cells #[.int .i64 a0_0, .int .i64 a0_1, (.slice A0_2 l0_2.length c0_2), .int .i64 a0_3, .int .i64 a0_4] 39 (0, 0))) ∧ Aside0 (Below w.heap.size w wc))
 case first =>
  have H := HC2.out
  clear HC2
  replace H := Option.bind_eq_some_iff.mp H
  obtain ⟨t273, A40, H⟩ := H
  replace H : (if t273 = true then ((padlockref03_Within.f a0_1 1 64).bind fun t274 => (if t274 = true then (if (wrap64 (a0_0 * a0_1)) > 64 then (padlockref03_CheckMaze.j0 k true a0_0 a0_1 l0_2 a0_3 a0_4) else (padlockref03_CheckMaze.j0 k ((l0_2.length : Int) != (wrap64 (a0_0 * a0_1))) a0_0 a0_1 l0_2 a0_3 a0_4)) else (padlockref03_CheckMaze.j0 k true a0_0 a0_1 l0_2 a0_3 a0_4))) else (padlockref03_CheckMaze.j0 k true a0_0 a0_1 l0_2 a0_3 a0_4)) = some r := H
  have A4 := Aside0.mk A40
  clear A40
  by_cases c5 : t273 = true
  ·subst c5
   have H1 : ((padlockref03_Within.f a0_1 1 64).bind fun t274 => (if t274 = true then (if (wrap64 (a0_0 * a0_1)) > 64 then (padlockref03_CheckMaze.j0 k true a0_0 a0_1 l0_2 a0_3 a0_4) else (padlockref03_CheckMaze.j0 k ((l0_2.length : Int) != (wrap64 (a0_0 * a0_1))) a0_0 a0_1 l0_2 a0_3 a0_4)) else (padlockref03_CheckMaze.j0 k true a0_0 a0_1 l0_2 a0_3 a0_4))) = some r := by rw [if_pos rfl] at H; exact H
   clear H
   have H := H1
   clear H1
   replace H := Option.bind_eq_some_iff.mp H
   obtain ⟨t274, A60, H⟩ := H
   replace H : (if t274 = true then (if (wrap64 (a0_0 * a0_1)) > 64 then (padlockref03_CheckMaze.j0 k true a0_0 a0_1 l0_2 a0_3 a0_4) else (padlockref03_CheckMaze.j0 k ((l0_2.length : Int) != (wrap64 (a0_0 * a0_1))) a0_0 a0_1 l0_2 a0_3 a0_4)) else (padlockref03_CheckMaze.j0 k true a0_0 a0_1 l0_2 a0_3 a0_4)) = some r := H
   have A6 := Aside0.mk A60
   clear A60
   by_cases c7 : t274 = true
   ·subst c7
    have H1 : (if (wrap64 (a0_0 * a0_1)) > 64 then (padlockref03_CheckMaze.j0 k true a0_0 a0_1 l0_2 a0_3 a0_4) else (padlockref03_CheckMaze.j0 k ((l0_2.length : Int) != (wrap64 (a0_0 * a0_1))) a0_0 a0_1 l0_2 a0_3 a0_4)) = some r := by rw [if_pos rfl] at H; exact H
    clear H
    have H := H1
    clear H1
    by_cases c8 : (wrap64 (a0_0 * a0_1)) > 64
    ·rw [if_pos c8] at H
     have c8b0 : decide (64 < (wrap64 (a0_0 * a0_1))) = true := decide_eq_true c8
     clear c8
     (first | rw [c8b0] | (simp only [i64_w, i32_w]; rw [c8b0]) | skip)
     have H' := Aside0.mk H
     clear H
     have hcz9_0 : w3.cell? ⟨gb272, 0, none⟩ = some (.int .i64 a0_0) := (blk_cell BK272.out 0).trans rfl
     have hcz9_1 : w3.cell? ⟨gb272, 1, none⟩ = some (.int .i64 a0_1) := (blk_cell BK272.out 1).trans rfl
     have hcz9_2 : w3.cell? ⟨gb272, 2, none⟩ = some (.slice A0_2 l0_2.length c0_2) := (blk_cell BK272.out 2).trans rfl
     have hcz9_3 : w3.cell? ⟨gb272, 3, none⟩ = some (.int .i64 a0_3) := (blk_cell BK272.out 3).trans rfl
     have hcz9_4 : w3.cell? ⟨gb272, 4, none⟩ = some (.int .i64 a0_4) := (blk_cell BK272.out 4).trans rfl
     have hfz9_0 := blk_frozen BK272.out 0
     have hfz9_1 := blk_frozen BK272.out 1
     have hfz9_2 := blk_frozen BK272.out 2
     have hfz9_3 := blk_frozen BK272.out 3
     have hfz9_4 := blk_frozen BK272.out 4
     go_wp2_with (first | ((with_reducible refine gate_callee (f := 73) rfl ?_); refine goesL_ (some 6) rfl rfl Try.func73 (by kernel_rfl) rfl #[.int .i64 a0_0, .int .i64 1, .int .i64 64] rfl (by (try simp only [List.map_toArray, List.map_cons, List.map_nil]); first | done | rfl | (simp only [List.length_drop, List.length_take]; rfl)) ?_; (with_reducible refine (padlockref03_Within.calls a0_0 1 64 true _ A4.out).mono ?_); rintro e w' ⟨rfl, ⟨nd, rfl⟩⟩; refine ⟨_, rfl, ?_⟩) | (go_at_call 73; (with_reducible refine (padlockref03_Within.calls a0_1 1 64 true _ A6.out).mono ?_); rintro e w' ⟨rfl, ⟨nd, rfl⟩⟩))
     go_meet
     case rel => exact ⟨_, (true), (by first | rfl | (simp; done) | (simp [*]; done)), H', ⟨by first | omega | exact Nat.le_refl _⟩, ⟨by (with_reducible repeat (first | refine blk_drewN ?_ _ | refine blk_drew ?_ | refine blk_alloc ?_ _)); exact BK272.out⟩, ⟨by repeat (first | (with_reducible first | exact HB.out | apply below_alloc | apply pw_below_drewN | apply below_drew1 | refine below_set ?_ GE272.out) | exact HB.out)⟩⟩
    ·rw [if_neg c8] at H
     have c8b0 : decide (64 < (wrap64 (a0_0 * a0_1))) = false := decide_eq_false c8
     clear c8
     (first | rw [c8b0] | (simp only [i64_w, i32_w]; rw [c8b0]) | skip)
     have H' := Aside0.mk H
     clear H
     have hcz10_0 : w3.cell? ⟨gb272, 0, none⟩ = some (.int .i64 a0_0) := (blk_cell BK272.out 0).trans rfl
     have hcz10_1 : w3.cell? ⟨gb272, 1, none⟩ = some (.int .i64 a0_1) := (blk_cell BK272.out 1).trans rfl
     have hcz10_2 : w3.cell? ⟨gb272, 2, none⟩ = some (.slice A0_2 l0_2.length c0_2) := (blk_cell BK272.out 2).trans rfl
     have hcz10_3 : w3.cell? ⟨gb272, 3, none⟩ = some (.int .i64 a0_3) := (blk_cell BK272.out 3).trans rfl
     have hcz10_4 : w3.cell? ⟨gb272, 4, none⟩ = some (.int .i64 a0_4) := (blk_cell BK272.out 4).trans rfl
     have hfz10_0 := blk_frozen BK272.out 0
     have hfz10_1 := blk_frozen BK272.out 1
     have hfz10_2 := blk_frozen BK272.out 2
     have hfz10_3 := blk_frozen BK272.out 3
     have hfz10_4 := blk_frozen BK272.out 4
     go_wp2_with (first | ((with_reducible refine gate_callee (f := 73) rfl ?_); refine goesL_ (some 6) rfl rfl Try.func73 (by kernel_rfl) rfl #[.int .i64 a0_0, .int .i64 1, .int .i64 64] rfl (by (try simp only [List.map_toArray, List.map_cons, List.map_nil]); first | done | rfl | (simp only [List.length_drop, List.length_take]; rfl)) ?_; (with_reducible refine (padlockref03_Within.calls a0_0 1 64 true _ A4.out).mono ?_); rintro e w' ⟨rfl, ⟨nd, rfl⟩⟩; refine ⟨_, rfl, ?_⟩) | (go_at_call 73; (with_reducible refine (padlockref03_Within.calls a0_1 1 64 true _ A6.out).mono ?_); rintro e w' ⟨rfl, ⟨nd, rfl⟩⟩))
     go_meet
     case rel => exact ⟨_, (((l0_2.length : Int) != (wrap64 (a0_0 * a0_1)))), (by first | rfl | (simp; done) | (simp [*]; done)), H', ⟨by first | omega | exact Nat.le_refl _⟩, ⟨by (with_reducible repeat (first | refine blk_drewN ?_ _ | refine blk_drew ?_ | refine blk_alloc ?_ _)); exact BK272.out⟩, ⟨by repeat (first | (with_reducible first | exact HB.out | apply below_alloc | apply pw_below_drewN | apply below_drew1 | refine below_set ?_ GE272.out) | exact HB.out)⟩⟩
   ·replace c7 := Bool.eq_false_iff.mpr c7
    subst c7
    have H1 : (padlockref03_CheckMaze.j0 k true a0_0 a0_1 l0_2 a0_3 a0_4) = some r := by rw [if_neg (show ¬ (false = true) by decide)] at H; exact H
    clear H
    have H := H1
    clear H1
    have H' := Aside0.mk H
    clear H
    have hcz11_0 : w3.cell? ⟨gb272, 0, none⟩ = some (.int .i64 a0_0) := (blk_cell BK272.out 0).trans rfl
    have hcz11_1 : w3.cell? ⟨gb272, 1, none⟩ = some (.int .i64 a0_1) := (blk_cell BK272.out 1).trans rfl
    have hcz11_2 : w3.cell? ⟨gb272, 2, none⟩ = some (.slice A0_2 l0_2.length c0_2) := (blk_cell BK272.out 2).trans rfl
    have hcz11_3 : w3.cell? ⟨gb272, 3, none⟩ = some (.int .i64 a0_3) := (blk_cell BK272.out 3).trans rfl
    have hcz11_4 : w3.cell? ⟨gb272, 4, none⟩ = some (.int .i64 a0_4) := (blk_cell BK272.out 4).trans rfl
    have hfz11_0 := blk_frozen BK272.out 0
    have hfz11_1 := blk_frozen BK272.out 1
    have hfz11_2 := blk_frozen BK272.out 2
    have hfz11_3 := blk_frozen BK272.out 3
    have hfz11_4 := blk_frozen BK272.out 4
    go_wp2_with (first | ((with_reducible refine gate_callee (f := 73) rfl ?_); refine goesL_ (some 6) rfl rfl Try.func73 (by kernel_rfl) rfl #[.int .i64 a0_0, .int .i64 1, .int .i64 64] rfl (by (try simp only [List.map_toArray, List.map_cons, List.map_nil]); first | done | rfl | (simp only [List.length_drop, List.length_take]; rfl)) ?_; (with_reducible refine (padlockref03_Within.calls a0_0 1 64 true _ A4.out).mono ?_); rintro e w' ⟨rfl, ⟨nd, rfl⟩⟩; refine ⟨_, rfl, ?_⟩) | (go_at_call 73; (with_reducible refine (padlockref03_Within.calls a0_1 1 64 false _ A6.out).mono ?_); rintro e w' ⟨rfl, ⟨nd, rfl⟩⟩))
    go_meet
    case rel => exact ⟨_, (true), (by first | rfl | (simp; done) | (simp [*]; done)), H', ⟨by first | omega | exact Nat.le_refl _⟩, ⟨by (with_reducible repeat (first | refine blk_drewN ?_ _ | refine blk_drew ?_ | refine blk_alloc ?_ _)); exact BK272.out⟩, ⟨by repeat (first | (with_reducible first | exact HB.out | apply below_alloc | apply pw_below_drewN | apply below_drew1 | refine below_set ?_ GE272.out) | exact HB.out)⟩⟩
  ·replace c5 := Bool.eq_false_iff.mpr c5
   subst c5
   have H1 : (padlockref03_CheckMaze.j0 k true a0_0 a0_1 l0_2 a0_3 a0_4) = some r := by rw [if_neg (show ¬ (false = true) by decide)] at H; exact H
   clear H
   have H := H1
   clear H1
   have H' := Aside0.mk H
   clear H
   have hcz12_0 : w3.cell? ⟨gb272, 0, none⟩ = some (.int .i64 a0_0) := (blk_cell BK272.out 0).trans rfl
   have hcz12_1 : w3.cell? ⟨gb272, 1, none⟩ = some (.int .i64 a0_1) := (blk_cell BK272.out 1).trans rfl
   have hcz12_2 : w3.cell? ⟨gb272, 2, none⟩ = some (.slice A0_2 l0_2.length c0_2) := (blk_cell BK272.out 2).trans rfl
   have hcz12_3 : w3.cell? ⟨gb272, 3, none⟩ = some (.int .i64 a0_3) := (blk_cell BK272.out 3).trans rfl
   have hcz12_4 : w3.cell? ⟨gb272, 4, none⟩ = some (.int .i64 a0_4) := (blk_cell BK272.out 4).trans rfl
   have hfz12_0 := blk_frozen BK272.out 0
   have hfz12_1 := blk_frozen BK272.out 1
   have hfz12_2 := blk_frozen BK272.out 2
   have hfz12_3 := blk_frozen BK272.out 3
   have hfz12_4 := blk_frozen BK272.out 4
   go_wp2_with (first | ((with_reducible refine gate_callee (f := 73) rfl ?_); refine goesL_ (some 6) rfl rfl Try.func73 (by kernel_rfl) rfl #[.int .i64 a0_0, .int .i64 1, .int .i64 64] rfl (by (try simp only [List.map_toArray, List.map_cons, List.map_nil]); first | done | rfl | (simp only [List.length_drop, List.length_take]; rfl)) ?_; (with_reducible refine (padlockref03_Within.calls a0_0 1 64 false _ A4.out).mono ?_); rintro e w' ⟨rfl, ⟨nd, rfl⟩⟩; refine ⟨_, rfl, ?_⟩))
   go_meet
   case rel => exact ⟨_, (true), (by first | rfl | (simp; done) | (simp [*]; done)), H', ⟨by first | omega | exact Nat.le_refl _⟩, ⟨by (with_reducible repeat (first | refine blk_drewN ?_ _ | refine blk_drew ?_ | refine blk_alloc ?_ _)); exact BK272.out⟩, ⟨by repeat (first | (with_reducible first | exact HB.out | apply below_alloc | apply pw_below_drewN | apply below_drew1 | refine below_set ?_ GE272.out) | exact HB.out)⟩⟩
 case rest =>
  clear HC2
  try clear p2
  try clear c5
  try clear p6
  try clear c7
  try clear c8
  try clear c8b0
  try clear hcz10_0
  try clear hcz10_1
  try clear hcz10_2
  try clear hcz10_3
  try clear hcz10_4
  try clear hcz11_0
  try clear hcz11_1
  try clear hcz11_2
  try clear hcz11_3
  try clear hcz11_4
  try clear hcz12_0
  try clear hcz12_1
  try clear hcz12_2
  try clear hcz12_3
  try clear hcz12_4
  try clear hcz9_0
  try clear hcz9_1
  try clear hcz9_2
  try clear hcz9_3
  try clear hcz9_4
  try clear hfz10_0
  try clear hfz10_1
  try clear hfz10_2
  try clear hfz10_3
  try clear hfz10_4
  try clear hfz11_0
  try clear hfz11_1
  try clear hfz11_2
  try clear hfz11_3
  try clear hfz11_4
  try clear hfz12_0
  try clear hfz12_1
  try clear hfz12_2
  try clear hfz12_3
  try clear hfz12_4
  try clear hfz9_0
  try clear hfz9_1
  try clear hfz9_2
  try clear hfz9_3
  try clear hfz9_4
  obtain ⟨kq, x32_1, rfl, HA, HJ1, BK272, HB⟩ := hcut
  cases kq with
  | zero => exact absurd HA.out (by simp [padlockref03_CheckMaze.j0])
  | succ kj1 =>
   have H := HA.out
   clear HA
   simp only [padlockref03_CheckMaze.j0] at H
   by_cases c13 : x32_1 = true
   ·subst c13
    have H1 : (some 30) = some r := by rw [if_pos rfl] at H; exact H
    clear H
    have H := H1
    clear H1
    obtain rfl := Option.some.inj H
    go_wp2
    go_ret
    exact ⟨by first | rfl | (simp [errW_none, errW_some] <;> rfl) | (simp [*, errW_none, errW_some] <;> rfl), by repeat (first | (with_reducible first | exact HB.out | apply below_alloc | apply pw_below_drewN | apply below_drew1 | refine below_set ?_ GE272.out) | exact HB.out)⟩
   ·replace c13 := Bool.eq_false_iff.mpr c13
    subst c13
    have H1 : ((padlockref03_Within.f a0_3 0 (wrap64 ((l0_2.length : Int) - 1))).bind fun t275 => (if t275 = true then ((padlockref03_Within.f a0_4 0 (wrap64 ((l0_2.length : Int) - 1))).bind fun t276 => (if t276 = true then (if 0 ≤ a0_3 then (if a0_3 < (l0_2.length : Int) then (if rdOf false l0_2 a0_3 = true then (some 30) else (if 0 ≤ a0_4 then (if a0_4 < (l0_2.length : Int) then (if rdOf false l0_2 a0_4 = true then (some 30) else (some 0)) else (none)) else (none))) else (none)) else (none)) else (some 30))) else (some 30))) = some r := by rw [if_neg (show ¬ (false = true) by decide)] at H; exact H
    clear H
    have H := H1
    clear H1
    replace H := Option.bind_eq_some_iff.mp H
    obtain ⟨t275, A140, H⟩ := H
    replace H : (if t275 = true then ((padlockref03_Within.f a0_4 0 (wrap64 ((l0_2.length : Int) - 1))).bind fun t276 => (if t276 = true then (if 0 ≤ a0_3 then (if a0_3 < (l0_2.length : Int) then (if rdOf false l0_2 a0_3 = true then (some 30) else (if 0 ≤ a0_4 then (if a0_4 < (l0_2.length : Int) then (if rdOf false l0_2 a0_4 = true then (some 30) else (some 0)) else (none)) else (none))) else (none)) else (none)) else (some 30))) else (some 30)) = some r := H
    have A14 := Aside0.mk A140
    clear A140
    by_cases c15 : t275 = true
    ·subst c15
     have H1 : ((padlockref03_Within.f a0_4 0 (wrap64 ((l0_2.length : Int) - 1))).bind fun t276 => (if t276 = true then (if 0 ≤ a0_3 then (if a0_3 < (l0_2.length : Int) then (if rdOf false l0_2 a0_3 = true then (some 30) else (if 0 ≤ a0_4 then (if a0_4 < (l0_2.length : Int) then (if rdOf false l0_2 a0_4 = true then (some 30) else (some 0)) else (none)) else (none))) else (none)) else (none)) else (some 30))) = some r := by rw [if_pos rfl] at H; exact H
     clear H
     have H := H1
     clear H1
     replace H := Option.bind_eq_some_iff.mp H
     obtain ⟨t276, A160, H⟩ := H
     replace H : (if t276 = true then (if 0 ≤ a0_3 then (if a0_3 < (l0_2.length : Int) then (if rdOf false l0_2 a0_3 = true then (some 30) else (if 0 ≤ a0_4 then (if a0_4 < (l0_2.length : Int) then (if rdOf false l0_2 a0_4 = true then (some 30) else (some 0)) else (none)) else (none))) else (none)) else (none)) else (some 30)) = some r := H
     have A16 := Aside0.mk A160
     clear A160
     by_cases c17 : t276 = true
     ·subst c17
      have H1 : (if 0 ≤ a0_3 then (if a0_3 < (l0_2.length : Int) then (if rdOf false l0_2 a0_3 = true then (some 30) else (if 0 ≤ a0_4 then (if a0_4 < (l0_2.length : Int) then (if rdOf false l0_2 a0_4 = true then (some 30) else (some 0)) else (none)) else (none))) else (none)) else (none)) = some r := by rw [if_pos rfl] at H; exact H
      clear H
      have H := H1
      clear H1
      by_cases c18 : 0 ≤ a0_3
      ·rw [if_pos c18] at H
       have c18b0 : decide (0 ≤ a0_3) = true := decide_eq_true c18
       clear c18
       by_cases c19 : a0_3 < (l0_2.length : Int)
       ·rw [if_pos c19] at H
        have c19b0 : decide (a0_3 < (l0_2.length : Int)) = true := decide_eq_true c19
        clear c19
        obtain ⟨bq20, hbq20⟩ : ∃ b_ : Bool, b_ = (rdOf false l0_2 a0_3) := ⟨_, rfl⟩
        replace H : (if bq20 = true then (some 30) else (if 0 ≤ a0_4 then (if a0_4 < (l0_2.length : Int) then (if rdOf false l0_2 a0_4 = true then (some 30) else (some 0)) else (none)) else (none))) = some r := by rw [← hbq20] at H; exact H
        have Nbq20 := Aside0.mk hbq20
        clear hbq20
        by_cases c21 : bq20 = true
        ·subst c21
         have H1 : (some 30) = some r := by rw [if_pos rfl] at H; exact H
         clear H
         have H := H1
         clear H1
         obtain rfl := Option.some.inj H
         have hcz22_0 : wc.cell? ⟨gb272, 0, none⟩ = some (.int .i64 a0_0) := (blk_cell BK272.out 0).trans rfl
         have hcz22_1 : wc.cell? ⟨gb272, 1, none⟩ = some (.int .i64 a0_1) := (blk_cell BK272.out 1).trans rfl
         have hcz22_2 : wc.cell? ⟨gb272, 2, none⟩ = some (.slice A0_2 l0_2.length c0_2) := (blk_cell BK272.out 2).trans rfl
         have hcz22_3 : wc.cell? ⟨gb272, 3, none⟩ = some (.int .i64 a0_3) := (blk_cell BK272.out 3).trans rfl
         have hcz22_4 : wc.cell? ⟨gb272, 4, none⟩ = some (.int .i64 a0_4) := (blk_cell BK272.out 4).trans rfl
         have hfz22_0 := blk_frozen BK272.out 0
         have hfz22_1 := blk_frozen BK272.out 1
         have hfz22_2 := blk_frozen BK272.out 2
         have hfz22_3 := blk_frozen BK272.out 3
         have hfz22_4 := blk_frozen BK272.out 4
         go_wp2_with (first | ((with_reducible refine gate_callee (f := 73) rfl ?_); refine goesL_ (some 40) rfl rfl Try.func73 (by kernel_rfl) rfl #[.int .i64 a0_3, .int .i64 0, .int .i64 (wrap64 ((l0_2.length : Int) - 1))] rfl (by (try simp only [List.map_toArray, List.map_cons, List.map_nil]); first | done | rfl | (simp only [List.length_drop, List.length_take]; rfl)) ?_; (with_reducible refine (padlockref03_Within.calls a0_3 0 (wrap64 ((l0_2.length : Int) - 1)) true _ A14.out).mono ?_); rintro e w' ⟨rfl, ⟨nd, rfl⟩⟩; refine ⟨_, rfl, ?_⟩) | (go_at_call 73; (with_reducible refine (padlockref03_Within.calls a0_4 0 (wrap64 ((l0_2.length : Int) - 1)) true _ A16.out).mono ?_); rintro e w' ⟨rfl, ⟨nd, rfl⟩⟩; have p277 : 0 ≤ (a0_3 : Int) := of_decide_eq_true (by first | (with_reducible assumption) | assumption); have q277 : a0_3 < (l0_2.length : Int) := of_decide_eq_true (by first | (with_reducible assumption) | assumption); obtain ⟨ad277, e277, hx277_0⟩ := Kd.at_bool HR0_2.out a0_3 p277 q277; (try rw [← Nbq20.out] at hx277_0); cases e277; replace hx277_0 := (HB.out.cell (World.block_lt_of_cell? w _ hx277_0)).trans hx277_0; replace p277 := eq_true p277; replace q277 := eq_true q277))
         go_ret
         exact ⟨by first | rfl | (simp [errW_none, errW_some] <;> rfl) | (simp [*, errW_none, errW_some] <;> rfl), by repeat (first | (with_reducible first | exact HB.out | apply below_alloc | apply pw_below_drewN | apply below_drew1 | refine below_set ?_ GE272.out) | exact HB.out)⟩
        ·replace c21 := Bool.eq_false_iff.mpr c21
         subst c21
         have H1 : (if 0 ≤ a0_4 then (if a0_4 < (l0_2.length : Int) then (if rdOf false l0_2 a0_4 = true then (some 30) else (some 0)) else (none)) else (none)) = some r := by rw [if_neg (show ¬ (false = true) by decide)] at H; exact H
         clear H
         have H := H1
         clear H1
         by_cases c23 : 0 ≤ a0_4
         ·rw [if_pos c23] at H
          have c23b0 : decide (0 ≤ a0_4) = true := decide_eq_true c23
          clear c23
          by_cases c24 : a0_4 < (l0_2.length : Int)
          ·rw [if_pos c24] at H
           have c24b0 : decide (a0_4 < (l0_2.length : Int)) = true := decide_eq_true c24
           clear c24
           obtain ⟨bq25, hbq25⟩ : ∃ b_ : Bool, b_ = (rdOf false l0_2 a0_4) := ⟨_, rfl⟩
           replace H : (if bq25 = true then (some 30) else (some 0)) = some r := by rw [← hbq25] at H; exact H
           have Nbq25 := Aside0.mk hbq25
           clear hbq25
           by_cases c26 : bq25 = true
           ·subst c26
            have H1 : (some 30) = some r := by rw [if_pos rfl] at H; exact H
            clear H
            have H := H1
            clear H1
            obtain rfl := Option.some.inj H
            have hcz27_0 : wc.cell? ⟨gb272, 0, none⟩ = some (.int .i64 a0_0) := (blk_cell BK272.out 0).trans rfl
            have hcz27_1 : wc.cell? ⟨gb272, 1, none⟩ = some (.int .i64 a0_1) := (blk_cell BK272.out 1).trans rfl
            have hcz27_2 : wc.cell? ⟨gb272, 2, none⟩ = some (.slice A0_2 l0_2.length c0_2) := (blk_cell BK272.out 2).trans rfl
            have hcz27_3 : wc.cell? ⟨gb272, 3, none⟩ = some (.int .i64 a0_3) := (blk_cell BK272.out 3).trans rfl
            have hcz27_4 : wc.cell? ⟨gb272, 4, none⟩ = some (.int .i64 a0_4) := (blk_cell BK272.out 4).trans rfl
            have hfz27_0 := blk_frozen BK272.out 0
            have hfz27_1 := blk_frozen BK272.out 1
            have hfz27_2 := blk_frozen BK272.out 2
            have hfz27_3 := blk_frozen BK272.out 3
            have hfz27_4 := blk_frozen BK272.out 4
            go_wp2_with (first | ((with_reducible refine gate_callee (f := 73) rfl ?_); refine goesL_ (some 40) rfl rfl Try.func73 (by kernel_rfl) rfl #[.int .i64 a0_3, .int .i64 0, .int .i64 (wrap64 ((l0_2.length : Int) - 1))] rfl (by (try simp only [List.map_toArray, List.map_cons, List.map_nil]); first | done | rfl | (simp only [List.length_drop, List.length_take]; rfl)) ?_; (with_reducible refine (padlockref03_Within.calls a0_3 0 (wrap64 ((l0_2.length : Int) - 1)) true _ A14.out).mono ?_); rintro e w' ⟨rfl, ⟨nd, rfl⟩⟩; refine ⟨_, rfl, ?_⟩) | (go_at_call 73; (with_reducible refine (padlockref03_Within.calls a0_4 0 (wrap64 ((l0_2.length : Int) - 1)) true _ A16.out).mono ?_); rintro e w' ⟨rfl, ⟨nd, rfl⟩⟩; have p277 : 0 ≤ (a0_3 : Int) := of_decide_eq_true (by first | (with_reducible assumption) | assumption); have q277 : a0_3 < (l0_2.length : Int) := of_decide_eq_true (by first | (with_reducible assumption) | assumption); obtain ⟨ad277, e277, hx277_0⟩ := Kd.at_bool HR0_2.out a0_3 p277 q277; (try rw [← Nbq20.out] at hx277_0); (try rw [← Nbq25.out] at hx277_0); cases e277; replace hx277_0 := (HB.out.cell (World.block_lt_of_cell? w _ hx277_0)).trans hx277_0; replace p277 := eq_true p277; replace q277 := eq_true q277; have p278 : 0 ≤ (a0_4 : Int) := of_decide_eq_true (by first | (with_reducible assumption) | assumption); have q278 : a0_4 < (l0_2.length : Int) := of_decide_eq_true (by first | (with_reducible assumption) | assumption); obtain ⟨ad278, e278, hx278_0⟩ := Kd.at_bool HR0_2.out a0_4 p278 q278; (try rw [← Nbq20.out] at hx278_0); (try rw [← Nbq25.out] at hx278_0); obtain rfl : ad277 = ad278 := (by injection e278); replace hx278_0 := (HB.out.cell (World.block_lt_of_cell? w _ hx278_0)).trans hx278_0; replace p278 := eq_true p278; replace q278 := eq_true q278))
            go_ret
            exact ⟨by first | rfl | (simp [errW_none, errW_some] <;> rfl) | (simp [*, errW_none, errW_some] <;> rfl), by repeat (first | (with_reducible first | exact HB.out | apply below_alloc | apply pw_below_drewN | apply below_drew1 | refine below_set ?_ GE272.out) | exact HB.out)⟩
           ·replace c26 := Bool.eq_false_iff.mpr c26
            subst c26
            have H1 : (some 0) = some r := by rw [if_neg (show ¬ (false = true) by decide)] at H; exact H
            clear H
            have H := H1
            clear H1
            obtain rfl := Option.some.inj H
            have hcz28_0 : wc.cell? ⟨gb272, 0, none⟩ = some (.int .i64 a0_0) := (blk_cell BK272.out 0).trans rfl
            have hcz28_1 : wc.cell? ⟨gb272, 1, none⟩ = some (.int .i64 a0_1) := (blk_cell BK272.out 1).trans rfl
            have hcz28_2 : wc.cell? ⟨gb272, 2, none⟩ = some (.slice A0_2 l0_2.length c0_2) := (blk_cell BK272.out 2).trans rfl
            have hcz28_3 : wc.cell? ⟨gb272, 3, none⟩ = some (.int .i64 a0_3) := (blk_cell BK272.out 3).trans rfl
            have hcz28_4 : wc.cell? ⟨gb272, 4, none⟩ = some (.int .i64 a0_4) := (blk_cell BK272.out 4).trans rfl
            have hfz28_0 := blk_frozen BK272.out 0
            have hfz28_1 := blk_frozen BK272.out 1
            have hfz28_2 := blk_frozen BK272.out 2
            have hfz28_3 := blk_frozen BK272.out 3
            have hfz28_4 := blk_frozen BK272.out 4
            go_wp2_with (first | ((with_reducible refine gate_callee (f := 73) rfl ?_); refine goesL_ (some 40) rfl rfl Try.func73 (by kernel_rfl) rfl #[.int .i64 a0_3, .int .i64 0, .int .i64 (wrap64 ((l0_2.length : Int) - 1))] rfl (by (try simp only [List.map_toArray, List.map_cons, List.map_nil]); first | done | rfl | (simp only [List.length_drop, List.length_take]; rfl)) ?_; (with_reducible refine (padlockref03_Within.calls a0_3 0 (wrap64 ((l0_2.length : Int) - 1)) true _ A14.out).mono ?_); rintro e w' ⟨rfl, ⟨nd, rfl⟩⟩; refine ⟨_, rfl, ?_⟩) | (go_at_call 73; (with_reducible refine (padlockref03_Within.calls a0_4 0 (wrap64 ((l0_2.length : Int) - 1)) true _ A16.out).mono ?_); rintro e w' ⟨rfl, ⟨nd, rfl⟩⟩; have p277 : 0 ≤ (a0_3 : Int) := of_decide_eq_true (by first | (with_reducible assumption) | assumption); have q277 : a0_3 < (l0_2.length : Int) := of_decide_eq_true (by first | (with_reducible assumption) | assumption); obtain ⟨ad277, e277, hx277_0⟩ := Kd.at_bool HR0_2.out a0_3 p277 q277; (try rw [← Nbq20.out] at hx277_0); (try rw [← Nbq25.out] at hx277_0); cases e277; replace hx277_0 := (HB.out.cell (World.block_lt_of_cell? w _ hx277_0)).trans hx277_0; replace p277 := eq_true p277; replace q277 := eq_true q277; have p278 : 0 ≤ (a0_4 : Int) := of_decide_eq_true (by first | (with_reducible assumption) | assumption); have q278 : a0_4 < (l0_2.length : Int) := of_decide_eq_true (by first | (with_reducible assumption) | assumption); obtain ⟨ad278, e278, hx278_0⟩ := Kd.at_bool HR0_2.out a0_4 p278 q278; (try rw [← Nbq20.out] at hx278_0); (try rw [← Nbq25.out] at hx278_0); obtain rfl : ad277 = ad278 := (by injection e278); replace hx278_0 := (HB.out.cell (World.block_lt_of_cell? w _ hx278_0)).trans hx278_0; replace p278 := eq_true p278; replace q278 := eq_true q278))
            go_ret
            exact ⟨by first | rfl | (simp [errW_none, errW_some] <;> rfl) | (simp [*, errW_none, errW_some] <;> rfl), by repeat (first | (with_reducible first | exact HB.out | apply below_alloc | apply pw_below_drewN | apply below_drew1 | refine below_set ?_ GE272.out) | exact HB.out)⟩
          ·rw [if_neg c24] at H
           exact absurd H (by simp)
         ·rw [if_neg c23] at H
          exact absurd H (by simp)
       ·rw [if_neg c19] at H
        exact absurd H (by simp)
      ·rw [if_neg c18] at H
       exact absurd H (by simp)
     ·replace c17 := Bool.eq_false_iff.mpr c17
      subst c17
      have H1 : (some 30) = some r := by rw [if_neg (show ¬ (false = true) by decide)] at H; exact H
      clear H
      have H := H1
      clear H1
      obtain rfl := Option.some.inj H
      have hcz29_0 : wc.cell? ⟨gb272, 0, none⟩ = some (.int .i64 a0_0) := (blk_cell BK272.out 0).trans rfl
      have hcz29_1 : wc.cell? ⟨gb272, 1, none⟩ = some (.int .i64 a0_1) := (blk_cell BK272.out 1).trans rfl
      have hcz29_2 : wc.cell? ⟨gb272, 2, none⟩ = some (.slice A0_2 l0_2.length c0_2) := (blk_cell BK272.out 2).trans rfl
      have hcz29_3 : wc.cell? ⟨gb272, 3, none⟩ = some (.int .i64 a0_3) := (blk_cell BK272.out 3).trans rfl
      have hcz29_4 : wc.cell? ⟨gb272, 4, none⟩ = some (.int .i64 a0_4) := (blk_cell BK272.out 4).trans rfl
      have hfz29_0 := blk_frozen BK272.out 0
      have hfz29_1 := blk_frozen BK272.out 1
      have hfz29_2 := blk_frozen BK272.out 2
      have hfz29_3 := blk_frozen BK272.out 3
      have hfz29_4 := blk_frozen BK272.out 4
      go_wp2_with (first | ((with_reducible refine gate_callee (f := 73) rfl ?_); refine goesL_ (some 40) rfl rfl Try.func73 (by kernel_rfl) rfl #[.int .i64 a0_3, .int .i64 0, .int .i64 (wrap64 ((l0_2.length : Int) - 1))] rfl (by (try simp only [List.map_toArray, List.map_cons, List.map_nil]); first | done | rfl | (simp only [List.length_drop, List.length_take]; rfl)) ?_; (with_reducible refine (padlockref03_Within.calls a0_3 0 (wrap64 ((l0_2.length : Int) - 1)) true _ A14.out).mono ?_); rintro e w' ⟨rfl, ⟨nd, rfl⟩⟩; refine ⟨_, rfl, ?_⟩) | (go_at_call 73; (with_reducible refine (padlockref03_Within.calls a0_4 0 (wrap64 ((l0_2.length : Int) - 1)) false _ A16.out).mono ?_); rintro e w' ⟨rfl, ⟨nd, rfl⟩⟩))
      go_ret
      exact ⟨by first | rfl | (simp [errW_none, errW_some] <;> rfl) | (simp [*, errW_none, errW_some] <;> rfl), by repeat (first | (with_reducible first | exact HB.out | apply below_alloc | apply pw_below_drewN | apply below_drew1 | refine below_set ?_ GE272.out) | exact HB.out)⟩
    ·replace c15 := Bool.eq_false_iff.mpr c15
     subst c15
     have H1 : (some 30) = some r := by rw [if_neg (show ¬ (false = true) by decide)] at H; exact H
     clear H
     have H := H1
     clear H1
     obtain rfl := Option.some.inj H
     have hcz30_0 : wc.cell? ⟨gb272, 0, none⟩ = some (.int .i64 a0_0) := (blk_cell BK272.out 0).trans rfl
     have hcz30_1 : wc.cell? ⟨gb272, 1, none⟩ = some (.int .i64 a0_1) := (blk_cell BK272.out 1).trans rfl
     have hcz30_2 : wc.cell? ⟨gb272, 2, none⟩ = some (.slice A0_2 l0_2.length c0_2) := (blk_cell BK272.out 2).trans rfl
     have hcz30_3 : wc.cell? ⟨gb272, 3, none⟩ = some (.int .i64 a0_3) := (blk_cell BK272.out 3).trans rfl
     have hcz30_4 : wc.cell? ⟨gb272, 4, none⟩ = some (.int .i64 a0_4) := (blk_cell BK272.out 4).trans rfl
     have hfz30_0 := blk_frozen BK272.out 0
     have hfz30_1 := blk_frozen BK272.out 1
     have hfz30_2 := blk_frozen BK272.out 2
     have hfz30_3 := blk_frozen BK272.out 3
     have hfz30_4 := blk_frozen BK272.out 4
     go_wp2_with (first | ((with_reducible refine gate_callee (f := 73) rfl ?_); refine goesL_ (some 40) rfl rfl Try.func73 (by kernel_rfl) rfl #[.int .i64 a0_3, .int .i64 0, .int .i64 (wrap64 ((l0_2.length : Int) - 1))] rfl (by (try simp only [List.map_toArray, List.map_cons, List.map_nil]); first | done | rfl | (simp only [List.length_drop, List.length_take]; rfl)) ?_; (with_reducible refine (padlockref03_Within.calls a0_3 0 (wrap64 ((l0_2.length : Int) - 1)) false _ A14.out).mono ?_); rintro e w' ⟨rfl, ⟨nd, rfl⟩⟩; refine ⟨_, rfl, ?_⟩))
     go_ret
     exact ⟨by first | rfl | (simp [errW_none, errW_some] <;> rfl) | (simp [*, errW_none, errW_some] <;> rfl), by repeat (first | (with_reducible first | exact HB.out | apply below_alloc | apply pw_below_drewN | apply below_drew1 | refine below_set ?_ GE272.out) | exact HB.out)⟩

end Go.Proofs.Ytdhiijleafcfcaa.T
