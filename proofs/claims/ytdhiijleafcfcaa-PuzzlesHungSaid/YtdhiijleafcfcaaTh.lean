-- PRINTED by print.py (a twelfth state) out of the translation. Not trusted: Lean checks it.
import Derived.Test.YtdhiijleafcfcaaT0
import Derived.Test.YtdhiijleafcfcaaTw
namespace Go.Proofs.Ytdhiijleafcfcaa.T
open Go.RowKit Go.Proofs.YtdhiijleafcfcaaW.PrintWords Go.Proofs.YtdhiijleafcfcaaW.PrintLast Go.Proofs.YtdhiijleafcfcaaW.PrintMore
attribute [local go_sem] max2_int min2_int max_two min_two max_three min_three max_four min_four   -- for this text's walks alone
set_option linter.unusedVariables false
set_option linter.unusedSimpArgs false

/-! ### padlockref03_CheckPortraits: function 58 -/
mutual
def padlockref03_CheckPortraits.l0 : Nat → Int → List (S76) → Int → Option (Int)
 | 0, _, _, _ => none
 | k + 1, x0, x1, x5 => if x5 < (x1.length : Int) then (if 0 ≤ x5 then ((padlockref03_Within.f ((rd_T76 x1 x5).f2) 0 (wrap64 (x0 - 1))).bind fun t708 => (if t708 = true then (padlockref03_CheckPortraits.j1 k x0 x1 x5 (((rd_T76 x1 x5).f1) != ((rd_T76 x1 x5).f2)) ((rd_T76 x1 x5).f0) ((rd_T76 x1 x5).f1) ((rd_T76 x1 x5).f2) ((rd_T76 x1 x5).f3) ((rd_T76 x1 x5).f4)) else (padlockref03_CheckPortraits.j1 k x0 x1 x5 false ((rd_T76 x1 x5).f0) ((rd_T76 x1 x5).f1) ((rd_T76 x1 x5).f2) ((rd_T76 x1 x5).f3) ((rd_T76 x1 x5).f4)))) else (none)) else (some 0)
def padlockref03_CheckPortraits.j1 : Nat → Int → List (S76) → Int → Bool → Int → Int → Int → Int → Bool → Option (Int)
 | 0, _, _, _, _, _, _, _, _, _ => none
 | k + 1, x0, x1, x5, x7, x708000, x708001, x708002, x708003, x708004 => if x708000 = 1 then (if x708002 = 0 then ((padlockref03_Within.f x708003 0 (wrap64 (x0 - 1))).bind fun t709 => (if t709 = true then ((padlockref03_Within.f x708001 0 (wrap64 (x0 - 1))).bind fun t710 => (if t710 = true then (padlockref03_CheckPortraits.l0 k x0 x1 (wrap64 (x5 + 1))) else (some 31))) else (some 31))) else (some 31)) else (if x708000 = 2 then (padlockref03_CheckPortraits.j2 k x0 x1 x5 x7 false x708000 (x708000 == 2) x708000 x708001 x708002 x708003 x708004) else (padlockref03_CheckPortraits.j2 k x0 x1 x5 x7 false x708000 (x708000 == 3) x708000 x708001 x708002 x708003 x708004))
def padlockref03_CheckPortraits.j2 : Nat → Int → List (S76) → Int → Bool → Bool → Int → Bool → Int → Int → Int → Int → Bool → Option (Int)
 | 0, _, _, _, _, _, _, _, _, _, _, _, _ => none
 | k + 1, x0, x1, x5, x7, x8, x38, x51, x708000, x708001, x708002, x708003, x708004 => if x51 = true then (if x7 = true then (if x708003 = 0 then ((padlockref03_Within.f x708001 0 (wrap64 (x0 - 1))).bind fun t711 => (if t711 = true then (padlockref03_CheckPortraits.l0 k x0 x1 (wrap64 (x5 + 1))) else (some 31))) else (some 31)) else (some 31)) else (if x38 = 4 then (if x7 = true then ((padlockref03_Within.f x708003 0 x0).bind fun t712 => (if t712 = true then ((padlockref03_Within.f x708001 0 (wrap64 (x0 - 1))).bind fun t713 => (if t713 = true then (padlockref03_CheckPortraits.l0 k x0 x1 (wrap64 (x5 + 1))) else (some 31))) else (some 31))) else (some 31)) else (if x8 = true then ((padlockref03_Within.f x708001 0 (wrap64 (x0 - 1))).bind fun t714 => (if t714 = true then (padlockref03_CheckPortraits.l0 k x0 x1 (wrap64 (x5 + 1))) else (some 31))) else (some 31)))
end
def padlockref03_CheckPortraits.f (k : Nat) (a0 : Int) (l1 : List (S76)) : Option (Int) := (padlockref03_Within.f a0 1 6).bind fun t705 => (if t705 = true then (if (l1.length : Int) > 20 then (some 2) else (padlockref03_CheckPortraits.l0 k a0 l1 0)) else (some 1))
theorem padlockref03_CheckPortraits.mono_l : ∀ k, (∀ y0 y1 y2, LeO (padlockref03_CheckPortraits.l0 k y0 y1 y2) (padlockref03_CheckPortraits.l0 (k + 1) y0 y1 y2)) ∧ (∀ y0 y1 y2 y3 y4 y5 y6 y7 y8, LeO (padlockref03_CheckPortraits.j1 k y0 y1 y2 y3 y4 y5 y6 y7 y8) (padlockref03_CheckPortraits.j1 (k + 1) y0 y1 y2 y3 y4 y5 y6 y7 y8)) ∧ (∀ y0 y1 y2 y3 y4 y5 y6 y7 y8 y9 y10 y11, LeO (padlockref03_CheckPortraits.j2 k y0 y1 y2 y3 y4 y5 y6 y7 y8 y9 y10 y11) (padlockref03_CheckPortraits.j2 (k + 1) y0 y1 y2 y3 y4 y5 y6 y7 y8 y9 y10 y11))
 | 0 => ⟨fun _ _ _ r h => by simp [padlockref03_CheckPortraits.l0] at h, fun _ _ _ _ _ _ _ _ _ r h => by simp [padlockref03_CheckPortraits.j1] at h, fun _ _ _ _ _ _ _ _ _ _ _ _ r h => by simp [padlockref03_CheckPortraits.j2] at h⟩
 | k + 1 => by
  obtain ⟨ih0, ih1, ih2⟩ := padlockref03_CheckPortraits.mono_l k
  refine ⟨?_, ?_, ?_⟩
  ·intro y0 y1 y2
   unfold padlockref03_CheckPortraits.l0
   repeat' first
   | (with_reducible exact ih0 _ _ _)
   | (with_reducible exact ih1 _ _ _ _ _ _ _ _ _)
   | (with_reducible exact ih2 _ _ _ _ _ _ _ _ _ _ _ _)
   | (with_reducible exact LeO.refl _)
   | (with_reducible exact LeO.none _)
   | (with_reducible refine LeO.ite ?_ ?_)
   | (with_reducible refine LeO.bind ?_ (fun _ => ?_))
   | exact ih0 _ _ _
   | exact ih1 _ _ _ _ _ _ _ _ _
   | exact ih2 _ _ _ _ _ _ _ _ _ _ _ _
   | exact LeO.none _
   | refine LeO.ite ?_ ?_
   | refine LeO.bind ?_ (fun _ => ?_)
  ·intro y0 y1 y2 y3 y4 y5 y6 y7 y8
   unfold padlockref03_CheckPortraits.j1
   repeat' first
   | (with_reducible exact ih0 _ _ _)
   | (with_reducible exact ih1 _ _ _ _ _ _ _ _ _)
   | (with_reducible exact ih2 _ _ _ _ _ _ _ _ _ _ _ _)
   | (with_reducible exact LeO.refl _)
   | (with_reducible exact LeO.none _)
   | (with_reducible refine LeO.ite ?_ ?_)
   | (with_reducible refine LeO.bind ?_ (fun _ => ?_))
   | exact ih0 _ _ _
   | exact ih1 _ _ _ _ _ _ _ _ _
   | exact ih2 _ _ _ _ _ _ _ _ _ _ _ _
   | exact LeO.none _
   | refine LeO.ite ?_ ?_
   | refine LeO.bind ?_ (fun _ => ?_)
  ·intro y0 y1 y2 y3 y4 y5 y6 y7 y8 y9 y10 y11
   unfold padlockref03_CheckPortraits.j2
   repeat' first
   | (with_reducible exact ih0 _ _ _)
   | (with_reducible exact ih1 _ _ _ _ _ _ _ _ _)
   | (with_reducible exact ih2 _ _ _ _ _ _ _ _ _ _ _ _)
   | (with_reducible exact LeO.refl _)
   | (with_reducible exact LeO.none _)
   | (with_reducible refine LeO.ite ?_ ?_)
   | (with_reducible refine LeO.bind ?_ (fun _ => ?_))
   | exact ih0 _ _ _
   | exact ih1 _ _ _ _ _ _ _ _ _
   | exact ih2 _ _ _ _ _ _ _ _ _ _ _ _
   | exact LeO.none _
   | refine LeO.ite ?_ ?_
   | refine LeO.bind ?_ (fun _ => ?_)
theorem padlockref03_CheckPortraits.mono : ∀ a0 a1 k, LeO (padlockref03_CheckPortraits.f k a0 a1) (padlockref03_CheckPortraits.f (k + 1) a0 a1) := by
 intro a0 a1 k
 obtain ⟨ih0, ih1, ih2⟩ := padlockref03_CheckPortraits.mono_l k
 unfold padlockref03_CheckPortraits.f
 repeat' first
   | (with_reducible exact ih0 _ _ _)
   | (with_reducible exact ih1 _ _ _ _ _ _ _ _ _)
   | (with_reducible exact ih2 _ _ _ _ _ _ _ _ _ _ _ _)
   | (with_reducible exact LeO.refl _)
   | (with_reducible exact LeO.none _)
   | (with_reducible refine LeO.ite ?_ ?_)
   | (with_reducible refine LeO.bind ?_ (fun _ => ?_))
   | exact ih0 _ _ _
   | exact ih1 _ _ _ _ _ _ _ _ _
   | exact ih2 _ _ _ _ _ _ _ _ _ _ _ _
   | exact LeO.none _
   | refine LeO.ite ?_ ?_
   | refine LeO.bind ?_ (fun _ => ?_)
set_option maxHeartbeats 8000000 in
set_option maxRecDepth 100000 in
theorem padlockref03_CheckPortraits.calls (k : Nat) (a0 : Int) (A1 : Option Addr) (c1 : Nat) (l1 : List (S76)) (r : Int) (w : World) (hr1 : Kd.C k76 w A1 l1.length l1) (hc1 : l1.length ≤ c1) (h : padlockref03_CheckPortraits.f k a0 l1 = some r) :
  Calls Try.prog 58 #[.int .i64 a0, .slice A1 l1.length c1] w fun e w' => e = .returned (.int .i64 r) ∧ Below w.heap.size w w' := by
 have hu76 := Try.underlying76
 have HR1 := Aside0.mk hr1
 have HC1 := Aside0.mk hc1
 clear hr1 hc1
 have HB := Aside0.mk (Below.refl w.heap.size w)
 have H : ((padlockref03_Within.f a0 1 6).bind fun t705 => (if t705 = true then (if (l1.length : Int) > 20 then (some 2) else (padlockref03_CheckPortraits.l0 k a0 l1 0)) else (some 1))) = some r := h
 clear h
 replace H := Option.bind_eq_some_iff.mp H
 obtain ⟨t705, A30, H⟩ := H
 replace H : (if t705 = true then (if (l1.length : Int) > 20 then (some 2) else (padlockref03_CheckPortraits.l0 k a0 l1 0)) else (some 1)) = some r := H
 have A3 := Aside0.mk A30
 clear A30
 by_cases c4 : t705 = true
 ·subst c4
  have H1 : (if (l1.length : Int) > 20 then (some 2) else (padlockref03_CheckPortraits.l0 k a0 l1 0)) = some r := by rw [if_pos rfl] at H; exact H
  clear H
  have H := H1
  clear H1
  by_cases c5 : (l1.length : Int) > 20
  ·rw [if_pos c5] at H
   have c5b0 : decide (20 < (l1.length : Int)) = true := decide_eq_true c5
   have c5b1 : decide (20 < l1.length) = true := decide_eq_true (by omega)
   clear c5
   obtain rfl := Option.some.inj H
   go_enter Try.func58, Try.ntmps58
   go_wp2_with (first | ((with_reducible refine gate_callee (f := 73) rfl ?_); refine goesL_ (some 10) rfl rfl Try.func73 (by kernel_rfl) rfl #[.int .i64 a0, .int .i64 1, .int .i64 6] rfl (by (try simp only [List.map_toArray, List.map_cons, List.map_nil]); first | done | rfl | (simp only [List.length_drop, List.length_take]; rfl)) ?_; (with_reducible refine (padlockref03_Within.calls a0 1 6 true _ A3.out).mono ?_); rintro e w' ⟨rfl, ⟨nd, rfl⟩⟩; refine ⟨_, rfl, ?_⟩))
   go_ret
   exact ⟨by first | rfl | (simp [errW_none, errW_some] <;> rfl) | (simp [*, errW_none, errW_some] <;> rfl), by repeat (first | (with_reducible first | exact HB.out | apply below_alloc | apply pw_below_drewN | apply below_drew1) | exact HB.out)⟩
  ·rw [if_neg c5] at H
   have c5b0 : decide (20 < (l1.length : Int)) = false := decide_eq_false c5
   have c5b1 : decide (20 < l1.length) = false := decide_eq_false (by omega)
   clear c5
   have H' := Aside0.mk H
   clear H
   go_enter Try.func58, Try.ntmps58
   go_wp2_with (first | ((with_reducible refine gate_callee (f := 73) rfl ?_); refine goesL_ (some 10) rfl rfl Try.func73 (by kernel_rfl) rfl #[.int .i64 a0, .int .i64 1, .int .i64 6] rfl (by (try simp only [List.map_toArray, List.map_cons, List.map_nil]); first | done | rfl | (simp only [List.length_drop, List.length_take]; rfl)) ?_; (with_reducible refine (padlockref03_Within.calls a0 1 6 true _ A3.out).mono ?_); rintro e w' ⟨rfl, ⟨nd, rfl⟩⟩; refine ⟨_, rfl, ?_⟩))
   go_loopg [5] k (fun kq v5 w' => ∃ (x5_1 : Int), v5 = .int .i64 x5_1 ∧ Aside0 (padlockref03_CheckPortraits.l0 kq a0 l1 x5_1 = some r) ∧ Aside0 (kq ≤ k) ∧ Aside0 (Below w.heap.size w w'))
   case atStart => exact ⟨(0), (by first | rfl | (simp; done) | (simp [*]; done)), H', ⟨Nat.le_refl _⟩, ⟨by repeat (first | (with_reducible first | exact HB.out | apply below_alloc | apply pw_below_drewN | apply below_drew1) | exact HB.out)⟩⟩
   case round =>
    clear H'
    try clear c1
    try clear p2
    try clear c4
    try clear c5
    try clear c5b0
    try clear c5b1
    obtain ⟨x5_1, rfl, HA, HK1, HB⟩ := hrel
    cases gk with
    | zero => exact absurd HA.out (by simp [padlockref03_CheckPortraits.l0])
    | succ k1 =>
     have H := HA.out
     clear HA
     simp only [padlockref03_CheckPortraits.l0] at H
     by_cases c6 : x5_1 < (l1.length : Int)
     ·rw [if_pos c6] at H
      have c6b0 : decide (x5_1 < (l1.length : Int)) = true := decide_eq_true c6
      clear c6
      by_cases c7 : 0 ≤ x5_1
      ·rw [if_pos c7] at H
       have c7b0 : decide (0 ≤ x5_1) = true := decide_eq_true c7
       clear c7
       have HC8 := Aside0.mk H
       clear H
       have p706 : 0 ≤ (x5_1 : Int) := of_decide_eq_true (by first | (with_reducible assumption) | assumption)
       have q706 : x5_1 < (l1.length : Int) := of_decide_eq_true (by first | (with_reducible assumption) | assumption)
       obtain ⟨ad706, e706, hx706_0, hx706_1, hx706_2, hx706_3, hx706_4⟩ := at_T76 HR1.out x5_1 p706 q706
       cases e706
       replace hx706_0 := (HB.out.cell (World.block_lt_of_cell? w _ hx706_0)).trans hx706_0
       replace hx706_1 := (HB.out.cell (World.block_lt_of_cell? w _ hx706_1)).trans hx706_1
       replace hx706_2 := (HB.out.cell (World.block_lt_of_cell? w _ hx706_2)).trans hx706_2
       replace hx706_3 := (HB.out.cell (World.block_lt_of_cell? w _ hx706_3)).trans hx706_3
       replace hx706_4 := (HB.out.cell (World.block_lt_of_cell? w _ hx706_4)).trans hx706_4
       replace p706 := eq_true p706
       replace q706 := eq_true q706
       go_upto_region 9 with (first | ((with_reducible refine gate_dst (N := 6) rfl ?_); refine box_event ?hg (N := 6) ?hd (cs := #[.int .i64 0, .int .i64 0, .int .i64 0, .int .i64 0, .bool false]) (t := 76) ?hr ?_; (case hd => rfl); (case hg => rfl); (case hr => first | (go_simp; done) | (go_simp; rfl)); intro gb707 hg w9 hbox hb; have n0_ := Aside0.mk (below_step (by repeat (first | (with_reducible first | exact HB.out | apply below_alloc | apply pw_below_drewN | apply below_drew1) | exact HB.out)) hb); have n1_ := Aside0.mk (hbox); have n2_ := Aside0.mk ((by rw [hg]; exact (below_size (by repeat (first | (with_reducible first | exact HB.out | apply below_alloc | apply pw_below_drewN | apply below_drew1) | exact HB.out))) : w.heap.size ≤ gb707)); have n3_ := Aside0.mk ((by rw [hg]; exact (below_size (by repeat (first | (with_reducible first | exact HB.out | apply below_alloc | apply pw_below_drewN | apply below_drew1) | exact HB.out))) : w.heap.size ≤ gb707)); clear HB; have HB := n0_; have BK707 := n1_; have GW707 := n2_; have GE707 := n3_; clear n0_ n1_ n2_ n3_; clear hb hbox hg; have hcz10_0 : w9.cell? ⟨gb707, 0, none⟩ = some (.int .i64 0) := (blk_cell BK707.out 0).trans rfl; have hcz10_1 : w9.cell? ⟨gb707, 1, none⟩ = some (.int .i64 0) := (blk_cell BK707.out 1).trans rfl; have hcz10_2 : w9.cell? ⟨gb707, 2, none⟩ = some (.int .i64 0) := (blk_cell BK707.out 2).trans rfl; have hcz10_3 : w9.cell? ⟨gb707, 3, none⟩ = some (.int .i64 0) := (blk_cell BK707.out 3).trans rfl; have hcz10_4 : w9.cell? ⟨gb707, 4, none⟩ = some (.bool false) := (blk_cell BK707.out 4).trans rfl; have hfz10_0 := blk_frozen BK707.out 0; have hfz10_1 := blk_frozen BK707.out 1; have hfz10_2 := blk_frozen BK707.out 2; have hfz10_3 := blk_frozen BK707.out 3; have hfz10_4 := blk_frozen BK707.out 4))
       (try simp only [Act.put, List.setIfInBounds_toArray, List.set_cons_zero, List.set_cons_succ])
       go_cut [7] (fun v7 wc => ∃ (kq : Nat) (x7_7 : Bool), v7 = .bool x7_7 ∧ Aside0 (padlockref03_CheckPortraits.j1 kq a0 l1 x5_1 x7_7 ((rd_T76 l1 x5_1).f0) ((rd_T76 l1 x5_1).f1) ((rd_T76 l1 x5_1).f2) ((rd_T76 l1 x5_1).f3) ((rd_T76 l1 x5_1).f4) = some r) ∧ Aside0 (kq ≤ k1) ∧ Aside0 (wc.heap[gb707]? = some (.cells #[.int .i64 ((rd_T76 l1 x5_1).f0), .int .i64 ((rd_T76 l1 x5_1).f1), .int .i64 ((rd_T76 l1 x5_1).f2), .int .i64 ((rd_T76 l1 x5_1).f3), .bool ((rd_T76 l1 x5_1).f4)] 76 (0, 0))) ∧ Aside0 (Below w.heap.size w wc))
       case first =>
        have H := HC8.out
        clear HC8
        replace H := Option.bind_eq_some_iff.mp H
        obtain ⟨t708, A110, H⟩ := H
        replace H : (if t708 = true then (padlockref03_CheckPortraits.j1 k1 a0 l1 x5_1 (((rd_T76 l1 x5_1).f1) != ((rd_T76 l1 x5_1).f2)) ((rd_T76 l1 x5_1).f0) ((rd_T76 l1 x5_1).f1) ((rd_T76 l1 x5_1).f2) ((rd_T76 l1 x5_1).f3) ((rd_T76 l1 x5_1).f4)) else (padlockref03_CheckPortraits.j1 k1 a0 l1 x5_1 false ((rd_T76 l1 x5_1).f0) ((rd_T76 l1 x5_1).f1) ((rd_T76 l1 x5_1).f2) ((rd_T76 l1 x5_1).f3) ((rd_T76 l1 x5_1).f4))) = some r := H
        have A11 := Aside0.mk A110
        clear A110
        by_cases c12 : t708 = true
        ·subst c12
         have H1 : (padlockref03_CheckPortraits.j1 k1 a0 l1 x5_1 (((rd_T76 l1 x5_1).f1) != ((rd_T76 l1 x5_1).f2)) ((rd_T76 l1 x5_1).f0) ((rd_T76 l1 x5_1).f1) ((rd_T76 l1 x5_1).f2) ((rd_T76 l1 x5_1).f3) ((rd_T76 l1 x5_1).f4)) = some r := by rw [if_pos rfl] at H; exact H
         clear H
         have H := H1
         clear H1
         have H' := Aside0.mk H
         clear H
         have hcz13_0 : w9.cell? ⟨gb707, 0, none⟩ = some (.int .i64 0) := (blk_cell BK707.out 0).trans rfl
         have hcz13_1 : w9.cell? ⟨gb707, 1, none⟩ = some (.int .i64 0) := (blk_cell BK707.out 1).trans rfl
         have hcz13_2 : w9.cell? ⟨gb707, 2, none⟩ = some (.int .i64 0) := (blk_cell BK707.out 2).trans rfl
         have hcz13_3 : w9.cell? ⟨gb707, 3, none⟩ = some (.int .i64 0) := (blk_cell BK707.out 3).trans rfl
         have hcz13_4 : w9.cell? ⟨gb707, 4, none⟩ = some (.bool false) := (blk_cell BK707.out 4).trans rfl
         have hfz13_0 := blk_frozen BK707.out 0
         have hfz13_1 := blk_frozen BK707.out 1
         have hfz13_2 := blk_frozen BK707.out 2
         have hfz13_3 := blk_frozen BK707.out 3
         have hfz13_4 := blk_frozen BK707.out 4
         go_wp2_with (first | ((with_reducible refine gate_callee (f := 73) rfl ?_); refine goesL_ (some 29) rfl rfl Try.func73 (by kernel_rfl) rfl #[.int .i64 ((rd_T76 l1 x5_1).f2), .int .i64 0, .int .i64 (wrap64 (a0 - 1))] rfl (by (try simp only [List.map_toArray, List.map_cons, List.map_nil]); first | done | rfl | (simp only [List.length_drop, List.length_take]; rfl)) ?_; (with_reducible refine (padlockref03_Within.calls ((rd_T76 l1 x5_1).f2) 0 (wrap64 (a0 - 1)) true _ A11.out).mono ?_); rintro e w' ⟨rfl, ⟨nd, rfl⟩⟩; refine ⟨_, rfl, ?_⟩))
         go_meet
         case rel => exact ⟨_, ((((rd_T76 l1 x5_1).f1) != ((rd_T76 l1 x5_1).f2))), (by first | rfl | (simp; done) | (simp [*]; done)), H', ⟨by have := HK1.out; first | omega | exact Nat.le_refl _⟩, ⟨by (with_reducible repeat (first | refine blk_drewN ?_ _ | refine blk_drew ?_ | refine blk_alloc ?_ _)); refine blk_put (cs := #[.int .i64 ((rd_T76 l1 x5_1).f0), .int .i64 ((rd_T76 l1 x5_1).f1), .int .i64 ((rd_T76 l1 x5_1).f2), .int .i64 ((rd_T76 l1 x5_1).f3), .bool false]) ?_ 4 _ rfl; (with_reducible repeat (first | refine blk_drewN ?_ _ | refine blk_drew ?_ | refine blk_alloc ?_ _)); refine blk_put (cs := #[.int .i64 ((rd_T76 l1 x5_1).f0), .int .i64 ((rd_T76 l1 x5_1).f1), .int .i64 ((rd_T76 l1 x5_1).f2), .int .i64 0, .bool false]) ?_ 3 _ rfl; (with_reducible repeat (first | refine blk_drewN ?_ _ | refine blk_drew ?_ | refine blk_alloc ?_ _)); refine blk_put (cs := #[.int .i64 ((rd_T76 l1 x5_1).f0), .int .i64 ((rd_T76 l1 x5_1).f1), .int .i64 0, .int .i64 0, .bool false]) ?_ 2 _ rfl; (with_reducible repeat (first | refine blk_drewN ?_ _ | refine blk_drew ?_ | refine blk_alloc ?_ _)); refine blk_put (cs := #[.int .i64 ((rd_T76 l1 x5_1).f0), .int .i64 0, .int .i64 0, .int .i64 0, .bool false]) ?_ 1 _ rfl; (with_reducible repeat (first | refine blk_drewN ?_ _ | refine blk_drew ?_ | refine blk_alloc ?_ _)); refine blk_put (cs := #[.int .i64 0, .int .i64 0, .int .i64 0, .int .i64 0, .bool false]) ?_ 0 _ rfl; (with_reducible repeat (first | refine blk_drewN ?_ _ | refine blk_drew ?_ | refine blk_alloc ?_ _)); exact BK707.out⟩, ⟨by repeat (first | (with_reducible first | exact HB.out | apply below_alloc | apply pw_below_drewN | apply below_drew1 | refine below_set ?_ GE707.out) | exact HB.out)⟩⟩
        ·replace c12 := Bool.eq_false_iff.mpr c12
         subst c12
         have H1 : (padlockref03_CheckPortraits.j1 k1 a0 l1 x5_1 false ((rd_T76 l1 x5_1).f0) ((rd_T76 l1 x5_1).f1) ((rd_T76 l1 x5_1).f2) ((rd_T76 l1 x5_1).f3) ((rd_T76 l1 x5_1).f4)) = some r := by rw [if_neg (show ¬ (false = true) by decide)] at H; exact H
         clear H
         have H := H1
         clear H1
         have H' := Aside0.mk H
         clear H
         have hcz14_0 : w9.cell? ⟨gb707, 0, none⟩ = some (.int .i64 0) := (blk_cell BK707.out 0).trans rfl
         have hcz14_1 : w9.cell? ⟨gb707, 1, none⟩ = some (.int .i64 0) := (blk_cell BK707.out 1).trans rfl
         have hcz14_2 : w9.cell? ⟨gb707, 2, none⟩ = some (.int .i64 0) := (blk_cell BK707.out 2).trans rfl
         have hcz14_3 : w9.cell? ⟨gb707, 3, none⟩ = some (.int .i64 0) := (blk_cell BK707.out 3).trans rfl
         have hcz14_4 : w9.cell? ⟨gb707, 4, none⟩ = some (.bool false) := (blk_cell BK707.out 4).trans rfl
         have hfz14_0 := blk_frozen BK707.out 0
         have hfz14_1 := blk_frozen BK707.out 1
         have hfz14_2 := blk_frozen BK707.out 2
         have hfz14_3 := blk_frozen BK707.out 3
         have hfz14_4 := blk_frozen BK707.out 4
         go_wp2_with (first | ((with_reducible refine gate_callee (f := 73) rfl ?_); refine goesL_ (some 29) rfl rfl Try.func73 (by kernel_rfl) rfl #[.int .i64 ((rd_T76 l1 x5_1).f2), .int .i64 0, .int .i64 (wrap64 (a0 - 1))] rfl (by (try simp only [List.map_toArray, List.map_cons, List.map_nil]); first | done | rfl | (simp only [List.length_drop, List.length_take]; rfl)) ?_; (with_reducible refine (padlockref03_Within.calls ((rd_T76 l1 x5_1).f2) 0 (wrap64 (a0 - 1)) false _ A11.out).mono ?_); rintro e w' ⟨rfl, ⟨nd, rfl⟩⟩; refine ⟨_, rfl, ?_⟩))
         go_meet
         case rel => exact ⟨_, (false), (by first | rfl | (simp; done) | (simp [*]; done)), H', ⟨by have := HK1.out; first | omega | exact Nat.le_refl _⟩, ⟨by (with_reducible repeat (first | refine blk_drewN ?_ _ | refine blk_drew ?_ | refine blk_alloc ?_ _)); refine blk_put (cs := #[.int .i64 ((rd_T76 l1 x5_1).f0), .int .i64 ((rd_T76 l1 x5_1).f1), .int .i64 ((rd_T76 l1 x5_1).f2), .int .i64 ((rd_T76 l1 x5_1).f3), .bool false]) ?_ 4 _ rfl; (with_reducible repeat (first | refine blk_drewN ?_ _ | refine blk_drew ?_ | refine blk_alloc ?_ _)); refine blk_put (cs := #[.int .i64 ((rd_T76 l1 x5_1).f0), .int .i64 ((rd_T76 l1 x5_1).f1), .int .i64 ((rd_T76 l1 x5_1).f2), .int .i64 0, .bool false]) ?_ 3 _ rfl; (with_reducible repeat (first | refine blk_drewN ?_ _ | refine blk_drew ?_ | refine blk_alloc ?_ _)); refine blk_put (cs := #[.int .i64 ((rd_T76 l1 x5_1).f0), .int .i64 ((rd_T76 l1 x5_1).f1), .int .i64 0, .int .i64 0, .bool false]) ?_ 2 _ rfl; (with_reducible repeat (first | refine blk_drewN ?_ _ | refine blk_drew ?_ | refine blk_alloc ?_ _)); refine blk_put (cs := #[.int .i64 ((rd_T76 l1 x5_1).f0), .int .i64 0, .int .i64 0, .int .i64 0, .bool false]) ?_ 1 _ rfl; (with_reducible repeat (first | refine blk_drewN ?_ _ | refine blk_drew ?_ | refine blk_alloc ?_ _)); refine blk_put (cs := #[.int .i64 0, .int .i64 0, .int .i64 0, .int .i64 0, .bool false]) ?_ 0 _ rfl; (with_reducible repeat (first | refine blk_drewN ?_ _ | refine blk_drew ?_ | refine blk_alloc ?_ _)); exact BK707.out⟩, ⟨by repeat (first | (with_reducible first | exact HB.out | apply below_alloc | apply pw_below_drewN | apply below_drew1 | refine below_set ?_ GE707.out) | exact HB.out)⟩⟩
       case rest =>
        clear HC8
        try clear c1
        try clear p2
        try clear c4
        try clear c5
        try clear c5b0
        try clear c5b1
        try clear c6
        try clear c6b0
        try clear p6
        try clear c7
        try clear c7b0
        try clear p7
        try clear q7
        try clear hx7
        try clear c12
        try clear hcz10_0
        try clear hcz10_1
        try clear hcz10_2
        try clear hcz10_3
        try clear hcz10_4
        try clear hcz13_0
        try clear hcz13_1
        try clear hcz13_2
        try clear hcz13_3
        try clear hcz13_4
        try clear hcz14_0
        try clear hcz14_1
        try clear hcz14_2
        try clear hcz14_3
        try clear hcz14_4
        try clear hfz10_0
        try clear hfz10_1
        try clear hfz10_2
        try clear hfz10_3
        try clear hfz10_4
        try clear hfz13_0
        try clear hfz13_1
        try clear hfz13_2
        try clear hfz13_3
        try clear hfz13_4
        try clear hfz14_0
        try clear hfz14_1
        try clear hfz14_2
        try clear hfz14_3
        try clear hfz14_4
        try clear hx706_0
        try clear hx706_1
        try clear hx706_2
        try clear hx706_3
        try clear hx706_4
        try clear p2
        try clear p706
        try clear q706
        obtain ⟨kq, x7_7, rfl, HA, HJ7, BK707, HB⟩ := hcut
        cases kq with
        | zero => exact absurd HA.out (by simp [padlockref03_CheckPortraits.j1])
        | succ kj7 =>
         have H := HA.out
         clear HA
         simp only [padlockref03_CheckPortraits.j1] at H
         by_cases c15 : ((rd_T76 l1 x5_1).f0) = 1
         ·rw [if_pos c15] at H
          have c15b0 : (((rd_T76 l1 x5_1).f0) == 1) = true := beq_iff_eq.mpr c15
          have c15b1 : (((rd_T76 l1 x5_1).f0) != 1) = false := bne_eq_false_iff_eq.mpr c15
          clear c15
          by_cases c16 : ((rd_T76 l1 x5_1).f2) = 0
          ·rw [if_pos c16] at H
           have c16b0 : (((rd_T76 l1 x5_1).f2) == 0) = true := beq_iff_eq.mpr c16
           have c16b1 : (((rd_T76 l1 x5_1).f2) != 0) = false := bne_eq_false_iff_eq.mpr c16
           clear c16
           replace H := Option.bind_eq_some_iff.mp H
           obtain ⟨t709, A170, H⟩ := H
           replace H : (if t709 = true then ((padlockref03_Within.f ((rd_T76 l1 x5_1).f1) 0 (wrap64 (a0 - 1))).bind fun t710 => (if t710 = true then (padlockref03_CheckPortraits.l0 kj7 a0 l1 (wrap64 (x5_1 + 1))) else (some 31))) else (some 31)) = some r := H
           have A17 := Aside0.mk A170
           clear A170
           by_cases c18 : t709 = true
           ·subst c18
            have H1 : ((padlockref03_Within.f ((rd_T76 l1 x5_1).f1) 0 (wrap64 (a0 - 1))).bind fun t710 => (if t710 = true then (padlockref03_CheckPortraits.l0 kj7 a0 l1 (wrap64 (x5_1 + 1))) else (some 31))) = some r := by rw [if_pos rfl] at H; exact H
            clear H
            have H := H1
            clear H1
            replace H := Option.bind_eq_some_iff.mp H
            obtain ⟨t710, A190, H⟩ := H
            replace H : (if t710 = true then (padlockref03_CheckPortraits.l0 kj7 a0 l1 (wrap64 (x5_1 + 1))) else (some 31)) = some r := H
            have A19 := Aside0.mk A190
            clear A190
            by_cases c20 : t710 = true
            ·subst c20
             have H1 : (padlockref03_CheckPortraits.l0 kj7 a0 l1 (wrap64 (x5_1 + 1))) = some r := by rw [if_pos rfl] at H; exact H
             clear H
             have H := H1
             clear H1
             have H' := Aside0.mk H
             clear H
             have hcz21_0 : wc.cell? ⟨gb707, 0, none⟩ = some (.int .i64 ((rd_T76 l1 x5_1).f0)) := (blk_cell BK707.out 0).trans rfl
             have hcz21_1 : wc.cell? ⟨gb707, 1, none⟩ = some (.int .i64 ((rd_T76 l1 x5_1).f1)) := (blk_cell BK707.out 1).trans rfl
             have hcz21_2 : wc.cell? ⟨gb707, 2, none⟩ = some (.int .i64 ((rd_T76 l1 x5_1).f2)) := (blk_cell BK707.out 2).trans rfl
             have hcz21_3 : wc.cell? ⟨gb707, 3, none⟩ = some (.int .i64 ((rd_T76 l1 x5_1).f3)) := (blk_cell BK707.out 3).trans rfl
             have hcz21_4 : wc.cell? ⟨gb707, 4, none⟩ = some (.bool ((rd_T76 l1 x5_1).f4)) := (blk_cell BK707.out 4).trans rfl
             have hfz21_0 := blk_frozen BK707.out 0
             have hfz21_1 := blk_frozen BK707.out 1
             have hfz21_2 := blk_frozen BK707.out 2
             have hfz21_3 := blk_frozen BK707.out 3
             have hfz21_4 := blk_frozen BK707.out 4
             go_wp2_with (first | (go_at_call 73; (with_reducible refine (padlockref03_Within.calls ((rd_T76 l1 x5_1).f3) 0 (wrap64 (a0 - 1)) true _ A17.out).mono ?_); rintro e w' ⟨rfl, ⟨nd, rfl⟩⟩) | (go_at_call 73; (with_reducible refine (padlockref03_Within.calls ((rd_T76 l1 x5_1).f1) 0 (wrap64 (a0 - 1)) true _ A19.out).mono ?_); rintro e w' ⟨rfl, ⟨nd, rfl⟩⟩))
             go_roundg kj7
             case measure => have := HK1.out; have := HJ7.out; omega
             case rel => exact ⟨(wrap64 (x5_1 + 1)), (by first | rfl | (simp; done) | (simp [*]; done)), H', ⟨by have := HK1.out; have := HJ7.out; omega⟩, ⟨by repeat (first | (with_reducible first | exact HB.out | apply below_alloc | apply pw_below_drewN | apply below_drew1 | refine below_set ?_ GE707.out) | exact HB.out)⟩⟩
            ·replace c20 := Bool.eq_false_iff.mpr c20
             subst c20
             have H1 : (some 31) = some r := by rw [if_neg (show ¬ (false = true) by decide)] at H; exact H
             clear H
             have H := H1
             clear H1
             obtain rfl := Option.some.inj H
             have hcz22_0 : wc.cell? ⟨gb707, 0, none⟩ = some (.int .i64 ((rd_T76 l1 x5_1).f0)) := (blk_cell BK707.out 0).trans rfl
             have hcz22_1 : wc.cell? ⟨gb707, 1, none⟩ = some (.int .i64 ((rd_T76 l1 x5_1).f1)) := (blk_cell BK707.out 1).trans rfl
             have hcz22_2 : wc.cell? ⟨gb707, 2, none⟩ = some (.int .i64 ((rd_T76 l1 x5_1).f2)) := (blk_cell BK707.out 2).trans rfl
             have hcz22_3 : wc.cell? ⟨gb707, 3, none⟩ = some (.int .i64 ((rd_T76 l1 x5_1).f3)) := (blk_cell BK707.out 3).trans rfl
             have hcz22_4 : wc.cell? ⟨gb707, 4, none⟩ = some (.bool ((rd_T76 l1 x5_1).f4)) := (blk_cell BK707.out 4).trans rfl
             have hfz22_0 := blk_frozen BK707.out 0
             have hfz22_1 := blk_frozen BK707.out 1
             have hfz22_2 := blk_frozen BK707.out 2
             have hfz22_3 := blk_frozen BK707.out 3
             have hfz22_4 := blk_frozen BK707.out 4
             go_wp2_with (first | (go_at_call 73; (with_reducible refine (padlockref03_Within.calls ((rd_T76 l1 x5_1).f3) 0 (wrap64 (a0 - 1)) true _ A17.out).mono ?_); rintro e w' ⟨rfl, ⟨nd, rfl⟩⟩) | (go_at_call 73; (with_reducible refine (padlockref03_Within.calls ((rd_T76 l1 x5_1).f1) 0 (wrap64 (a0 - 1)) false _ A19.out).mono ?_); rintro e w' ⟨rfl, ⟨nd, rfl⟩⟩))
             go_ret
             exact ⟨by first | rfl | (simp [errW_none, errW_some] <;> rfl) | (simp [*, errW_none, errW_some] <;> rfl), by repeat (first | (with_reducible first | exact HB.out | apply below_alloc | apply pw_below_drewN | apply below_drew1 | refine below_set ?_ GE707.out) | exact HB.out)⟩
           ·replace c18 := Bool.eq_false_iff.mpr c18
            subst c18
            have H1 : (some 31) = some r := by rw [if_neg (show ¬ (false = true) by decide)] at H; exact H
            clear H
            have H := H1
            clear H1
            obtain rfl := Option.some.inj H
            have hcz23_0 : wc.cell? ⟨gb707, 0, none⟩ = some (.int .i64 ((rd_T76 l1 x5_1).f0)) := (blk_cell BK707.out 0).trans rfl
            have hcz23_1 : wc.cell? ⟨gb707, 1, none⟩ = some (.int .i64 ((rd_T76 l1 x5_1).f1)) := (blk_cell BK707.out 1).trans rfl
            have hcz23_2 : wc.cell? ⟨gb707, 2, none⟩ = some (.int .i64 ((rd_T76 l1 x5_1).f2)) := (blk_cell BK707.out 2).trans rfl
            have hcz23_3 : wc.cell? ⟨gb707, 3, none⟩ = some (.int .i64 ((rd_T76 l1 x5_1).f3)) := (blk_cell BK707.out 3).trans rfl
            have hcz23_4 : wc.cell? ⟨gb707, 4, none⟩ = some (.bool ((rd_T76 l1 x5_1).f4)) := (blk_cell BK707.out 4).trans rfl
            have hfz23_0 := blk_frozen BK707.out 0
            have hfz23_1 := blk_frozen BK707.out 1
            have hfz23_2 := blk_frozen BK707.out 2
            have hfz23_3 := blk_frozen BK707.out 3
            have hfz23_4 := blk_frozen BK707.out 4
            go_wp2_with (first | (go_at_call 73; (with_reducible refine (padlockref03_Within.calls ((rd_T76 l1 x5_1).f3) 0 (wrap64 (a0 - 1)) false _ A17.out).mono ?_); rintro e w' ⟨rfl, ⟨nd, rfl⟩⟩))
            go_ret
            exact ⟨by first | rfl | (simp [errW_none, errW_some] <;> rfl) | (simp [*, errW_none, errW_some] <;> rfl), by repeat (first | (with_reducible first | exact HB.out | apply below_alloc | apply pw_below_drewN | apply below_drew1 | refine below_set ?_ GE707.out) | exact HB.out)⟩
          ·rw [if_neg c16] at H
           have c16b0 : (((rd_T76 l1 x5_1).f2) == 0) = false := beq_eq_false_iff_ne.mpr c16
           have c16b1 : (((rd_T76 l1 x5_1).f2) != 0) = true := bne_iff_ne.mpr c16
           obtain rfl := Option.some.inj H
           have hcz24_0 : wc.cell? ⟨gb707, 0, none⟩ = some (.int .i64 ((rd_T76 l1 x5_1).f0)) := (blk_cell BK707.out 0).trans rfl
           have hcz24_1 : wc.cell? ⟨gb707, 1, none⟩ = some (.int .i64 ((rd_T76 l1 x5_1).f1)) := (blk_cell BK707.out 1).trans rfl
           have hcz24_2 : wc.cell? ⟨gb707, 2, none⟩ = some (.int .i64 ((rd_T76 l1 x5_1).f2)) := (blk_cell BK707.out 2).trans rfl
           have hcz24_3 : wc.cell? ⟨gb707, 3, none⟩ = some (.int .i64 ((rd_T76 l1 x5_1).f3)) := (blk_cell BK707.out 3).trans rfl
           have hcz24_4 : wc.cell? ⟨gb707, 4, none⟩ = some (.bool ((rd_T76 l1 x5_1).f4)) := (blk_cell BK707.out 4).trans rfl
           have hfz24_0 := blk_frozen BK707.out 0
           have hfz24_1 := blk_frozen BK707.out 1
           have hfz24_2 := blk_frozen BK707.out 2
           have hfz24_3 := blk_frozen BK707.out 3
           have hfz24_4 := blk_frozen BK707.out 4
           go_wp2
           go_ret
           exact ⟨by first | rfl | (simp [errW_none, errW_some] <;> rfl) | (simp [*, errW_none, errW_some] <;> rfl), by repeat (first | (with_reducible first | exact HB.out | apply below_alloc | apply pw_below_drewN | apply below_drew1 | refine below_set ?_ GE707.out) | exact HB.out)⟩
         ·rw [if_neg c15] at H
          have c15b0 : (((rd_T76 l1 x5_1).f0) == 1) = false := beq_eq_false_iff_ne.mpr c15
          have c15b1 : (((rd_T76 l1 x5_1).f0) != 1) = true := bne_iff_ne.mpr c15
          have HC25 := Aside0.mk H
          clear H
          have hcz26_0 : wc.cell? ⟨gb707, 0, none⟩ = some (.int .i64 ((rd_T76 l1 x5_1).f0)) := (blk_cell BK707.out 0).trans rfl
          have hcz26_1 : wc.cell? ⟨gb707, 1, none⟩ = some (.int .i64 ((rd_T76 l1 x5_1).f1)) := (blk_cell BK707.out 1).trans rfl
          have hcz26_2 : wc.cell? ⟨gb707, 2, none⟩ = some (.int .i64 ((rd_T76 l1 x5_1).f2)) := (blk_cell BK707.out 2).trans rfl
          have hcz26_3 : wc.cell? ⟨gb707, 3, none⟩ = some (.int .i64 ((rd_T76 l1 x5_1).f3)) := (blk_cell BK707.out 3).trans rfl
          have hcz26_4 : wc.cell? ⟨gb707, 4, none⟩ = some (.bool ((rd_T76 l1 x5_1).f4)) := (blk_cell BK707.out 4).trans rfl
          have hfz26_0 := blk_frozen BK707.out 0
          have hfz26_1 := blk_frozen BK707.out 1
          have hfz26_2 := blk_frozen BK707.out 2
          have hfz26_3 := blk_frozen BK707.out 3
          have hfz26_4 := blk_frozen BK707.out 4
          go_upto_if 51 with (fail)
          go_cut [51] (fun v51 wc => ∃ (kq : Nat) (x51_24 : Bool), v51 = .bool x51_24 ∧ Aside0 (padlockref03_CheckPortraits.j2 kq a0 l1 x5_1 x7_7 false ((rd_T76 l1 x5_1).f0) x51_24 ((rd_T76 l1 x5_1).f0) ((rd_T76 l1 x5_1).f1) ((rd_T76 l1 x5_1).f2) ((rd_T76 l1 x5_1).f3) ((rd_T76 l1 x5_1).f4) = some r) ∧ Aside0 (kq ≤ kj7) ∧ Aside0 (wc.heap[gb707]? = some (.cells #[.int .i64 ((rd_T76 l1 x5_1).f0), .int .i64 ((rd_T76 l1 x5_1).f1), .int .i64 ((rd_T76 l1 x5_1).f2), .int .i64 ((rd_T76 l1 x5_1).f3), .bool ((rd_T76 l1 x5_1).f4)] 76 (0, 0))) ∧ Aside0 (Below w.heap.size w wc))
          case first =>
           have H := HC25.out
           clear HC25
           by_cases c27 : ((rd_T76 l1 x5_1).f0) = 2
           ·rw [if_pos c27] at H
            have c27b0 : (((rd_T76 l1 x5_1).f0) == 2) = true := beq_iff_eq.mpr c27
            have c27b1 : (((rd_T76 l1 x5_1).f0) != 2) = false := bne_eq_false_iff_eq.mpr c27
            clear c27
            (first | rw [c27b0] | (simp only [i64_w, i32_w]; rw [c27b0]) | skip)
            have H' := Aside0.mk H
            clear H
            go_wp2
            go_meet
            case rel => exact ⟨_, ((((rd_T76 l1 x5_1).f0) == 2)), (by first | rfl | (simp; done) | (simp [*]; done)), H', ⟨by have := HK1.out; have := HJ7.out; first | omega | exact Nat.le_refl _⟩, ⟨by (with_reducible repeat (first | refine blk_drewN ?_ _ | refine blk_drew ?_ | refine blk_alloc ?_ _)); exact BK707.out⟩, ⟨by repeat (first | (with_reducible first | exact HB.out | apply below_alloc | apply pw_below_drewN | apply below_drew1 | refine below_set ?_ GE707.out) | exact HB.out)⟩⟩
           ·rw [if_neg c27] at H
            have c27b0 : (((rd_T76 l1 x5_1).f0) == 2) = false := beq_eq_false_iff_ne.mpr c27
            have c27b1 : (((rd_T76 l1 x5_1).f0) != 2) = true := bne_iff_ne.mpr c27
            (first | rw [c27b0] | (simp only [i64_w, i32_w]; rw [c27b0]) | skip)
            have H' := Aside0.mk H
            clear H
            go_wp2
            go_meet
            case rel => exact ⟨_, ((((rd_T76 l1 x5_1).f0) == 3)), (by first | rfl | (simp; done) | (simp [*]; done)), H', ⟨by have := HK1.out; have := HJ7.out; first | omega | exact Nat.le_refl _⟩, ⟨by (with_reducible repeat (first | refine blk_drewN ?_ _ | refine blk_drew ?_ | refine blk_alloc ?_ _)); exact BK707.out⟩, ⟨by repeat (first | (with_reducible first | exact HB.out | apply below_alloc | apply pw_below_drewN | apply below_drew1 | refine below_set ?_ GE707.out) | exact HB.out)⟩⟩
          case rest =>
           clear HC25
           try clear c1
           try clear c2
           try clear p2
           try clear c4
           try clear c5
           try clear c5b0
           try clear c5b1
           try clear c6
           try clear c6b0
           try clear p6
           try clear c7
           try clear c7b0
           try clear p7
           try clear q7
           try clear hx7
           try clear c12
           try clear c15
           try clear c15b0
           try clear c15b1
           try clear c16
           try clear c16b0
           try clear c16b1
           try clear c18
           try clear c20
           try clear c27
           try clear c27b0
           try clear c27b1
           try clear hcz10_0
           try clear hcz10_1
           try clear hcz10_2
           try clear hcz10_3
           try clear hcz10_4
           try clear hcz13_0
           try clear hcz13_1
           try clear hcz13_2
           try clear hcz13_3
           try clear hcz13_4
           try clear hcz14_0
           try clear hcz14_1
           try clear hcz14_2
           try clear hcz14_3
           try clear hcz14_4
           try clear hcz21_0
           try clear hcz21_1
           try clear hcz21_2
           try clear hcz21_3
           try clear hcz21_4
           try clear hcz22_0
           try clear hcz22_1
           try clear hcz22_2
           try clear hcz22_3
           try clear hcz22_4
           try clear hcz23_0
           try clear hcz23_1
           try clear hcz23_2
           try clear hcz23_3
           try clear hcz23_4
           try clear hcz24_0
           try clear hcz24_1
           try clear hcz24_2
           try clear hcz24_3
           try clear hcz24_4
           try clear hcz26_0
           try clear hcz26_1
           try clear hcz26_2
           try clear hcz26_3
           try clear hcz26_4
           try clear hfz10_0
           try clear hfz10_1
           try clear hfz10_2
           try clear hfz10_3
           try clear hfz10_4
           try clear hfz13_0
           try clear hfz13_1
           try clear hfz13_2
           try clear hfz13_3
           try clear hfz13_4
           try clear hfz14_0
           try clear hfz14_1
           try clear hfz14_2
           try clear hfz14_3
           try clear hfz14_4
           try clear hfz21_0
           try clear hfz21_1
           try clear hfz21_2
           try clear hfz21_3
           try clear hfz21_4
           try clear hfz22_0
           try clear hfz22_1
           try clear hfz22_2
           try clear hfz22_3
           try clear hfz22_4
           try clear hfz23_0
           try clear hfz23_1
           try clear hfz23_2
           try clear hfz23_3
           try clear hfz23_4
           try clear hfz24_0
           try clear hfz24_1
           try clear hfz24_2
           try clear hfz24_3
           try clear hfz24_4
           try clear hfz26_0
           try clear hfz26_1
           try clear hfz26_2
           try clear hfz26_3
           try clear hfz26_4
           try clear hx706_0
           try clear hx706_1
           try clear hx706_2
           try clear hx706_3
           try clear hx706_4
           try clear p2
           try clear p6
           try clear p7
           try clear p706
           try clear q7
           try clear q706
           obtain ⟨kq, x51_24, rfl, HA, HJ24, BK707, HB⟩ := hcut
           cases kq with
           | zero => exact absurd HA.out (by simp [padlockref03_CheckPortraits.j2])
           | succ kj24 =>
            have H := HA.out
            clear HA
            simp only [padlockref03_CheckPortraits.j2] at H
            by_cases c28 : x51_24 = true
            ·subst c28
             have H1 : (if x7_7 = true then (if ((rd_T76 l1 x5_1).f3) = 0 then ((padlockref03_Within.f ((rd_T76 l1 x5_1).f1) 0 (wrap64 (a0 - 1))).bind fun t711 => (if t711 = true then (padlockref03_CheckPortraits.l0 kj24 a0 l1 (wrap64 (x5_1 + 1))) else (some 31))) else (some 31)) else (some 31)) = some r := by rw [if_pos rfl] at H; exact H
             clear H
             have H := H1
             clear H1
             by_cases c29 : x7_7 = true
             ·subst c29
              have H1 : (if ((rd_T76 l1 x5_1).f3) = 0 then ((padlockref03_Within.f ((rd_T76 l1 x5_1).f1) 0 (wrap64 (a0 - 1))).bind fun t711 => (if t711 = true then (padlockref03_CheckPortraits.l0 kj24 a0 l1 (wrap64 (x5_1 + 1))) else (some 31))) else (some 31)) = some r := by rw [if_pos rfl] at H; exact H
              clear H
              have H := H1
              clear H1
              by_cases c30 : ((rd_T76 l1 x5_1).f3) = 0
              ·rw [if_pos c30] at H
               have c30b0 : (((rd_T76 l1 x5_1).f3) == 0) = true := beq_iff_eq.mpr c30
               have c30b1 : (((rd_T76 l1 x5_1).f3) != 0) = false := bne_eq_false_iff_eq.mpr c30
               clear c30
               replace H := Option.bind_eq_some_iff.mp H
               obtain ⟨t711, A310, H⟩ := H
               replace H : (if t711 = true then (padlockref03_CheckPortraits.l0 kj24 a0 l1 (wrap64 (x5_1 + 1))) else (some 31)) = some r := H
               have A31 := Aside0.mk A310
               clear A310
               by_cases c32 : t711 = true
               ·subst c32
                have H1 : (padlockref03_CheckPortraits.l0 kj24 a0 l1 (wrap64 (x5_1 + 1))) = some r := by rw [if_pos rfl] at H; exact H
                clear H
                have H := H1
                clear H1
                have H' := Aside0.mk H
                clear H
                have hcz33_0 : wc.cell? ⟨gb707, 0, none⟩ = some (.int .i64 ((rd_T76 l1 x5_1).f0)) := (blk_cell BK707.out 0).trans rfl
                have hcz33_1 : wc.cell? ⟨gb707, 1, none⟩ = some (.int .i64 ((rd_T76 l1 x5_1).f1)) := (blk_cell BK707.out 1).trans rfl
                have hcz33_2 : wc.cell? ⟨gb707, 2, none⟩ = some (.int .i64 ((rd_T76 l1 x5_1).f2)) := (blk_cell BK707.out 2).trans rfl
                have hcz33_3 : wc.cell? ⟨gb707, 3, none⟩ = some (.int .i64 ((rd_T76 l1 x5_1).f3)) := (blk_cell BK707.out 3).trans rfl
                have hcz33_4 : wc.cell? ⟨gb707, 4, none⟩ = some (.bool ((rd_T76 l1 x5_1).f4)) := (blk_cell BK707.out 4).trans rfl
                have hfz33_0 := blk_frozen BK707.out 0
                have hfz33_1 := blk_frozen BK707.out 1
                have hfz33_2 := blk_frozen BK707.out 2
                have hfz33_3 := blk_frozen BK707.out 3
                have hfz33_4 := blk_frozen BK707.out 4
                go_wp2_with (first | (go_at_call 73; (with_reducible refine (padlockref03_Within.calls ((rd_T76 l1 x5_1).f1) 0 (wrap64 (a0 - 1)) true _ A31.out).mono ?_); rintro e w' ⟨rfl, ⟨nd, rfl⟩⟩))
                go_roundg kj24
                case measure => have := HK1.out; have := HJ7.out; have := HJ24.out; omega
                case rel => exact ⟨(wrap64 (x5_1 + 1)), (by first | rfl | (simp; done) | (simp [*]; done)), H', ⟨by have := HK1.out; have := HJ7.out; have := HJ24.out; omega⟩, ⟨by repeat (first | (with_reducible first | exact HB.out | apply below_alloc | apply pw_below_drewN | apply below_drew1 | refine below_set ?_ GE707.out) | exact HB.out)⟩⟩
               ·replace c32 := Bool.eq_false_iff.mpr c32
                subst c32
                have H1 : (some 31) = some r := by rw [if_neg (show ¬ (false = true) by decide)] at H; exact H
                clear H
                have H := H1
                clear H1
                obtain rfl := Option.some.inj H
                have hcz34_0 : wc.cell? ⟨gb707, 0, none⟩ = some (.int .i64 ((rd_T76 l1 x5_1).f0)) := (blk_cell BK707.out 0).trans rfl
                have hcz34_1 : wc.cell? ⟨gb707, 1, none⟩ = some (.int .i64 ((rd_T76 l1 x5_1).f1)) := (blk_cell BK707.out 1).trans rfl
                have hcz34_2 : wc.cell? ⟨gb707, 2, none⟩ = some (.int .i64 ((rd_T76 l1 x5_1).f2)) := (blk_cell BK707.out 2).trans rfl
                have hcz34_3 : wc.cell? ⟨gb707, 3, none⟩ = some (.int .i64 ((rd_T76 l1 x5_1).f3)) := (blk_cell BK707.out 3).trans rfl
                have hcz34_4 : wc.cell? ⟨gb707, 4, none⟩ = some (.bool ((rd_T76 l1 x5_1).f4)) := (blk_cell BK707.out 4).trans rfl
                have hfz34_0 := blk_frozen BK707.out 0
                have hfz34_1 := blk_frozen BK707.out 1
                have hfz34_2 := blk_frozen BK707.out 2
                have hfz34_3 := blk_frozen BK707.out 3
                have hfz34_4 := blk_frozen BK707.out 4
                go_wp2_with (first | (go_at_call 73; (with_reducible refine (padlockref03_Within.calls ((rd_T76 l1 x5_1).f1) 0 (wrap64 (a0 - 1)) false _ A31.out).mono ?_); rintro e w' ⟨rfl, ⟨nd, rfl⟩⟩))
                go_ret
                exact ⟨by first | rfl | (simp [errW_none, errW_some] <;> rfl) | (simp [*, errW_none, errW_some] <;> rfl), by repeat (first | (with_reducible first | exact HB.out | apply below_alloc | apply pw_below_drewN | apply below_drew1 | refine below_set ?_ GE707.out) | exact HB.out)⟩
              ·rw [if_neg c30] at H
               have c30b0 : (((rd_T76 l1 x5_1).f3) == 0) = false := beq_eq_false_iff_ne.mpr c30
               have c30b1 : (((rd_T76 l1 x5_1).f3) != 0) = true := bne_iff_ne.mpr c30
               obtain rfl := Option.some.inj H
               have hcz35_0 : wc.cell? ⟨gb707, 0, none⟩ = some (.int .i64 ((rd_T76 l1 x5_1).f0)) := (blk_cell BK707.out 0).trans rfl
               have hcz35_1 : wc.cell? ⟨gb707, 1, none⟩ = some (.int .i64 ((rd_T76 l1 x5_1).f1)) := (blk_cell BK707.out 1).trans rfl
               have hcz35_2 : wc.cell? ⟨gb707, 2, none⟩ = some (.int .i64 ((rd_T76 l1 x5_1).f2)) := (blk_cell BK707.out 2).trans rfl
               have hcz35_3 : wc.cell? ⟨gb707, 3, none⟩ = some (.int .i64 ((rd_T76 l1 x5_1).f3)) := (blk_cell BK707.out 3).trans rfl
               have hcz35_4 : wc.cell? ⟨gb707, 4, none⟩ = some (.bool ((rd_T76 l1 x5_1).f4)) := (blk_cell BK707.out 4).trans rfl
               have hfz35_0 := blk_frozen BK707.out 0
               have hfz35_1 := blk_frozen BK707.out 1
               have hfz35_2 := blk_frozen BK707.out 2
               have hfz35_3 := blk_frozen BK707.out 3
               have hfz35_4 := blk_frozen BK707.out 4
               go_wp2
               go_ret
               exact ⟨by first | rfl | (simp [errW_none, errW_some] <;> rfl) | (simp [*, errW_none, errW_some] <;> rfl), by repeat (first | (with_reducible first | exact HB.out | apply below_alloc | apply pw_below_drewN | apply below_drew1 | refine below_set ?_ GE707.out) | exact HB.out)⟩
             ·replace c29 := Bool.eq_false_iff.mpr c29
              subst c29
              have H1 : (some 31) = some r := by rw [if_neg (show ¬ (false = true) by decide)] at H; exact H
              clear H
              have H := H1
              clear H1
              obtain rfl := Option.some.inj H
              go_wp2
              go_ret
              exact ⟨by first | rfl | (simp [errW_none, errW_some] <;> rfl) | (simp [*, errW_none, errW_some] <;> rfl), by repeat (first | (with_reducible first | exact HB.out | apply below_alloc | apply pw_below_drewN | apply below_drew1 | refine below_set ?_ GE707.out) | exact HB.out)⟩
            ·replace c28 := Bool.eq_false_iff.mpr c28
             subst c28
             have H1 : (if ((rd_T76 l1 x5_1).f0) = 4 then (if x7_7 = true then ((padlockref03_Within.f ((rd_T76 l1 x5_1).f3) 0 a0).bind fun t712 => (if t712 = true then ((padlockref03_Within.f ((rd_T76 l1 x5_1).f1) 0 (wrap64 (a0 - 1))).bind fun t713 => (if t713 = true then (padlockref03_CheckPortraits.l0 kj24 a0 l1 (wrap64 (x5_1 + 1))) else (some 31))) else (some 31))) else (some 31)) else (if false = true then ((padlockref03_Within.f ((rd_T76 l1 x5_1).f1) 0 (wrap64 (a0 - 1))).bind fun t714 => (if t714 = true then (padlockref03_CheckPortraits.l0 kj24 a0 l1 (wrap64 (x5_1 + 1))) else (some 31))) else (some 31))) = some r := by rw [if_neg (show ¬ (false = true) by decide)] at H; exact H
             clear H
             have H := H1
             clear H1
             by_cases c36 : ((rd_T76 l1 x5_1).f0) = 4
             ·rw [if_pos c36] at H
              have c36b0 : (((rd_T76 l1 x5_1).f0) == 4) = true := beq_iff_eq.mpr c36
              have c36b1 : (((rd_T76 l1 x5_1).f0) != 4) = false := bne_eq_false_iff_eq.mpr c36
              clear c36
              by_cases c37 : x7_7 = true
              ·subst c37
               have H1 : ((padlockref03_Within.f ((rd_T76 l1 x5_1).f3) 0 a0).bind fun t712 => (if t712 = true then ((padlockref03_Within.f ((rd_T76 l1 x5_1).f1) 0 (wrap64 (a0 - 1))).bind fun t713 => (if t713 = true then (padlockref03_CheckPortraits.l0 kj24 a0 l1 (wrap64 (x5_1 + 1))) else (some 31))) else (some 31))) = some r := by rw [if_pos rfl] at H; exact H
               clear H
               have H := H1
               clear H1
               replace H := Option.bind_eq_some_iff.mp H
               obtain ⟨t712, A380, H⟩ := H
               replace H : (if t712 = true then ((padlockref03_Within.f ((rd_T76 l1 x5_1).f1) 0 (wrap64 (a0 - 1))).bind fun t713 => (if t713 = true then (padlockref03_CheckPortraits.l0 kj24 a0 l1 (wrap64 (x5_1 + 1))) else (some 31))) else (some 31)) = some r := H
               have A38 := Aside0.mk A380
               clear A380
               by_cases c39 : t712 = true
               ·subst c39
                have H1 : ((padlockref03_Within.f ((rd_T76 l1 x5_1).f1) 0 (wrap64 (a0 - 1))).bind fun t713 => (if t713 = true then (padlockref03_CheckPortraits.l0 kj24 a0 l1 (wrap64 (x5_1 + 1))) else (some 31))) = some r := by rw [if_pos rfl] at H; exact H
                clear H
                have H := H1
                clear H1
                replace H := Option.bind_eq_some_iff.mp H
                obtain ⟨t713, A400, H⟩ := H
                replace H : (if t713 = true then (padlockref03_CheckPortraits.l0 kj24 a0 l1 (wrap64 (x5_1 + 1))) else (some 31)) = some r := H
                have A40 := Aside0.mk A400
                clear A400
                by_cases c41 : t713 = true
                ·subst c41
                 have H1 : (padlockref03_CheckPortraits.l0 kj24 a0 l1 (wrap64 (x5_1 + 1))) = some r := by rw [if_pos rfl] at H; exact H
                 clear H
                 have H := H1
                 clear H1
                 have H' := Aside0.mk H
                 clear H
                 have hcz42_0 : wc.cell? ⟨gb707, 0, none⟩ = some (.int .i64 ((rd_T76 l1 x5_1).f0)) := (blk_cell BK707.out 0).trans rfl
                 have hcz42_1 : wc.cell? ⟨gb707, 1, none⟩ = some (.int .i64 ((rd_T76 l1 x5_1).f1)) := (blk_cell BK707.out 1).trans rfl
                 have hcz42_2 : wc.cell? ⟨gb707, 2, none⟩ = some (.int .i64 ((rd_T76 l1 x5_1).f2)) := (blk_cell BK707.out 2).trans rfl
                 have hcz42_3 : wc.cell? ⟨gb707, 3, none⟩ = some (.int .i64 ((rd_T76 l1 x5_1).f3)) := (blk_cell BK707.out 3).trans rfl
                 have hcz42_4 : wc.cell? ⟨gb707, 4, none⟩ = some (.bool ((rd_T76 l1 x5_1).f4)) := (blk_cell BK707.out 4).trans rfl
                 have hfz42_0 := blk_frozen BK707.out 0
                 have hfz42_1 := blk_frozen BK707.out 1
                 have hfz42_2 := blk_frozen BK707.out 2
                 have hfz42_3 := blk_frozen BK707.out 3
                 have hfz42_4 := blk_frozen BK707.out 4
                 go_wp2_with (first | (go_at_call 73; (with_reducible refine (padlockref03_Within.calls ((rd_T76 l1 x5_1).f3) 0 a0 true _ A38.out).mono ?_); rintro e w' ⟨rfl, ⟨nd, rfl⟩⟩) | (go_at_call 73; (with_reducible refine (padlockref03_Within.calls ((rd_T76 l1 x5_1).f1) 0 (wrap64 (a0 - 1)) true _ A40.out).mono ?_); rintro e w' ⟨rfl, ⟨nd, rfl⟩⟩))
                 go_roundg kj24
                 case measure => have := HK1.out; have := HJ7.out; have := HJ24.out; omega
                 case rel => exact ⟨(wrap64 (x5_1 + 1)), (by first | rfl | (simp; done) | (simp [*]; done)), H', ⟨by have := HK1.out; have := HJ7.out; have := HJ24.out; omega⟩, ⟨by repeat (first | (with_reducible first | exact HB.out | apply below_alloc | apply pw_below_drewN | apply below_drew1 | refine below_set ?_ GE707.out) | exact HB.out)⟩⟩
                ·replace c41 := Bool.eq_false_iff.mpr c41
                 subst c41
                 have H1 : (some 31) = some r := by rw [if_neg (show ¬ (false = true) by decide)] at H; exact H
                 clear H
                 have H := H1
                 clear H1
                 obtain rfl := Option.some.inj H
                 have hcz43_0 : wc.cell? ⟨gb707, 0, none⟩ = some (.int .i64 ((rd_T76 l1 x5_1).f0)) := (blk_cell BK707.out 0).trans rfl
                 have hcz43_1 : wc.cell? ⟨gb707, 1, none⟩ = some (.int .i64 ((rd_T76 l1 x5_1).f1)) := (blk_cell BK707.out 1).trans rfl
                 have hcz43_2 : wc.cell? ⟨gb707, 2, none⟩ = some (.int .i64 ((rd_T76 l1 x5_1).f2)) := (blk_cell BK707.out 2).trans rfl
                 have hcz43_3 : wc.cell? ⟨gb707, 3, none⟩ = some (.int .i64 ((rd_T76 l1 x5_1).f3)) := (blk_cell BK707.out 3).trans rfl
                 have hcz43_4 : wc.cell? ⟨gb707, 4, none⟩ = some (.bool ((rd_T76 l1 x5_1).f4)) := (blk_cell BK707.out 4).trans rfl
                 have hfz43_0 := blk_frozen BK707.out 0
                 have hfz43_1 := blk_frozen BK707.out 1
                 have hfz43_2 := blk_frozen BK707.out 2
                 have hfz43_3 := blk_frozen BK707.out 3
                 have hfz43_4 := blk_frozen BK707.out 4
                 go_wp2_with (first | (go_at_call 73; (with_reducible refine (padlockref03_Within.calls ((rd_T76 l1 x5_1).f3) 0 a0 true _ A38.out).mono ?_); rintro e w' ⟨rfl, ⟨nd, rfl⟩⟩) | (go_at_call 73; (with_reducible refine (padlockref03_Within.calls ((rd_T76 l1 x5_1).f1) 0 (wrap64 (a0 - 1)) false _ A40.out).mono ?_); rintro e w' ⟨rfl, ⟨nd, rfl⟩⟩))
                 go_ret
                 exact ⟨by first | rfl | (simp [errW_none, errW_some] <;> rfl) | (simp [*, errW_none, errW_some] <;> rfl), by repeat (first | (with_reducible first | exact HB.out | apply below_alloc | apply pw_below_drewN | apply below_drew1 | refine below_set ?_ GE707.out) | exact HB.out)⟩
               ·replace c39 := Bool.eq_false_iff.mpr c39
                subst c39
                have H1 : (some 31) = some r := by rw [if_neg (show ¬ (false = true) by decide)] at H; exact H
                clear H
                have H := H1
                clear H1
                obtain rfl := Option.some.inj H
                have hcz44_0 : wc.cell? ⟨gb707, 0, none⟩ = some (.int .i64 ((rd_T76 l1 x5_1).f0)) := (blk_cell BK707.out 0).trans rfl
                have hcz44_1 : wc.cell? ⟨gb707, 1, none⟩ = some (.int .i64 ((rd_T76 l1 x5_1).f1)) := (blk_cell BK707.out 1).trans rfl
                have hcz44_2 : wc.cell? ⟨gb707, 2, none⟩ = some (.int .i64 ((rd_T76 l1 x5_1).f2)) := (blk_cell BK707.out 2).trans rfl
                have hcz44_3 : wc.cell? ⟨gb707, 3, none⟩ = some (.int .i64 ((rd_T76 l1 x5_1).f3)) := (blk_cell BK707.out 3).trans rfl
                have hcz44_4 : wc.cell? ⟨gb707, 4, none⟩ = some (.bool ((rd_T76 l1 x5_1).f4)) := (blk_cell BK707.out 4).trans rfl
                have hfz44_0 := blk_frozen BK707.out 0
                have hfz44_1 := blk_frozen BK707.out 1
                have hfz44_2 := blk_frozen BK707.out 2
                have hfz44_3 := blk_frozen BK707.out 3
                have hfz44_4 := blk_frozen BK707.out 4
                go_wp2_with (first | (go_at_call 73; (with_reducible refine (padlockref03_Within.calls ((rd_T76 l1 x5_1).f3) 0 a0 false _ A38.out).mono ?_); rintro e w' ⟨rfl, ⟨nd, rfl⟩⟩))
                go_ret
                exact ⟨by first | rfl | (simp [errW_none, errW_some] <;> rfl) | (simp [*, errW_none, errW_some] <;> rfl), by repeat (first | (with_reducible first | exact HB.out | apply below_alloc | apply pw_below_drewN | apply below_drew1 | refine below_set ?_ GE707.out) | exact HB.out)⟩
              ·replace c37 := Bool.eq_false_iff.mpr c37
               subst c37
               have H1 : (some 31) = some r := by rw [if_neg (show ¬ (false = true) by decide)] at H; exact H
               clear H
               have H := H1
               clear H1
               obtain rfl := Option.some.inj H
               go_wp2
               go_ret
               exact ⟨by first | rfl | (simp [errW_none, errW_some] <;> rfl) | (simp [*, errW_none, errW_some] <;> rfl), by repeat (first | (with_reducible first | exact HB.out | apply below_alloc | apply pw_below_drewN | apply below_drew1 | refine below_set ?_ GE707.out) | exact HB.out)⟩
             ·rw [if_neg c36] at H
              have c36b0 : (((rd_T76 l1 x5_1).f0) == 4) = false := beq_eq_false_iff_ne.mpr c36
              have c36b1 : (((rd_T76 l1 x5_1).f0) != 4) = true := bne_iff_ne.mpr c36
              rw [if_neg (by decide)] at H
              obtain rfl := Option.some.inj H
              go_wp2
              go_ret
              exact ⟨by first | rfl | (simp [errW_none, errW_some] <;> rfl) | (simp [*, errW_none, errW_some] <;> rfl), by repeat (first | (with_reducible first | exact HB.out | apply below_alloc | apply pw_below_drewN | apply below_drew1 | refine below_set ?_ GE707.out) | exact HB.out)⟩
      ·rw [if_neg c7] at H
       exact absurd H (by simp)
     ·rw [if_neg c6] at H
      have c6b0 : decide (x5_1 < (l1.length : Int)) = false := decide_eq_false c6
      clear c6
      obtain rfl := Option.some.inj H
      go_wp2
      go_ret
      exact ⟨by first | rfl | (simp [errW_none, errW_some] <;> rfl) | (simp [*, errW_none, errW_some] <;> rfl), by repeat (first | (with_reducible first | exact HB.out | apply below_alloc | apply pw_below_drewN | apply below_drew1) | exact HB.out)⟩
 ·replace c4 := Bool.eq_false_iff.mpr c4
  subst c4
  have H1 : (some 1) = some r := by rw [if_neg (show ¬ (false = true) by decide)] at H; exact H
  clear H
  have H := H1
  clear H1
  obtain rfl := Option.some.inj H
  go_enter Try.func58, Try.ntmps58
  go_wp2_with (first | ((with_reducible refine gate_callee (f := 73) rfl ?_); refine goesL_ (some 10) rfl rfl Try.func73 (by kernel_rfl) rfl #[.int .i64 a0, .int .i64 1, .int .i64 6] rfl (by (try simp only [List.map_toArray, List.map_cons, List.map_nil]); first | done | rfl | (simp only [List.length_drop, List.length_take]; rfl)) ?_; (with_reducible refine (padlockref03_Within.calls a0 1 6 false _ A3.out).mono ?_); rintro e w' ⟨rfl, ⟨nd, rfl⟩⟩; refine ⟨_, rfl, ?_⟩))
  go_ret
  exact ⟨by first | rfl | (simp [errW_none, errW_some] <;> rfl) | (simp [*, errW_none, errW_some] <;> rfl), by repeat (first | (with_reducible first | exact HB.out | apply below_alloc | apply pw_below_drewN | apply below_drew1) | exact HB.out)⟩

end Go.Proofs.Ytdhiijleafcfcaa.T
