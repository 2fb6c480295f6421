-- PRINTED by print.py (a twelfth state) out of the translation. Not trusted: Lean checks it.
import Derived.Test.YtdhiijleafcfcaaT0
import Derived.Test.YtdhiijleafcfcaaTk
import Derived.Test.YtdhiijleafcfcaaTo
import Derived.Test.YtdhiijleafcfcaaCk
import Derived.Test.YtdhiijleafcfcaaMx
import Derived.Test.YtdhiijleafcfcaaWk
namespace Go.Proofs.Ytdhiijleafcfcaa.T
open Go.RowKit Go.Proofs.YtdhiijleafcfcaaW.PrintWords Go.Proofs.YtdhiijleafcfcaaW.PrintLast Go.Proofs.YtdhiijleafcfcaaW.PrintMore
attribute [local go_sem] max2_int min2_int max_two min_two max_three min_three max_four min_four   -- for this text's walks alone
set_option linter.unusedVariables false
set_option linter.unusedSimpArgs false

/-! ### padlocklaw03_PuzzlesBack: function 18 -/
mutual
def padlocklaw03_PuzzlesBack.j2 : Nat → ByteArray → Int → ByteArray → Bool → Option (Bool)
 | 0, _, _, _, _ => none
 | k + 1, x0, x840000, x840001, x840002 => (puzzles_Mix.f x0 x840001 x840002).bind fun bt854 => (if bt854.2 = 0 then ((puzzles_Mix.f bt854.1 x840001 (!x840002)).bind fun bt856 => (if bt856.2 = 0 then (if bt856.1.toList = x0.toList then ((padlocklaw03_works.f k).bind fun t858 => (some t858)) else (some false)) else (some false))) else ((padlocklaw03_works.f k).bind fun t859 => (some t859)))
def padlocklaw03_PuzzlesBack.j0 : Nat → ByteArray → ByteArray → ByteArray → Bool → Int → ByteArray → Bool → Option (Bool)
 | 0, _, _, _, _, _, _, _ => none
 | k + 1, x0, x2, x7, x47, x840000, x840001, x840002 => if x47 = true then (some false) else ((puzzles_Shift.f x7 (((x840001.size : Int) % 40) - 20)).bind fun bt844 => ((puzzles_Shift.f x0 (wrap64 (x840000 + (((x840001.size : Int) % 40) - 20)))).bind fun bt846 => (if bt844.2 = 0 then (if bt846.2 = 0 then (padlocklaw03_PuzzlesBack.j1 k x0 x2 x7 (bt844.1.toList != bt846.1.toList) x840000 x840001 x840002) else (padlocklaw03_PuzzlesBack.j1 k x0 x2 x7 false x840000 x840001 x840002)) else (padlocklaw03_PuzzlesBack.j1 k x0 x2 x7 true x840000 x840001 x840002))))
def padlocklaw03_PuzzlesBack.j1 : Nat → ByteArray → ByteArray → ByteArray → Bool → Int → ByteArray → Bool → Option (Bool)
 | 0, _, _, _, _, _, _, _ => none
 | k + 1, x0, x2, x7, x78, x840000, x840001, x840002 => if x78 = true then (some false) else ((puzzles_Crack.f k x7 x2).bind fun bt848 => (if bt848.2 = 0 then ((padlocklaw03_contains.f k x0 x2).bind fun t852 => (if t852 = true then ((padlocklaw03_has.f k bt848.1 (Int.tmod (wrap64 ((Int.tmod (wrap64 (26 - x840000)) 26) + 26)) 26)).bind fun t853 => (if t853 = true then (padlocklaw03_PuzzlesBack.j2 k x0 x840000 x840001 x840002) else (some false))) else (padlocklaw03_PuzzlesBack.j2 k x0 x840000 x840001 x840002))) else (padlocklaw03_PuzzlesBack.j2 k x0 x840000 x840001 x840002)))
end
def padlocklaw03_PuzzlesBack.f (k : Nat) (a0 : ByteArray) (a1_0 : Int) (a1_1 : ByteArray) (a1_2 : Bool) (a2 : ByteArray) : Option (Bool) := (puzzles_Shift.f a0 a1_0).bind fun bt840 => (if bt840.2 = 0 then ((puzzles_Shift.f bt840.1 (wrap64 (-a1_0))).bind fun bt842 => (if bt842.2 = 0 then (if bt842.1.toList = a0.toList then (padlocklaw03_PuzzlesBack.j0 k a0 a2 bt840.1 ((bt840.1.size : Int) != (a0.size : Int)) a1_0 a1_1 a1_2) else (padlocklaw03_PuzzlesBack.j0 k a0 a2 bt840.1 true a1_0 a1_1 a1_2)) else (padlocklaw03_PuzzlesBack.j0 k a0 a2 bt840.1 true a1_0 a1_1 a1_2))) else (padlocklaw03_PuzzlesBack.j2 k a0 a1_0 a1_1 a1_2))
theorem padlocklaw03_PuzzlesBack.mono_l : ∀ k, (∀ y0 y1 y2 y3, LeO (padlocklaw03_PuzzlesBack.j2 k y0 y1 y2 y3) (padlocklaw03_PuzzlesBack.j2 (k + 1) y0 y1 y2 y3)) ∧ (∀ y0 y1 y2 y3 y4 y5 y6, LeO (padlocklaw03_PuzzlesBack.j0 k y0 y1 y2 y3 y4 y5 y6) (padlocklaw03_PuzzlesBack.j0 (k + 1) y0 y1 y2 y3 y4 y5 y6)) ∧ (∀ y0 y1 y2 y3 y4 y5 y6, LeO (padlocklaw03_PuzzlesBack.j1 k y0 y1 y2 y3 y4 y5 y6) (padlocklaw03_PuzzlesBack.j1 (k + 1) y0 y1 y2 y3 y4 y5 y6))
 | 0 => ⟨fun _ _ _ _ r h => by simp [padlocklaw03_PuzzlesBack.j2] at h, fun _ _ _ _ _ _ _ r h => by simp [padlocklaw03_PuzzlesBack.j0] at h, fun _ _ _ _ _ _ _ r h => by simp [padlocklaw03_PuzzlesBack.j1] at h⟩
 | k + 1 => by
  obtain ⟨ih0, ih1, ih2⟩ := padlocklaw03_PuzzlesBack.mono_l k
  refine ⟨?_, ?_, ?_⟩
  ·intro y0 y1 y2 y3
   unfold padlocklaw03_PuzzlesBack.j2
   repeat' first
   | (with_reducible exact ih0 _ _ _ _)
   | (with_reducible exact ih1 _ _ _ _ _ _ _)
   | (with_reducible exact ih2 _ _ _ _ _ _ _)
   | (with_reducible exact padlocklaw03_contains.mono _ _ _)
   | (with_reducible exact padlocklaw03_has.mono _ _ _)
   | (with_reducible exact padlocklaw03_works.mono _)
   | (with_reducible exact puzzles_Crack.mono _ _ _)
   | (with_reducible exact LeO.refl _)
   | (with_reducible exact LeO.none _)
   | (with_reducible refine LeO.ite ?_ ?_)
   | (with_reducible refine LeO.bind ?_ (fun _ => ?_))
   | exact ih0 _ _ _ _
   | exact ih1 _ _ _ _ _ _ _
   | exact ih2 _ _ _ _ _ _ _
   | exact padlocklaw03_contains.mono _ _ _
   | exact padlocklaw03_has.mono _ _ _
   | exact padlocklaw03_works.mono _
   | exact puzzles_Crack.mono _ _ _
   | exact LeO.none _
   | refine LeO.ite ?_ ?_
   | refine LeO.bind ?_ (fun _ => ?_)
  ·intro y0 y1 y2 y3 y4 y5 y6
   unfold padlocklaw03_PuzzlesBack.j0
   repeat' first
   | (with_reducible exact ih0 _ _ _ _)
   | (with_reducible exact ih1 _ _ _ _ _ _ _)
   | (with_reducible exact ih2 _ _ _ _ _ _ _)
   | (with_reducible exact padlocklaw03_contains.mono _ _ _)
   | (with_reducible exact padlocklaw03_has.mono _ _ _)
   | (with_reducible exact padlocklaw03_works.mono _)
   | (with_reducible exact puzzles_Crack.mono _ _ _)
   | (with_reducible exact LeO.refl _)
   | (with_reducible exact LeO.none _)
   | (with_reducible refine LeO.ite ?_ ?_)
   | (with_reducible refine LeO.bind ?_ (fun _ => ?_))
   | exact ih0 _ _ _ _
   | exact ih1 _ _ _ _ _ _ _
   | exact ih2 _ _ _ _ _ _ _
   | exact padlocklaw03_contains.mono _ _ _
   | exact padlocklaw03_has.mono _ _ _
   | exact padlocklaw03_works.mono _
   | exact puzzles_Crack.mono _ _ _
   | exact LeO.none _
   | refine LeO.ite ?_ ?_
   | refine LeO.bind ?_ (fun _ => ?_)
  ·intro y0 y1 y2 y3 y4 y5 y6
   unfold padlocklaw03_PuzzlesBack.j1
   repeat' first
   | (with_reducible exact ih0 _ _ _ _)
   | (with_reducible exact ih1 _ _ _ _ _ _ _)
   | (with_reducible exact ih2 _ _ _ _ _ _ _)
   | (with_reducible exact padlocklaw03_contains.mono _ _ _)
   | (with_reducible exact padlocklaw03_has.mono _ _ _)
   | (with_reducible exact padlocklaw03_works.mono _)
   | (with_reducible exact puzzles_Crack.mono _ _ _)
   | (with_reducible exact LeO.refl _)
   | (with_reducible exact LeO.none _)
   | (with_reducible refine LeO.ite ?_ ?_)
   | (with_reducible refine LeO.bind ?_ (fun _ => ?_))
   | exact ih0 _ _ _ _
   | exact ih1 _ _ _ _ _ _ _
   | exact ih2 _ _ _ _ _ _ _
   | exact padlocklaw03_contains.mono _ _ _
   | exact padlocklaw03_has.mono _ _ _
   | exact padlocklaw03_works.mono _
   | exact puzzles_Crack.mono _ _ _
   | exact LeO.none _
   | refine LeO.ite ?_ ?_
   | refine LeO.bind ?_ (fun _ => ?_)
theorem padlocklaw03_PuzzlesBack.mono : ∀ a0 a1 a2 a3 a4 k, LeO (padlocklaw03_PuzzlesBack.f k a0 a1 a2 a3 a4) (padlocklaw03_PuzzlesBack.f (k + 1) a0 a1 a2 a3 a4) := by
 intro a0 a1 a2 a3 a4 k
 obtain ⟨ih0, ih1, ih2⟩ := padlocklaw03_PuzzlesBack.mono_l k
 unfold padlocklaw03_PuzzlesBack.f
 repeat' first
   | (with_reducible exact ih0 _ _ _ _)
   | (with_reducible exact ih1 _ _ _ _ _ _ _)
   | (with_reducible exact ih2 _ _ _ _ _ _ _)
   | (with_reducible exact padlocklaw03_contains.mono _ _ _)
   | (with_reducible exact padlocklaw03_has.mono _ _ _)
   | (with_reducible exact padlocklaw03_works.mono _)
   | (with_reducible exact puzzles_Crack.mono _ _ _)
   | (with_reducible exact LeO.refl _)
   | (with_reducible exact LeO.none _)
   | (with_reducible refine LeO.ite ?_ ?_)
   | (with_reducible refine LeO.bind ?_ (fun _ => ?_))
   | exact ih0 _ _ _ _
   | exact ih1 _ _ _ _ _ _ _
   | exact ih2 _ _ _ _ _ _ _
   | exact padlocklaw03_contains.mono _ _ _
   | exact padlocklaw03_has.mono _ _ _
   | exact padlocklaw03_works.mono _
   | exact puzzles_Crack.mono _ _ _
   | exact LeO.none _
   | refine LeO.ite ?_ ?_
   | refine LeO.bind ?_ (fun _ => ?_)
set_option maxHeartbeats 8000000 in
set_option maxRecDepth 100000 in
theorem padlocklaw03_PuzzlesBack.calls (k : Nat) (a0 : ByteArray) (a1_0 : Int) (a1_1 : ByteArray) (a1_2 : Bool) (a2 : ByteArray) (r : Bool) (w : World) (hMx : MxC w) (h : padlocklaw03_PuzzlesBack.f k a0 a1_0 a1_1 a1_2 a2 = some r) :
  Calls Try.prog 18 #[.string a0, .agg #[.int .i64 a1_0, .string a1_1, .bool a1_2], .string a2] w fun e w' => e = .returned (.bool r) ∧ Below w.heap.size w w' := by
 have HMx := Aside0.mk hMx
 clear hMx
 have hu81 := Try.underlying81
 have HB := Aside0.mk (Below.refl w.heap.size w)
 have H : ((puzzles_Shift.f a0 a1_0).bind fun bt840 => (if bt840.2 = 0 then ((puzzles_Shift.f bt840.1 (wrap64 (-a1_0))).bind fun bt842 => (if bt842.2 = 0 then (if bt842.1.toList = a0.toList then (padlocklaw03_PuzzlesBack.j0 k a0 a2 bt840.1 ((bt840.1.size : Int) != (a0.size : Int)) a1_0 a1_1 a1_2) else (padlocklaw03_PuzzlesBack.j0 k a0 a2 bt840.1 true a1_0 a1_1 a1_2)) else (padlocklaw03_PuzzlesBack.j0 k a0 a2 bt840.1 true a1_0 a1_1 a1_2))) else (padlocklaw03_PuzzlesBack.j2 k a0 a1_0 a1_1 a1_2))) = some r := h
 clear h
 replace H := Option.bind_eq_some_iff.mp H
 obtain ⟨⟨t840, t841⟩, A40, H⟩ := H
 replace H : (if t841 = 0 then ((puzzles_Shift.f t840 (wrap64 (-a1_0))).bind fun bt842 => (if bt842.2 = 0 then (if bt842.1.toList = a0.toList then (padlocklaw03_PuzzlesBack.j0 k a0 a2 t840 ((t840.size : Int) != (a0.size : Int)) a1_0 a1_1 a1_2) else (padlocklaw03_PuzzlesBack.j0 k a0 a2 t840 true a1_0 a1_1 a1_2)) else (padlocklaw03_PuzzlesBack.j0 k a0 a2 t840 true a1_0 a1_1 a1_2))) else (padlocklaw03_PuzzlesBack.j2 k a0 a1_0 a1_1 a1_2)) = some r := H
 have A4 := Aside0.mk A40
 clear A40
 have HC5 := Aside0.mk H
 clear H
 go_enter Try.func18, Try.ntmps18
 go_upto_if 25 with (first | ((with_reducible refine gate_dst (N := 4) rfl ?_); (try (refine gate_guard (by rfl) ?_; dsimp only)); refine box_event ?hg (N := 4) ?hd (cs := #[.int .i64 a1_0, .string a1_1, .bool a1_2]) (t := 81) ?hr ?_; (case hd => rfl); (case hg => rfl); (case hr => first | (go_simp; done) | (go_simp; rfl)); intro gb839 hg w6 hbox hb; have n0_ := Aside0.mk (below_step (by repeat (first | (with_reducible first | exact HB.out | apply below_alloc | apply pw_below_drewN | apply below_drew1) | exact HB.out)) hb); have n1_ := Aside0.mk (hbox); have n2_ := Aside0.mk ((by rw [hg]; exact (below_size (by repeat (first | (with_reducible first | exact HB.out | apply below_alloc | apply pw_below_drewN | apply below_drew1) | exact HB.out))) : w.heap.size ≤ gb839)); have n3_ := Aside0.mk ((by rw [hg]; exact (below_size (by repeat (first | (with_reducible first | exact HB.out | apply below_alloc | apply pw_below_drewN | apply below_drew1) | exact HB.out))) : w.heap.size ≤ gb839)); clear HB; have HB := n0_; have BK839 := n1_; have GW839 := n2_; have GE839 := n3_; clear n0_ n1_ n2_ n3_; clear hb hbox hg; have hcz7_0 : w6.cell? ⟨gb839, 0, none⟩ = some (.int .i64 a1_0) := (blk_cell BK839.out 0).trans rfl; have hcz7_1 : w6.cell? ⟨gb839, 1, none⟩ = some (.string a1_1) := (blk_cell BK839.out 1).trans rfl; have hcz7_2 : w6.cell? ⟨gb839, 2, none⟩ = some (.bool a1_2) := (blk_cell BK839.out 2).trans rfl; have hfz7_0 := blk_frozen BK839.out 0; have hfz7_1 := blk_frozen BK839.out 1; have hfz7_2 := blk_frozen BK839.out 2) | ((with_reducible refine gate_callee (f := 60) rfl ?_); refine goesL_ (some 21) rfl rfl Try.func60 (by kernel_rfl) rfl #[.string a0, .int .i64 a1_0] rfl (by (try simp only [List.map_toArray, List.map_cons, List.map_nil]); first | done | rfl | (simp only [List.length_drop, List.length_take]; rfl)) ?_; (with_reducible refine (puzzles_Shift.calls a0 a1_0 t840 t841 _ A4.out).mono ?_); rintro e w8 ⟨rfl, hb⟩; refine ⟨_, rfl, ?_⟩; have n0_ := Aside0.mk (blk_below (g := gb839) (o := .cells #[.int .i64 a1_0, .string a1_1, .bool a1_2] 81 (0, 0)) (by (with_reducible repeat (first | refine blk_drewN ?_ _ | refine blk_drew ?_ | refine blk_alloc ?_ _)); exact BK839.out) hb); have n1_ := Aside0.mk (below_step (by repeat (first | (with_reducible first | exact HB.out | apply below_alloc | apply pw_below_drewN | apply below_drew1 | refine below_set ?_ GE839.out) | exact HB.out)) hb); clear BK839; clear HB; have BK839 := n0_; have HB := n1_; clear n0_ n1_; (try clear hb); (try clear hb2); (try clear hk); (try clear hi)))
 (try simp only [Act.put, List.setIfInBounds_toArray, List.set_cons_zero, List.set_cons_succ])
 go_cut [] (fun wc => ∃ (kq : Nat), Aside0 (padlocklaw03_PuzzlesBack.j2 kq a0 a1_0 a1_1 a1_2 = some r) ∧ Aside0 (kq ≤ k) ∧ Aside0 (wc.heap[gb839]? = some (.cells #[.int .i64 a1_0, .string a1_1, .bool a1_2] 81 (0, 0))) ∧ Aside0 (Below w.heap.size w wc))
 case first =>
  have H := HC5.out
  clear HC5
  by_cases c9 : t841 = 0
  ·rw [if_pos c9] at H
   have c9b0 : (t841 == 0) = true := beq_iff_eq.mpr c9
   have c9b1 : (t841 != 0) = false := bne_eq_false_iff_eq.mpr c9
   clear c9
   (first | rw [c9b0] | (simp only [i64_w, i32_w]; rw [c9b0]) | skip)
   replace H := Option.bind_eq_some_iff.mp H
   obtain ⟨⟨t842, t843⟩, A100, H⟩ := H
   replace H : (if t843 = 0 then (if t842.toList = a0.toList then (padlocklaw03_PuzzlesBack.j0 k a0 a2 t840 ((t840.size : Int) != (a0.size : Int)) a1_0 a1_1 a1_2) else (padlocklaw03_PuzzlesBack.j0 k a0 a2 t840 true a1_0 a1_1 a1_2)) else (padlocklaw03_PuzzlesBack.j0 k a0 a2 t840 true a1_0 a1_1 a1_2)) = some r := H
   have A10 := Aside0.mk A100
   clear A100
   have HC11 := Aside0.mk H
   clear H
   have hcz12_0 : w8.cell? ⟨gb839, 0, none⟩ = some (.int .i64 a1_0) := (blk_cell BK839.out 0).trans rfl
   have hcz12_1 : w8.cell? ⟨gb839, 1, none⟩ = some (.string a1_1) := (blk_cell BK839.out 1).trans rfl
   have hcz12_2 : w8.cell? ⟨gb839, 2, none⟩ = some (.bool a1_2) := (blk_cell BK839.out 2).trans rfl
   have hfz12_0 := blk_frozen BK839.out 0
   have hfz12_1 := blk_frozen BK839.out 1
   have hfz12_2 := blk_frozen BK839.out 2
   go_upto_region 4 with (first | ((with_reducible refine gate_callee (f := 60) rfl ?_); refine goesL_ (some 31) rfl rfl Try.func60 (by kernel_rfl) rfl #[.string t840, .int .i64 (wrap64 (-a1_0))] rfl (by (try simp only [List.map_toArray, List.map_cons, List.map_nil]); first | done | rfl | (simp only [List.length_drop, List.length_take]; rfl)) ?_; (with_reducible refine (puzzles_Shift.calls t840 (wrap64 (-a1_0)) t842 t843 _ A10.out).mono ?_); rintro e w13 ⟨rfl, hb⟩; refine ⟨_, rfl, ?_⟩; have n0_ := Aside0.mk (blk_below (g := gb839) (o := .cells #[.int .i64 a1_0, .string a1_1, .bool a1_2] 81 (0, 0)) (by (with_reducible repeat (first | refine blk_drewN ?_ _ | refine blk_drew ?_ | refine blk_alloc ?_ _)); exact BK839.out) hb); have n1_ := Aside0.mk (below_step (by repeat (first | (with_reducible first | exact HB.out | apply below_alloc | apply pw_below_drewN | apply below_drew1 | refine below_set ?_ GE839.out) | exact HB.out)) hb); clear BK839; clear HB; have BK839 := n0_; have HB := n1_; clear n0_ n1_; (try clear hb); (try clear hb2); (try clear hk); (try clear hi)))
   (try simp only [Act.put, List.setIfInBounds_toArray, List.set_cons_zero, List.set_cons_succ])
   go_cut [47] (fun v47 wc => ∃ (kq : Nat) (x47_10 : Bool), v47 = .bool x47_10 ∧ Aside0 (padlocklaw03_PuzzlesBack.j0 kq a0 a2 t840 x47_10 a1_0 a1_1 a1_2 = some r) ∧ Aside0 (kq ≤ k) ∧ Aside0 (wc.heap[gb839]? = some (.cells #[.int .i64 a1_0, .string a1_1, .bool a1_2] 81 (0, 0))) ∧ Aside0 (Below w.heap.size w wc))
   case first =>
    have H := HC11.out
    clear HC11
    by_cases c14 : t843 = 0
    ·rw [if_pos c14] at H
     have c14b0 : (t843 == 0) = true := beq_iff_eq.mpr c14
     have c14b1 : (t843 != 0) = false := bne_eq_false_iff_eq.mpr c14
     clear c14
     (first | rw [c14b0] | (simp only [i64_w, i32_w]; rw [c14b0]) | skip)
     by_cases c15 : t842.toList = a0.toList
     ·rw [if_pos c15] at H
      have c15b0 : (t842.toList == a0.toList) = true := beq_iff_eq.mpr c15
      have c15b1 : (t842.toList != a0.toList) = false := bne_eq_false_iff_eq.mpr c15
      clear c15
      have H' := Aside0.mk H
      clear H
      go_wp2
      go_meet
      case rel => exact ⟨_, (((t840.size : Int) != (a0.size : Int))), (by first | rfl | (simp; done) | (simp [*]; done)), H', ⟨by first | omega | exact Nat.le_refl _⟩, ⟨by (with_reducible repeat (first | refine blk_drewN ?_ _ | refine blk_drew ?_ | refine blk_alloc ?_ _)); exact BK839.out⟩, ⟨by repeat (first | (with_reducible first | exact HB.out | apply below_alloc | apply pw_below_drewN | apply below_drew1 | refine below_set ?_ GE839.out) | exact HB.out)⟩⟩
     ·rw [if_neg c15] at H
      have c15b0 : (t842.toList == a0.toList) = false := beq_eq_false_iff_ne.mpr c15
      have c15b1 : (t842.toList != a0.toList) = true := bne_iff_ne.mpr c15
      have H' := Aside0.mk H
      clear H
      go_wp2
      go_meet
      case rel => exact ⟨_, (true), (by first | rfl | (simp; done) | (simp [*]; done)), H', ⟨by first | omega | exact Nat.le_refl _⟩, ⟨by (with_reducible repeat (first | refine blk_drewN ?_ _ | refine blk_drew ?_ | refine blk_alloc ?_ _)); exact BK839.out⟩, ⟨by repeat (first | (with_reducible first | exact HB.out | apply below_alloc | apply pw_below_drewN | apply below_drew1 | refine below_set ?_ GE839.out) | exact HB.out)⟩⟩
    ·rw [if_neg c14] at H
     have c14b0 : (t843 == 0) = false := beq_eq_false_iff_ne.mpr c14
     have c14b1 : (t843 != 0) = true := bne_iff_ne.mpr c14
     (first | rw [c14b0] | (simp only [i64_w, i32_w]; rw [c14b0]) | skip)
     have H' := Aside0.mk H
     clear H
     go_wp2
     go_meet
     case rel => exact ⟨_, (true), (by first | rfl | (simp; done) | (simp [*]; done)), H', ⟨by first | omega | exact Nat.le_refl _⟩, ⟨by (with_reducible repeat (first | refine blk_drewN ?_ _ | refine blk_drew ?_ | refine blk_alloc ?_ _)); exact BK839.out⟩, ⟨by repeat (first | (with_reducible first | exact HB.out | apply below_alloc | apply pw_below_drewN | apply below_drew1 | refine below_set ?_ GE839.out) | exact HB.out)⟩⟩
   case rest =>
    clear HC11
    try clear c1
    try clear p2
    try clear c6
    try clear p6
    try clear c9
    try clear c9b0
    try clear c9b1
    try clear c14
    try clear c14b0
    try clear c14b1
    try clear c15
    try clear c15b0
    try clear c15b1
    try clear hcz12_0
    try clear hcz12_1
    try clear hcz12_2
    try clear hcz7_0
    try clear hcz7_1
    try clear hcz7_2
    try clear hfz12_0
    try clear hfz12_1
    try clear hfz12_2
    try clear hfz7_0
    try clear hfz7_1
    try clear hfz7_2
    obtain ⟨kq, x47_10, rfl, HA, HJ10, BK839, HB⟩ := hcut
    cases kq with
    | zero => exact absurd HA.out (by simp [padlocklaw03_PuzzlesBack.j0])
    | succ kj10 =>
     have H := HA.out
     clear HA
     simp only [padlocklaw03_PuzzlesBack.j0] at H
     by_cases c16 : x47_10 = true
     ·subst c16
      have H1 : (some false) = some r := by rw [if_pos rfl] at H; exact H
      clear H
      have H := H1
      clear H1
      obtain rfl := Option.some.inj H
      go_wp2
      go_ret
      exact ⟨by first | rfl | (simp [errW_none, errW_some] <;> rfl) | (simp [*, errW_none, errW_some] <;> rfl), by repeat (first | (with_reducible first | exact HB.out | apply below_alloc | apply pw_below_drewN | apply below_drew1 | refine below_set ?_ GE839.out) | exact HB.out)⟩
     ·replace c16 := Bool.eq_false_iff.mpr c16
      subst c16
      have H1 : ((puzzles_Shift.f t840 (((a1_1.size : Int) % 40) - 20)).bind fun bt844 => ((puzzles_Shift.f a0 (wrap64 (a1_0 + (((a1_1.size : Int) % 40) - 20)))).bind fun bt846 => (if bt844.2 = 0 then (if bt846.2 = 0 then (padlocklaw03_PuzzlesBack.j1 kj10 a0 a2 t840 (bt844.1.toList != bt846.1.toList) a1_0 a1_1 a1_2) else (padlocklaw03_PuzzlesBack.j1 kj10 a0 a2 t840 false a1_0 a1_1 a1_2)) else (padlocklaw03_PuzzlesBack.j1 kj10 a0 a2 t840 true a1_0 a1_1 a1_2)))) = some r := by rw [if_neg (show ¬ (false = true) by decide)] at H; exact H
      clear H
      have H := H1
      clear H1
      replace H := Option.bind_eq_some_iff.mp H
      obtain ⟨⟨t844, t845⟩, A170, H⟩ := H
      replace H : ((puzzles_Shift.f a0 (wrap64 (a1_0 + (((a1_1.size : Int) % 40) - 20)))).bind fun bt846 => (if t845 = 0 then (if bt846.2 = 0 then (padlocklaw03_PuzzlesBack.j1 kj10 a0 a2 t840 (t844.toList != bt846.1.toList) a1_0 a1_1 a1_2) else (padlocklaw03_PuzzlesBack.j1 kj10 a0 a2 t840 false a1_0 a1_1 a1_2)) else (padlocklaw03_PuzzlesBack.j1 kj10 a0 a2 t840 true a1_0 a1_1 a1_2))) = some r := H
      have A17 := Aside0.mk A170
      clear A170
      replace H := Option.bind_eq_some_iff.mp H
      obtain ⟨⟨t846, t847⟩, A180, H⟩ := H
      replace H : (if t845 = 0 then (if t847 = 0 then (padlocklaw03_PuzzlesBack.j1 kj10 a0 a2 t840 (t844.toList != t846.toList) a1_0 a1_1 a1_2) else (padlocklaw03_PuzzlesBack.j1 kj10 a0 a2 t840 false a1_0 a1_1 a1_2)) else (padlocklaw03_PuzzlesBack.j1 kj10 a0 a2 t840 true a1_0 a1_1 a1_2)) = some r := H
      have A18 := Aside0.mk A180
      clear A180
      have HC19 := Aside0.mk H
      clear H
      have hcz20_0 : wc.cell? ⟨gb839, 0, none⟩ = some (.int .i64 a1_0) := (blk_cell BK839.out 0).trans rfl
      have hcz20_1 : wc.cell? ⟨gb839, 1, none⟩ = some (.string a1_1) := (blk_cell BK839.out 1).trans rfl
      have hcz20_2 : wc.cell? ⟨gb839, 2, none⟩ = some (.bool a1_2) := (blk_cell BK839.out 2).trans rfl
      have hfz20_0 := blk_frozen BK839.out 0
      have hfz20_1 := blk_frozen BK839.out 1
      have hfz20_2 := blk_frozen BK839.out 2
      go_upto_region 9 with (first | ((with_reducible refine gate_callee (f := 60) rfl ?_); refine goesL_ (some 56) rfl rfl Try.func60 (by kernel_rfl) rfl #[.string t840, .int .i64 (((a1_1.size : Int) % 40) - 20)] rfl (by (try simp only [List.map_toArray, List.map_cons, List.map_nil]); first | done | rfl | (simp only [List.length_drop, List.length_take]; rfl)) ?_; (with_reducible refine (puzzles_Shift.calls t840 (((a1_1.size : Int) % 40) - 20) t844 t845 _ A17.out).mono ?_); rintro e w21 ⟨rfl, hb⟩; refine ⟨_, rfl, ?_⟩; have n0_ := Aside0.mk (blk_below (g := gb839) (o := .cells #[.int .i64 a1_0, .string a1_1, .bool a1_2] 81 (0, 0)) (by (with_reducible repeat (first | refine blk_drewN ?_ _ | refine blk_drew ?_ | refine blk_alloc ?_ _)); exact BK839.out) hb); have n1_ := Aside0.mk (below_step (by repeat (first | (with_reducible first | exact HB.out | apply below_alloc | apply pw_below_drewN | apply below_drew1 | refine below_set ?_ GE839.out) | exact HB.out)) hb); clear BK839; clear HB; have BK839 := n0_; have HB := n1_; clear n0_ n1_; (try clear hb); (try clear hb2); (try clear hk); (try clear hi); have hcz22_0 : w21.cell? ⟨gb839, 0, none⟩ = some (.int .i64 a1_0) := (blk_cell BK839.out 0).trans rfl; have hcz22_1 : w21.cell? ⟨gb839, 1, none⟩ = some (.string a1_1) := (blk_cell BK839.out 1).trans rfl; have hcz22_2 : w21.cell? ⟨gb839, 2, none⟩ = some (.bool a1_2) := (blk_cell BK839.out 2).trans rfl; have hfz22_0 := blk_frozen BK839.out 0; have hfz22_1 := blk_frozen BK839.out 1; have hfz22_2 := blk_frozen BK839.out 2) | ((with_reducible refine gate_callee (f := 60) rfl ?_); refine goesL_ (some 65) rfl rfl Try.func60 (by kernel_rfl) rfl #[.string a0, .int .i64 (wrap64 (a1_0 + (((a1_1.size : Int) % 40) - 20)))] rfl (by (try simp only [List.map_toArray, List.map_cons, List.map_nil]); first | done | rfl | (simp only [List.length_drop, List.length_take]; rfl)) ?_; (with_reducible refine (puzzles_Shift.calls a0 (wrap64 (a1_0 + (((a1_1.size : Int) % 40) - 20))) t846 t847 _ A18.out).mono ?_); rintro e w23 ⟨rfl, hb⟩; refine ⟨_, rfl, ?_⟩; have n0_ := Aside0.mk (blk_below (g := gb839) (o := .cells #[.int .i64 a1_0, .string a1_1, .bool a1_2] 81 (0, 0)) (by (with_reducible repeat (first | refine blk_drewN ?_ _ | refine blk_drew ?_ | refine blk_alloc ?_ _)); exact BK839.out) hb); have n1_ := Aside0.mk (below_step (by repeat (first | (with_reducible first | exact HB.out | apply below_alloc | apply pw_below_drewN | apply below_drew1 | refine below_set ?_ GE839.out) | exact HB.out)) hb); clear BK839; clear HB; have BK839 := n0_; have HB := n1_; clear n0_ n1_; (try clear hb); (try clear hb2); (try clear hk); (try clear hi)))
      (try simp only [Act.put, List.setIfInBounds_toArray, List.set_cons_zero, List.set_cons_succ])
      go_cut [78] (fun v78 wc => ∃ (kq : Nat) (x78_18 : Bool), v78 = .bool x78_18 ∧ Aside0 (padlocklaw03_PuzzlesBack.j1 kq a0 a2 t840 x78_18 a1_0 a1_1 a1_2 = some r) ∧ Aside0 (kq ≤ kj10) ∧ Aside0 (wc.heap[gb839]? = some (.cells #[.int .i64 a1_0, .string a1_1, .bool a1_2] 81 (0, 0))) ∧ Aside0 (Below w.heap.size w wc))
      case first =>
       have H := HC19.out
       clear HC19
       by_cases c24 : t845 = 0
       ·rw [if_pos c24] at H
        have c24b0 : (t845 == 0) = true := beq_iff_eq.mpr c24
        have c24b1 : (t845 != 0) = false := bne_eq_false_iff_eq.mpr c24
        clear c24
        (first | rw [c24b0] | (simp only [i64_w, i32_w]; rw [c24b0]) | skip)
        by_cases c25 : t847 = 0
        ·rw [if_pos c25] at H
         have c25b0 : (t847 == 0) = true := beq_iff_eq.mpr c25
         have c25b1 : (t847 != 0) = false := bne_eq_false_iff_eq.mpr c25
         clear c25
         have H' := Aside0.mk H
         clear H
         go_wp2
         go_meet
         case rel => exact ⟨_, ((t844.toList != t846.toList)), (by first | rfl | (simp; done) | (simp [*]; done)), H', ⟨by have := HJ10.out; first | omega | exact Nat.le_refl _⟩, ⟨by (with_reducible repeat (first | refine blk_drewN ?_ _ | refine blk_drew ?_ | refine blk_alloc ?_ _)); exact BK839.out⟩, ⟨by repeat (first | (with_reducible first | exact HB.out | apply below_alloc | apply pw_below_drewN | apply below_drew1 | refine below_set ?_ GE839.out) | exact HB.out)⟩⟩
        ·rw [if_neg c25] at H
         have c25b0 : (t847 == 0) = false := beq_eq_false_iff_ne.mpr c25
         have c25b1 : (t847 != 0) = true := bne_iff_ne.mpr c25
         have H' := Aside0.mk H
         clear H
         go_wp2
         go_meet
         case rel => exact ⟨_, (false), (by first | rfl | (simp; done) | (simp [*]; done)), H', ⟨by have := HJ10.out; first | omega | exact Nat.le_refl _⟩, ⟨by (with_reducible repeat (first | refine blk_drewN ?_ _ | refine blk_drew ?_ | refine blk_alloc ?_ _)); exact BK839.out⟩, ⟨by repeat (first | (with_reducible first | exact HB.out | apply below_alloc | apply pw_below_drewN | apply below_drew1 | refine below_set ?_ GE839.out) | exact HB.out)⟩⟩
       ·rw [if_neg c24] at H
        have c24b0 : (t845 == 0) = false := beq_eq_false_iff_ne.mpr c24
        have c24b1 : (t845 != 0) = true := bne_iff_ne.mpr c24
        (first | rw [c24b0] | (simp only [i64_w, i32_w]; rw [c24b0]) | skip)
        have H' := Aside0.mk H
        clear H
        go_wp2
        go_meet
        case rel => exact ⟨_, (true), (by first | rfl | (simp; done) | (simp [*]; done)), H', ⟨by have := HJ10.out; first | omega | exact Nat.le_refl _⟩, ⟨by (with_reducible repeat (first | refine blk_drewN ?_ _ | refine blk_drew ?_ | refine blk_alloc ?_ _)); exact BK839.out⟩, ⟨by repeat (first | (with_reducible first | exact HB.out | apply below_alloc | apply pw_below_drewN | apply below_drew1 | refine below_set ?_ GE839.out) | exact HB.out)⟩⟩
      case rest =>
       clear HC19
       try clear c1
       try clear c2
       try clear p2
       try clear c6
       try clear p6
       try clear c9
       try clear c9b0
       try clear c9b1
       try clear c14
       try clear c14b0
       try clear c14b1
       try clear c15
       try clear c15b0
       try clear c15b1
       try clear c16
       try clear c18
       try clear c24
       try clear c24b0
       try clear c24b1
       try clear c25
       try clear c25b0
       try clear c25b1
       try clear hcz12_0
       try clear hcz12_1
       try clear hcz12_2
       try clear hcz20_0
       try clear hcz20_1
       try clear hcz20_2
       try clear hcz22_0
       try clear hcz22_1
       try clear hcz22_2
       try clear hcz7_0
       try clear hcz7_1
       try clear hcz7_2
       try clear hfz12_0
       try clear hfz12_1
       try clear hfz12_2
       try clear hfz20_0
       try clear hfz20_1
       try clear hfz20_2
       try clear hfz22_0
       try clear hfz22_1
       try clear hfz22_2
       try clear hfz7_0
       try clear hfz7_1
       try clear hfz7_2
       try clear p2
       try clear p6
       obtain ⟨kq, x78_18, rfl, HA, HJ18, BK839, HB⟩ := hcut
       cases kq with
       | zero => exact absurd HA.out (by simp [padlocklaw03_PuzzlesBack.j1])
       | succ kj18 =>
        have H := HA.out
        clear HA
        simp only [padlocklaw03_PuzzlesBack.j1] at H
        by_cases c26 : x78_18 = true
        ·subst c26
         have H1 : (some false) = some r := by rw [if_pos rfl] at H; exact H
         clear H
         have H := H1
         clear H1
         obtain rfl := Option.some.inj H
         go_wp2
         go_ret
         exact ⟨by first | rfl | (simp [errW_none, errW_some] <;> rfl) | (simp [*, errW_none, errW_some] <;> rfl), by repeat (first | (with_reducible first | exact HB.out | apply below_alloc | apply pw_below_drewN | apply below_drew1 | refine below_set ?_ GE839.out) | exact HB.out)⟩
        ·replace c26 := Bool.eq_false_iff.mpr c26
         subst c26
         have H1 : ((puzzles_Crack.f kj18 t840 a2).bind fun bt848 => (if bt848.2 = 0 then ((padlocklaw03_contains.f kj18 a0 a2).bind fun t852 => (if t852 = true then ((padlocklaw03_has.f kj18 bt848.1 (Int.tmod (wrap64 ((Int.tmod (wrap64 (26 - a1_0)) 26) + 26)) 26)).bind fun t853 => (if t853 = true then (padlocklaw03_PuzzlesBack.j2 kj18 a0 a1_0 a1_1 a1_2) else (some false))) else (padlocklaw03_PuzzlesBack.j2 kj18 a0 a1_0 a1_1 a1_2))) else (padlocklaw03_PuzzlesBack.j2 kj18 a0 a1_0 a1_1 a1_2))) = some r := by rw [if_neg (show ¬ (false = true) by decide)] at H; exact H
         clear H
         have H := H1
         clear H1
         replace H := Option.bind_eq_some_iff.mp H
         obtain ⟨⟨t848, t849⟩, A270, H⟩ := H
         replace H : (if t849 = 0 then ((padlocklaw03_contains.f kj18 a0 a2).bind fun t852 => (if t852 = true then ((padlocklaw03_has.f kj18 t848 (Int.tmod (wrap64 ((Int.tmod (wrap64 (26 - a1_0)) 26) + 26)) 26)).bind fun t853 => (if t853 = true then (padlocklaw03_PuzzlesBack.j2 kj18 a0 a1_0 a1_1 a1_2) else (some false))) else (padlocklaw03_PuzzlesBack.j2 kj18 a0 a1_0 a1_1 a1_2))) else (padlocklaw03_PuzzlesBack.j2 kj18 a0 a1_0 a1_1 a1_2)) = some r := H
         have A27 := Aside0.mk A270
         clear A270
         by_cases c28 : t849 = 0
         ·rw [if_pos c28] at H
          have c28b0 : (t849 == 0) = true := beq_iff_eq.mpr c28
          have c28b1 : (t849 != 0) = false := bne_eq_false_iff_eq.mpr c28
          clear c28
          replace H := Option.bind_eq_some_iff.mp H
          obtain ⟨t852, A290, H⟩ := H
          replace H : (if t852 = true then ((padlocklaw03_has.f kj18 t848 (Int.tmod (wrap64 ((Int.tmod (wrap64 (26 - a1_0)) 26) + 26)) 26)).bind fun t853 => (if t853 = true then (padlocklaw03_PuzzlesBack.j2 kj18 a0 a1_0 a1_1 a1_2) else (some false))) else (padlocklaw03_PuzzlesBack.j2 kj18 a0 a1_0 a1_1 a1_2)) = some r := H
          have A29 := Aside0.mk A290
          clear A290
          by_cases c30 : t852 = true
          ·subst c30
           have H1 : ((padlocklaw03_has.f kj18 t848 (Int.tmod (wrap64 ((Int.tmod (wrap64 (26 - a1_0)) 26) + 26)) 26)).bind fun t853 => (if t853 = true then (padlocklaw03_PuzzlesBack.j2 kj18 a0 a1_0 a1_1 a1_2) else (some false))) = some r := by rw [if_pos rfl] at H; exact H
           clear H
           have H := H1
           clear H1
           replace H := Option.bind_eq_some_iff.mp H
           obtain ⟨t853, A310, H⟩ := H
           replace H : (if t853 = true then (padlocklaw03_PuzzlesBack.j2 kj18 a0 a1_0 a1_1 a1_2) else (some false)) = some r := H
           have A31 := Aside0.mk A310
           clear A310
           by_cases c32 : t853 = true
           ·subst c32
            have H1 : (padlocklaw03_PuzzlesBack.j2 kj18 a0 a1_0 a1_1 a1_2) = some r := by rw [if_pos rfl] at H; exact H
            clear H
            have H := H1
            clear H1
            have H' := Aside0.mk H
            clear H
            go_wp2_with (first | ((with_reducible refine gate_callee (f := 64) rfl ?_); refine goesL_ (some 82) rfl rfl Try.func64 (by kernel_rfl) rfl #[.string t840, .string a2] rfl (by (try simp only [List.map_toArray, List.map_cons, List.map_nil]); first | done | rfl | (simp only [List.length_drop, List.length_take]; rfl)) ?_; (with_reducible refine (puzzles_Crack.calls kj18 t840 a2 t848 t849 _ A27.out (mx_below HMx.out (by repeat (first | (with_reducible first | exact HB.out | apply below_alloc | apply pw_below_drewN | apply below_drew1 | refine below_set ?_ GE839.out) | exact HB.out)))).mono ?_); rintro e w33 ⟨v850, rfl, ho0, hb⟩; refine ⟨_, rfl, ?_⟩; have n0_ := Aside0.mk (Kd.R_lower ho0 (below_size (by repeat (first | (with_reducible first | exact HB.out | apply below_alloc | apply pw_below_drewN | apply below_drew1 | refine below_set ?_ GE839.out) | exact HB.out)))); have n1_ := Aside0.mk (blk_below (g := gb839) (o := .cells #[.int .i64 a1_0, .string a1_1, .bool a1_2] 81 (0, 0)) (by (with_reducible repeat (first | refine blk_drewN ?_ _ | refine blk_drew ?_ | refine blk_alloc ?_ _)); exact BK839.out) hb); have n2_ := Aside0.mk (below_step (by repeat (first | (with_reducible first | exact HB.out | apply below_alloc | apply pw_below_drewN | apply below_drew1 | refine below_set ?_ GE839.out) | exact HB.out)) hb); clear BK839; clear HB; have HO851 := n0_; have BK839 := n1_; have HB := n2_; clear n0_ n1_ n2_; (try clear hb); (try clear hb2); (try clear hk); (try clear hi); (try clear ho0)) | (go_at_call 66; (with_reducible refine (padlocklaw03_contains.calls kj18 a0 a2 true _ A29.out).mono ?_); rintro e w' ⟨rfl, ⟨nd, rfl⟩⟩; have hcz34_0 : w33.cell? ⟨gb839, 0, none⟩ = some (.int .i64 a1_0) := (blk_cell BK839.out 0).trans rfl; have hcz34_1 : w33.cell? ⟨gb839, 1, none⟩ = some (.string a1_1) := (blk_cell BK839.out 1).trans rfl; have hcz34_2 : w33.cell? ⟨gb839, 2, none⟩ = some (.bool a1_2) := (blk_cell BK839.out 2).trans rfl; have hfz34_0 := blk_frozen BK839.out 0; have hfz34_1 := blk_frozen BK839.out 1; have hfz34_2 := blk_frozen BK839.out 2; obtain ⟨Ao35, co35, eo35⟩ := Kd.R_slice HO851.out; subst eo35) | (go_at_call 40; (with_reducible refine (padlocklaw03_has.calls kj18 _ _ t848 (Int.tmod (wrap64 ((Int.tmod (wrap64 (26 - a1_0)) 26) + 26)) 26) true _ ?side1 ?side2 A31.out).mono ?_); (case side1 => repeat (first | exact (Kd.R_reads' HO851.out).2.2 | (with_reducible refine Kd.C_alloc ?_ _) | (with_reducible refine Kd.C_drewN ?_ _) | (with_reducible refine Kd.C_drew ?_))); (case side2 => exact (Kd.R_reads' HO851.out).2.1); rintro e w' ⟨rfl, ⟨nd, rfl⟩⟩))
            go_meet
            case rel => exact ⟨_, H', ⟨by have := HJ10.out; have := HJ18.out; first | omega | exact Nat.le_refl _⟩, ⟨by (with_reducible repeat (first | refine blk_drewN ?_ _ | refine blk_drew ?_ | refine blk_alloc ?_ _)); exact BK839.out⟩, ⟨by repeat (first | (with_reducible first | exact HB.out | apply below_alloc | apply pw_below_drewN | apply below_drew1 | refine below_set ?_ GE839.out) | exact HB.out)⟩⟩
           ·replace c32 := Bool.eq_false_iff.mpr c32
            subst c32
            have H1 : (some false) = some r := by rw [if_neg (show ¬ (false = true) by decide)] at H; exact H
            clear H
            have H := H1
            clear H1
            obtain rfl := Option.some.inj H
            go_wp2_with (first | ((with_reducible refine gate_callee (f := 64) rfl ?_); refine goesL_ (some 82) rfl rfl Try.func64 (by kernel_rfl) rfl #[.string t840, .string a2] rfl (by (try simp only [List.map_toArray, List.map_cons, List.map_nil]); first | done | rfl | (simp only [List.length_drop, List.length_take]; rfl)) ?_; (with_reducible refine (puzzles_Crack.calls kj18 t840 a2 t848 t849 _ A27.out (mx_below HMx.out (by repeat (first | (with_reducible first | exact HB.out | apply below_alloc | apply pw_below_drewN | apply below_drew1 | refine below_set ?_ GE839.out) | exact HB.out)))).mono ?_); rintro e w36 ⟨v850, rfl, ho0, hb⟩; refine ⟨_, rfl, ?_⟩; have n0_ := Aside0.mk (Kd.R_lower ho0 (below_size (by repeat (first | (with_reducible first | exact HB.out | apply below_alloc | apply pw_below_drewN | apply below_drew1 | refine below_set ?_ GE839.out) | exact HB.out)))); have n1_ := Aside0.mk (blk_below (g := gb839) (o := .cells #[.int .i64 a1_0, .string a1_1, .bool a1_2] 81 (0, 0)) (by (with_reducible repeat (first | refine blk_drewN ?_ _ | refine blk_drew ?_ | refine blk_alloc ?_ _)); exact BK839.out) hb); have n2_ := Aside0.mk (below_step (by repeat (first | (with_reducible first | exact HB.out | apply below_alloc | apply pw_below_drewN | apply below_drew1 | refine below_set ?_ GE839.out) | exact HB.out)) hb); clear BK839; clear HB; have HO851 := n0_; have BK839 := n1_; have HB := n2_; clear n0_ n1_ n2_; (try clear hb); (try clear hb2); (try clear hk); (try clear hi); (try clear ho0)) | (go_at_call 66; (with_reducible refine (padlocklaw03_contains.calls kj18 a0 a2 true _ A29.out).mono ?_); rintro e w' ⟨rfl, ⟨nd, rfl⟩⟩; have hcz37_0 : w36.cell? ⟨gb839, 0, none⟩ = some (.int .i64 a1_0) := (blk_cell BK839.out 0).trans rfl; have hcz37_1 : w36.cell? ⟨gb839, 1, none⟩ = some (.string a1_1) := (blk_cell BK839.out 1).trans rfl; have hcz37_2 : w36.cell? ⟨gb839, 2, none⟩ = some (.bool a1_2) := (blk_cell BK839.out 2).trans rfl; have hfz37_0 := blk_frozen BK839.out 0; have hfz37_1 := blk_frozen BK839.out 1; have hfz37_2 := blk_frozen BK839.out 2; obtain ⟨Ao38, co38, eo38⟩ := Kd.R_slice HO851.out; subst eo38) | (go_at_call 40; (with_reducible refine (padlocklaw03_has.calls kj18 _ _ t848 (Int.tmod (wrap64 ((Int.tmod (wrap64 (26 - a1_0)) 26) + 26)) 26) false _ ?side1 ?side2 A31.out).mono ?_); (case side1 => repeat (first | exact (Kd.R_reads' HO851.out).2.2 | (with_reducible refine Kd.C_alloc ?_ _) | (with_reducible refine Kd.C_drewN ?_ _) | (with_reducible refine Kd.C_drew ?_))); (case side2 => exact (Kd.R_reads' HO851.out).2.1); rintro e w' ⟨rfl, ⟨nd, rfl⟩⟩))
            go_ret
            exact ⟨by first | rfl | (simp [errW_none, errW_some] <;> rfl) | (simp [*, errW_none, errW_some] <;> rfl), by repeat (first | (with_reducible first | exact HB.out | apply below_alloc | apply pw_below_drewN | apply below_drew1 | refine below_set ?_ GE839.out) | exact HB.out)⟩
          ·replace c30 := Bool.eq_false_iff.mpr c30
           subst c30
           have H1 : (padlocklaw03_PuzzlesBack.j2 kj18 a0 a1_0 a1_1 a1_2) = some r := by rw [if_neg (show ¬ (false = true) by decide)] at H; exact H
           clear H
           have H := H1
           clear H1
           have H' := Aside0.mk H
           clear H
           go_wp2_with (first | ((with_reducible refine gate_callee (f := 64) rfl ?_); refine goesL_ (some 82) rfl rfl Try.func64 (by kernel_rfl) rfl #[.string t840, .string a2] rfl (by (try simp only [List.map_toArray, List.map_cons, List.map_nil]); first | done | rfl | (simp only [List.length_drop, List.length_take]; rfl)) ?_; (with_reducible refine (puzzles_Crack.calls kj18 t840 a2 t848 t849 _ A27.out (mx_below HMx.out (by repeat (first | (with_reducible first | exact HB.out | apply below_alloc | apply pw_below_drewN | apply below_drew1 | refine below_set ?_ GE839.out) | exact HB.out)))).mono ?_); rintro e w39 ⟨v850, rfl, ho0, hb⟩; refine ⟨_, rfl, ?_⟩; have n0_ := Aside0.mk (Kd.R_lower ho0 (below_size (by repeat (first | (with_reducible first | exact HB.out | apply below_alloc | apply pw_below_drewN | apply below_drew1 | refine below_set ?_ GE839.out) | exact HB.out)))); have n1_ := Aside0.mk (blk_below (g := gb839) (o := .cells #[.int .i64 a1_0, .string a1_1, .bool a1_2] 81 (0, 0)) (by (with_reducible repeat (first | refine blk_drewN ?_ _ | refine blk_drew ?_ | refine blk_alloc ?_ _)); exact BK839.out) hb); have n2_ := Aside0.mk (below_step (by repeat (first | (with_reducible first | exact HB.out | apply below_alloc | apply pw_below_drewN | apply below_drew1 | refine below_set ?_ GE839.out) | exact HB.out)) hb); clear BK839; clear HB; have HO851 := n0_; have BK839 := n1_; have HB := n2_; clear n0_ n1_ n2_; (try clear hb); (try clear hb2); (try clear hk); (try clear hi); (try clear ho0)) | (go_at_call 66; (with_reducible refine (padlocklaw03_contains.calls kj18 a0 a2 false _ A29.out).mono ?_); rintro e w' ⟨rfl, ⟨nd, rfl⟩⟩))
           go_meet
           case rel => exact ⟨_, H', ⟨by have := HJ10.out; have := HJ18.out; first | omega | exact Nat.le_refl _⟩, ⟨by (with_reducible repeat (first | refine blk_drewN ?_ _ | refine blk_drew ?_ | refine blk_alloc ?_ _)); exact BK839.out⟩, ⟨by repeat (first | (with_reducible first | exact HB.out | apply below_alloc | apply pw_below_drewN | apply below_drew1 | refine below_set ?_ GE839.out) | exact HB.out)⟩⟩
         ·rw [if_neg c28] at H
          have c28b0 : (t849 == 0) = false := beq_eq_false_iff_ne.mpr c28
          have c28b1 : (t849 != 0) = true := bne_iff_ne.mpr c28
          have H' := Aside0.mk H
          clear H
          go_wp2_with (first | ((with_reducible refine gate_callee (f := 64) rfl ?_); refine goesL_ (some 82) rfl rfl Try.func64 (by kernel_rfl) rfl #[.string t840, .string a2] rfl (by (try simp only [List.map_toArray, List.map_cons, List.map_nil]); first | done | rfl | (simp only [List.length_drop, List.length_take]; rfl)) ?_; (with_reducible refine (puzzles_Crack.calls kj18 t840 a2 t848 t849 _ A27.out (mx_below HMx.out (by repeat (first | (with_reducible first | exact HB.out | apply below_alloc | apply pw_below_drewN | apply below_drew1 | refine below_set ?_ GE839.out) | exact HB.out)))).mono ?_); rintro e w40 ⟨v850, rfl, ho0, hb⟩; refine ⟨_, rfl, ?_⟩; have n0_ := Aside0.mk (Kd.R_lower ho0 (below_size (by repeat (first | (with_reducible first | exact HB.out | apply below_alloc | apply pw_below_drewN | apply below_drew1 | refine below_set ?_ GE839.out) | exact HB.out)))); have n1_ := Aside0.mk (blk_below (g := gb839) (o := .cells #[.int .i64 a1_0, .string a1_1, .bool a1_2] 81 (0, 0)) (by (with_reducible repeat (first | refine blk_drewN ?_ _ | refine blk_drew ?_ | refine blk_alloc ?_ _)); exact BK839.out) hb); have n2_ := Aside0.mk (below_step (by repeat (first | (with_reducible first | exact HB.out | apply below_alloc | apply pw_below_drewN | apply below_drew1 | refine below_set ?_ GE839.out) | exact HB.out)) hb); clear BK839; clear HB; have HO851 := n0_; have BK839 := n1_; have HB := n2_; clear n0_ n1_ n2_; (try clear hb); (try clear hb2); (try clear hk); (try clear hi); (try clear ho0)))
          go_meet
          case rel => exact ⟨_, H', ⟨by have := HJ10.out; have := HJ18.out; first | omega | exact Nat.le_refl _⟩, ⟨by (with_reducible repeat (first | refine blk_drewN ?_ _ | refine blk_drew ?_ | refine blk_alloc ?_ _)); exact BK839.out⟩, ⟨by repeat (first | (with_reducible first | exact HB.out | apply below_alloc | apply pw_below_drewN | apply below_drew1 | refine below_set ?_ GE839.out) | exact HB.out)⟩⟩
  ·rw [if_neg c9] at H
   have c9b0 : (t841 == 0) = false := beq_eq_false_iff_ne.mpr c9
   have c9b1 : (t841 != 0) = true := bne_iff_ne.mpr c9
   (first | rw [c9b0] | (simp only [i64_w, i32_w]; rw [c9b0]) | skip)
   have H' := Aside0.mk H
   clear H
   go_wp2
   go_meet
   case rel => exact ⟨_, H', ⟨by first | omega | exact Nat.le_refl _⟩, ⟨by (with_reducible repeat (first | refine blk_drewN ?_ _ | refine blk_drew ?_ | refine blk_alloc ?_ _)); exact BK839.out⟩, ⟨by repeat (first | (with_reducible first | exact HB.out | apply below_alloc | apply pw_below_drewN | apply below_drew1 | refine below_set ?_ GE839.out) | exact HB.out)⟩⟩
 case rest =>
  clear HC5
  try clear c1
  try clear c2
  try clear p2
  try clear c3
  try clear c6
  try clear p6
  try clear c9
  try clear c9b0
  try clear c9b1
  try clear c14
  try clear c14b0
  try clear c14b1
  try clear c15
  try clear c15b0
  try clear c15b1
  try clear c16
  try clear c18
  try clear c24
  try clear c24b0
  try clear c24b1
  try clear c25
  try clear c25b0
  try clear c25b1
  try clear c26
  try clear c28
  try clear c28b0
  try clear c28b1
  try clear c30
  try clear c32
  try clear hcz12_0
  try clear hcz12_1
  try clear hcz12_2
  try clear hcz20_0
  try clear hcz20_1
  try clear hcz20_2
  try clear hcz22_0
  try clear hcz22_1
  try clear hcz22_2
  try clear hcz34_0
  try clear hcz34_1
  try clear hcz34_2
  try clear hcz37_0
  try clear hcz37_1
  try clear hcz37_2
  try clear hcz7_0
  try clear hcz7_1
  try clear hcz7_2
  try clear hfz12_0
  try clear hfz12_1
  try clear hfz12_2
  try clear hfz20_0
  try clear hfz20_1
  try clear hfz20_2
  try clear hfz22_0
  try clear hfz22_1
  try clear hfz22_2
  try clear hfz34_0
  try clear hfz34_1
  try clear hfz34_2
  try clear hfz37_0
  try clear hfz37_1
  try clear hfz37_2
  try clear hfz7_0
  try clear hfz7_1
  try clear hfz7_2
  try clear p2
  try clear p6
  obtain ⟨kq, HA, HJ4, BK839, HB⟩ := hcut
  cases kq with
  | zero => exact absurd HA.out (by simp [padlocklaw03_PuzzlesBack.j2])
  | succ kj4 =>
   have H := HA.out
   clear HA
   simp only [padlocklaw03_PuzzlesBack.j2] at H
   replace H := Option.bind_eq_some_iff.mp H
   obtain ⟨⟨t854, t855⟩, A410, H⟩ := H
   replace H : (if t855 = 0 then ((puzzles_Mix.f t854 a1_1 (!a1_2)).bind fun bt856 => (if bt856.2 = 0 then (if bt856.1.toList = a0.toList then ((padlocklaw03_works.f kj4).bind fun t858 => (some t858)) else (some false)) else (some false))) else ((padlocklaw03_works.f kj4).bind fun t859 => (some t859))) = some r := H
   have A41 := Aside0.mk A410
   clear A410
   by_cases c42 : t855 = 0
   ·rw [if_pos c42] at H
    have c42b0 : (t855 == 0) = true := beq_iff_eq.mpr c42
    have c42b1 : (t855 != 0) = false := bne_eq_false_iff_eq.mpr c42
    clear c42
    replace H := Option.bind_eq_some_iff.mp H
    obtain ⟨⟨t856, t857⟩, A430, H⟩ := H
    replace H : (if t857 = 0 then (if t856.toList = a0.toList then ((padlocklaw03_works.f kj4).bind fun t858 => (some t858)) else (some false)) else (some false)) = some r := H
    have A43 := Aside0.mk A430
    clear A430
    by_cases c44 : t857 = 0
    ·rw [if_pos c44] at H
     have c44b0 : (t857 == 0) = true := beq_iff_eq.mpr c44
     have c44b1 : (t857 != 0) = false := bne_eq_false_iff_eq.mpr c44
     clear c44
     by_cases c45 : t856.toList = a0.toList
     ·rw [if_pos c45] at H
      have c45b0 : (t856.toList == a0.toList) = true := beq_iff_eq.mpr c45
      have c45b1 : (t856.toList != a0.toList) = false := bne_eq_false_iff_eq.mpr c45
      clear c45
      replace H := Option.bind_eq_some_iff.mp H
      obtain ⟨t858, A460, H⟩ := H
      replace H : (some t858) = some r := H
      have A46 := Aside0.mk A460
      clear A460
      obtain rfl := Option.some.inj H
      have hcz47_0 : wc.cell? ⟨gb839, 0, none⟩ = some (.int .i64 a1_0) := (blk_cell BK839.out 0).trans rfl
      have hcz47_1 : wc.cell? ⟨gb839, 1, none⟩ = some (.string a1_1) := (blk_cell BK839.out 1).trans rfl
      have hcz47_2 : wc.cell? ⟨gb839, 2, none⟩ = some (.bool a1_2) := (blk_cell BK839.out 2).trans rfl
      have hfz47_0 := blk_frozen BK839.out 0
      have hfz47_1 := blk_frozen BK839.out 1
      have hfz47_2 := blk_frozen BK839.out 2
      go_wp2_with (first | ((with_reducible refine gate_callee (f := 62) rfl ?_); refine goesL_ (some 109) rfl rfl Try.func62 (by kernel_rfl) rfl #[.string a0, .string a1_1, .bool a1_2] rfl (by (try simp only [List.map_toArray, List.map_cons, List.map_nil]); first | done | rfl | (simp only [List.length_drop, List.length_take]; rfl)) ?_; (with_reducible refine (puzzles_Mix.calls a0 a1_1 a1_2 t854 t855 _ A41.out).mono ?_); rintro e w48 ⟨rfl, hb⟩; refine ⟨_, rfl, ?_⟩; have n0_ := Aside0.mk (blk_below (g := gb839) (o := .cells #[.int .i64 a1_0, .string a1_1, .bool a1_2] 81 (0, 0)) (by (with_reducible repeat (first | refine blk_drewN ?_ _ | refine blk_drew ?_ | refine blk_alloc ?_ _)); exact BK839.out) hb); have n1_ := Aside0.mk (below_step (by repeat (first | (with_reducible first | exact HB.out | apply below_alloc | apply pw_below_drewN | apply below_drew1 | refine below_set ?_ GE839.out) | exact HB.out)) hb); clear BK839; clear HB; have BK839 := n0_; have HB := n1_; clear n0_ n1_; (try clear hb); (try clear hb2); (try clear hk); (try clear hi); have hcz49_0 : w48.cell? ⟨gb839, 0, none⟩ = some (.int .i64 a1_0) := (blk_cell BK839.out 0).trans rfl; have hcz49_1 : w48.cell? ⟨gb839, 1, none⟩ = some (.string a1_1) := (blk_cell BK839.out 1).trans rfl; have hcz49_2 : w48.cell? ⟨gb839, 2, none⟩ = some (.bool a1_2) := (blk_cell BK839.out 2).trans rfl; have hfz49_0 := blk_frozen BK839.out 0; have hfz49_1 := blk_frozen BK839.out 1; have hfz49_2 := blk_frozen BK839.out 2) | ((with_reducible refine gate_callee (f := 62) rfl ?_); refine goesL_ (some 122) rfl rfl Try.func62 (by kernel_rfl) rfl #[.string t854, .string a1_1, .bool (!a1_2)] rfl (by (try simp only [List.map_toArray, List.map_cons, List.map_nil]); first | done | rfl | (simp only [List.length_drop, List.length_take]; rfl)) ?_; (with_reducible refine (puzzles_Mix.calls t854 a1_1 (!a1_2) t856 t857 _ A43.out).mono ?_); rintro e w50 ⟨rfl, hb⟩; refine ⟨_, rfl, ?_⟩; have n0_ := Aside0.mk (blk_below (g := gb839) (o := .cells #[.int .i64 a1_0, .string a1_1, .bool a1_2] 81 (0, 0)) (by (with_reducible repeat (first | refine blk_drewN ?_ _ | refine blk_drew ?_ | refine blk_alloc ?_ _)); exact BK839.out) hb); have n1_ := Aside0.mk (below_step (by repeat (first | (with_reducible first | exact HB.out | apply below_alloc | apply pw_below_drewN | apply below_drew1 | refine below_set ?_ GE839.out) | exact HB.out)) hb); clear BK839; clear HB; have BK839 := n0_; have HB := n1_; clear n0_ n1_; (try clear hb); (try clear hb2); (try clear hk); (try clear hi)) | (go_at_call 21; (with_reducible refine (padlocklaw03_works.calls kj4  t858 _ A46.out).mono ?_); rintro e w51 ⟨rfl, hb⟩; have n0_ := Aside0.mk (blk_below (g := gb839) (o := .cells #[.int .i64 a1_0, .string a1_1, .bool a1_2] 81 (0, 0)) (by (with_reducible repeat (first | refine blk_drewN ?_ _ | refine blk_drew ?_ | refine blk_alloc ?_ _)); exact BK839.out) hb); have n1_ := Aside0.mk (below_step (by repeat (first | (with_reducible first | exact HB.out | apply below_alloc | apply pw_below_drewN | apply below_drew1 | refine below_set ?_ GE839.out) | exact HB.out)) hb); clear BK839; clear HB; have BK839 := n0_; have HB := n1_; clear n0_ n1_; (try clear hb); (try clear hb2); (try clear hk); (try clear hi)))
      go_ret
      exact ⟨by first | rfl | (simp [errW_none, errW_some] <;> rfl) | (simp [*, errW_none, errW_some] <;> rfl), by repeat (first | (with_reducible first | exact HB.out | apply below_alloc | apply pw_below_drewN | apply below_drew1 | refine below_set ?_ GE839.out) | exact HB.out)⟩
     ·rw [if_neg c45] at H
      have c45b0 : (t856.toList == a0.toList) = false := beq_eq_false_iff_ne.mpr c45
      have c45b1 : (t856.toList != a0.toList) = true := bne_iff_ne.mpr c45
      obtain rfl := Option.some.inj H
      have hcz52_0 : wc.cell? ⟨gb839, 0, none⟩ = some (.int .i64 a1_0) := (blk_cell BK839.out 0).trans rfl
      have hcz52_1 : wc.cell? ⟨gb839, 1, none⟩ = some (.string a1_1) := (blk_cell BK839.out 1).trans rfl
      have hcz52_2 : wc.cell? ⟨gb839, 2, none⟩ = some (.bool a1_2) := (blk_cell BK839.out 2).trans rfl
      have hfz52_0 := blk_frozen BK839.out 0
      have hfz52_1 := blk_frozen BK839.out 1
      have hfz52_2 := blk_frozen BK839.out 2
      go_wp2_with (first | ((with_reducible refine gate_callee (f := 62) rfl ?_); refine goesL_ (some 109) rfl rfl Try.func62 (by kernel_rfl) rfl #[.string a0, .string a1_1, .bool a1_2] rfl (by (try simp only [List.map_toArray, List.map_cons, List.map_nil]); first | done | rfl | (simp only [List.length_drop, List.length_take]; rfl)) ?_; (with_reducible refine (puzzles_Mix.calls a0 a1_1 a1_2 t854 t855 _ A41.out).mono ?_); rintro e w53 ⟨rfl, hb⟩; refine ⟨_, rfl, ?_⟩; have n0_ := Aside0.mk (blk_below (g := gb839) (o := .cells #[.int .i64 a1_0, .string a1_1, .bool a1_2] 81 (0, 0)) (by (with_reducible repeat (first | refine blk_drewN ?_ _ | refine blk_drew ?_ | refine blk_alloc ?_ _)); exact BK839.out) hb); have n1_ := Aside0.mk (below_step (by repeat (first | (with_reducible first | exact HB.out | apply below_alloc | apply pw_below_drewN | apply below_drew1 | refine below_set ?_ GE839.out) | exact HB.out)) hb); clear BK839; clear HB; have BK839 := n0_; have HB := n1_; clear n0_ n1_; (try clear hb); (try clear hb2); (try clear hk); (try clear hi); have hcz54_0 : w53.cell? ⟨gb839, 0, none⟩ = some (.int .i64 a1_0) := (blk_cell BK839.out 0).trans rfl; have hcz54_1 : w53.cell? ⟨gb839, 1, none⟩ = some (.string a1_1) := (blk_cell BK839.out 1).trans rfl; have hcz54_2 : w53.cell? ⟨gb839, 2, none⟩ = some (.bool a1_2) := (blk_cell BK839.out 2).trans rfl; have hfz54_0 := blk_frozen BK839.out 0; have hfz54_1 := blk_frozen BK839.out 1; have hfz54_2 := blk_frozen BK839.out 2) | ((with_reducible refine gate_callee (f := 62) rfl ?_); refine goesL_ (some 122) rfl rfl Try.func62 (by kernel_rfl) rfl #[.string t854, .string a1_1, .bool (!a1_2)] rfl (by (try simp only [List.map_toArray, List.map_cons, List.map_nil]); first | done | rfl | (simp only [List.length_drop, List.length_take]; rfl)) ?_; (with_reducible refine (puzzles_Mix.calls t854 a1_1 (!a1_2) t856 t857 _ A43.out).mono ?_); rintro e w55 ⟨rfl, hb⟩; refine ⟨_, rfl, ?_⟩; have n0_ := Aside0.mk (blk_below (g := gb839) (o := .cells #[.int .i64 a1_0, .string a1_1, .bool a1_2] 81 (0, 0)) (by (with_reducible repeat (first | refine blk_drewN ?_ _ | refine blk_drew ?_ | refine blk_alloc ?_ _)); exact BK839.out) hb); have n1_ := Aside0.mk (below_step (by repeat (first | (with_reducible first | exact HB.out | apply below_alloc | apply pw_below_drewN | apply below_drew1 | refine below_set ?_ GE839.out) | exact HB.out)) hb); clear BK839; clear HB; have BK839 := n0_; have HB := n1_; clear n0_ n1_; (try clear hb); (try clear hb2); (try clear hk); (try clear hi)))
      go_ret
      exact ⟨by first | rfl | (simp [errW_none, errW_some] <;> rfl) | (simp [*, errW_none, errW_some] <;> rfl), by repeat (first | (with_reducible first | exact HB.out | apply below_alloc | apply pw_below_drewN | apply below_drew1 | refine below_set ?_ GE839.out) | exact HB.out)⟩
    ·rw [if_neg c44] at H
     have c44b0 : (t857 == 0) = false := beq_eq_false_iff_ne.mpr c44
     have c44b1 : (t857 != 0) = true := bne_iff_ne.mpr c44
     obtain rfl := Option.some.inj H
     have hcz56_0 : wc.cell? ⟨gb839, 0, none⟩ = some (.int .i64 a1_0) := (blk_cell BK839.out 0).trans rfl
     have hcz56_1 : wc.cell? ⟨gb839, 1, none⟩ = some (.string a1_1) := (blk_cell BK839.out 1).trans rfl
     have hcz56_2 : wc.cell? ⟨gb839, 2, none⟩ = some (.bool a1_2) := (blk_cell BK839.out 2).trans rfl
     have hfz56_0 := blk_frozen BK839.out 0
     have hfz56_1 := blk_frozen BK839.out 1
     have hfz56_2 := blk_frozen BK839.out 2
     go_wp2_with (first | ((with_reducible refine gate_callee (f := 62) rfl ?_); refine goesL_ (some 109) rfl rfl Try.func62 (by kernel_rfl) rfl #[.string a0, .string a1_1, .bool a1_2] rfl (by (try simp only [List.map_toArray, List.map_cons, List.map_nil]); first | done | rfl | (simp only [List.length_drop, List.length_take]; rfl)) ?_; (with_reducible refine (puzzles_Mix.calls a0 a1_1 a1_2 t854 t855 _ A41.out).mono ?_); rintro e w57 ⟨rfl, hb⟩; refine ⟨_, rfl, ?_⟩; have n0_ := Aside0.mk (blk_below (g := gb839) (o := .cells #[.int .i64 a1_0, .string a1_1, .bool a1_2] 81 (0, 0)) (by (with_reducible repeat (first | refine blk_drewN ?_ _ | refine blk_drew ?_ | refine blk_alloc ?_ _)); exact BK839.out) hb); have n1_ := Aside0.mk (below_step (by repeat (first | (with_reducible first | exact HB.out | apply below_alloc | apply pw_below_drewN | apply below_drew1 | refine below_set ?_ GE839.out) | exact HB.out)) hb); clear BK839; clear HB; have BK839 := n0_; have HB := n1_; clear n0_ n1_; (try clear hb); (try clear hb2); (try clear hk); (try clear hi); have hcz58_0 : w57.cell? ⟨gb839, 0, none⟩ = some (.int .i64 a1_0) := (blk_cell BK839.out 0).trans rfl; have hcz58_1 : w57.cell? ⟨gb839, 1, none⟩ = some (.string a1_1) := (blk_cell BK839.out 1).trans rfl; have hcz58_2 : w57.cell? ⟨gb839, 2, none⟩ = some (.bool a1_2) := (blk_cell BK839.out 2).trans rfl; have hfz58_0 := blk_frozen BK839.out 0; have hfz58_1 := blk_frozen BK839.out 1; have hfz58_2 := blk_frozen BK839.out 2) | ((with_reducible refine gate_callee (f := 62) rfl ?_); refine goesL_ (some 122) rfl rfl Try.func62 (by kernel_rfl) rfl #[.string t854, .string a1_1, .bool (!a1_2)] rfl (by (try simp only [List.map_toArray, List.map_cons, List.map_nil]); first | done | rfl | (simp only [List.length_drop, List.length_take]; rfl)) ?_; (with_reducible refine (puzzles_Mix.calls t854 a1_1 (!a1_2) t856 t857 _ A43.out).mono ?_); rintro e w59 ⟨rfl, hb⟩; refine ⟨_, rfl, ?_⟩; have n0_ := Aside0.mk (blk_below (g := gb839) (o := .cells #[.int .i64 a1_0, .string a1_1, .bool a1_2] 81 (0, 0)) (by (with_reducible repeat (first | refine blk_drewN ?_ _ | refine blk_drew ?_ | refine blk_alloc ?_ _)); exact BK839.out) hb); have n1_ := Aside0.mk (below_step (by repeat (first | (with_reducible first | exact HB.out | apply below_alloc | apply pw_below_drewN | apply below_drew1 | refine below_set ?_ GE839.out) | exact HB.out)) hb); clear BK839; clear HB; have BK839 := n0_; have HB := n1_; clear n0_ n1_; (try clear hb); (try clear hb2); (try clear hk); (try clear hi)))
     go_ret
     exact ⟨by first | rfl | (simp [errW_none, errW_some] <;> rfl) | (simp [*, errW_none, errW_some] <;> rfl), by repeat (first | (with_reducible first | exact HB.out | apply below_alloc | apply pw_below_drewN | apply below_drew1 | refine below_set ?_ GE839.out) | exact HB.out)⟩
   ·rw [if_neg c42] at H
    have c42b0 : (t855 == 0) = false := beq_eq_false_iff_ne.mpr c42
    have c42b1 : (t855 != 0) = true := bne_iff_ne.mpr c42
    replace H := Option.bind_eq_some_iff.mp H
    obtain ⟨t859, A600, H⟩ := H
    replace H : (some t859) = some r := H
    have A60 := Aside0.mk A600
    clear A600
    obtain rfl := Option.some.inj H
    have hcz61_0 : wc.cell? ⟨gb839, 0, none⟩ = some (.int .i64 a1_0) := (blk_cell BK839.out 0).trans rfl
    have hcz61_1 : wc.cell? ⟨gb839, 1, none⟩ = some (.string a1_1) := (blk_cell BK839.out 1).trans rfl
    have hcz61_2 : wc.cell? ⟨gb839, 2, none⟩ = some (.bool a1_2) := (blk_cell BK839.out 2).trans rfl
    have hfz61_0 := blk_frozen BK839.out 0
    have hfz61_1 := blk_frozen BK839.out 1
    have hfz61_2 := blk_frozen BK839.out 2
    go_wp2_with (first | ((with_reducible refine gate_callee (f := 62) rfl ?_); refine goesL_ (some 109) rfl rfl Try.func62 (by kernel_rfl) rfl #[.string a0, .string a1_1, .bool a1_2] rfl (by (try simp only [List.map_toArray, List.map_cons, List.map_nil]); first | done | rfl | (simp only [List.length_drop, List.length_take]; rfl)) ?_; (with_reducible refine (puzzles_Mix.calls a0 a1_1 a1_2 t854 t855 _ A41.out).mono ?_); rintro e w62 ⟨rfl, hb⟩; refine ⟨_, rfl, ?_⟩; have n0_ := Aside0.mk (blk_below (g := gb839) (o := .cells #[.int .i64 a1_0, .string a1_1, .bool a1_2] 81 (0, 0)) (by (with_reducible repeat (first | refine blk_drewN ?_ _ | refine blk_drew ?_ | refine blk_alloc ?_ _)); exact BK839.out) hb); have n1_ := Aside0.mk (below_step (by repeat (first | (with_reducible first | exact HB.out | apply below_alloc | apply pw_below_drewN | apply below_drew1 | refine below_set ?_ GE839.out) | exact HB.out)) hb); clear BK839; clear HB; have BK839 := n0_; have HB := n1_; clear n0_ n1_; (try clear hb); (try clear hb2); (try clear hk); (try clear hi)) | ((with_reducible refine gate_callee (f := 21) rfl ?_); refine goesL_ (some 114) rfl rfl Try.func21 (by kernel_rfl) rfl #[] rfl (by (try simp only [List.map_toArray, List.map_cons, List.map_nil]); first | done | rfl | (simp only [List.length_drop, List.length_take]; rfl)) ?_; (with_reducible refine (padlocklaw03_works.calls kj4  t859 _ A60.out).mono ?_); rintro e w63 ⟨rfl, hb⟩; refine ⟨_, rfl, ?_⟩; have n0_ := Aside0.mk (blk_below (g := gb839) (o := .cells #[.int .i64 a1_0, .string a1_1, .bool a1_2] 81 (0, 0)) (by (with_reducible repeat (first | refine blk_drewN ?_ _ | refine blk_drew ?_ | refine blk_alloc ?_ _)); exact BK839.out) hb); have n1_ := Aside0.mk (below_step (by repeat (first | (with_reducible first | exact HB.out | apply below_alloc | apply pw_below_drewN | apply below_drew1 | refine below_set ?_ GE839.out) | exact HB.out)) hb); clear BK839; clear HB; have BK839 := n0_; have HB := n1_; clear n0_ n1_; (try clear hb); (try clear hb2); (try clear hk); (try clear hi)))
    go_ret
    exact ⟨by first | rfl | (simp [errW_none, errW_some] <;> rfl) | (simp [*, errW_none, errW_some] <;> rfl), by repeat (first | (with_reducible first | exact HB.out | apply below_alloc | apply pw_below_drewN | apply below_drew1 | refine below_set ?_ GE839.out) | exact HB.out)⟩

end Go.Proofs.Ytdhiijleafcfcaa.T
