-- PRINTED by print.py (a twelfth state) out of the translation. Not trusted: Lean checks it.
import Derived.Test.YtdhiijleafcfcaaT0
import Derived.Test.YtdhiijleafcfcaaTe0
import Derived.Test.YtdhiijleafcfcaaTse
import Derived.Test.YtdhiijleafcfcaaTss
import Derived.Test.YtdhiijleafcfcaaTsg
import Derived.Test.YtdhiijleafcfcaaTsf
import Derived.Test.YtdhiijleafcfcaaWk
namespace Go.Proofs.Ytdhiijleafcfcaa.T
open Go.RowKit Go.Proofs.YtdhiijleafcfcaaW.PrintWords Go.Proofs.YtdhiijleafcfcaaW.PrintLast Go.Proofs.YtdhiijleafcfcaaW.PrintMore
attribute [local go_sem] max2_int min2_int max_two min_two max_three min_three max_four min_four   -- for this text's walks alone
set_option linter.unusedVariables false
set_option linter.unusedSimpArgs false

attribute [local go_sem high] eqA60
/-! ### padlocklaw03_PuzzlesSheets: function 13 -/
mutual
def padlocklaw03_PuzzlesSheets.j0 : Nat → List ByteArray → List ByteArray → Bool → Int → Int → Int → ByteArray → Option (Bool)
 | 0, _, _, _, _, _, _, _ => none
 | k + 1, x0, x1, x37, x662000, x662001, x662002, x662003 => if x37 = true then (some false) else ((puzzles_Find.f k x0 x1 x662003).bind fun bt666 => ((padlockref03_Find.f k x0 x1 x662003).bind fun bt670 => (if bt666.2 = bt670.2 then (padlocklaw03_PuzzlesSheets.j1 k bt666.1 bt670.1 ((bt666.1.length : Int) != (bt670.1.length : Int))) else (padlocklaw03_PuzzlesSheets.j1 k bt666.1 bt670.1 true))))
def padlocklaw03_PuzzlesSheets.j1 : Nat → List (S60) → List (S60) → Bool → Option (Bool)
 | 0, _, _, _ => none
 | k + 1, x11, x12, x63 => if x63 = true then (some false) else (padlocklaw03_PuzzlesSheets.l0 k x11 x12 0)
def padlocklaw03_PuzzlesSheets.l0 : Nat → List (S60) → List (S60) → Int → Option (Bool)
 | 0, _, _, _ => none
 | k + 1, x11, x12, x13 => if x13 < (x11.length : Int) then (if 0 ≤ x13 then (if x13 < (x12.length : Int) then (if (!(((rd_T60 x11 x13).f0) == ((rd_T60 x12 x13).f0)) || (!(((rd_T60 x11 x13).f1) == ((rd_T60 x12 x13).f1)) || (!(((rd_T60 x11 x13).f2) == ((rd_T60 x12 x13).f2))))) = true then (some false) else (padlocklaw03_PuzzlesSheets.l0 k x11 x12 (wrap64 (x13 + 1)))) else (none)) else (none)) else ((padlocklaw03_works.f k).bind fun t676 => (some t676))
end
def padlocklaw03_PuzzlesSheets.f (k : Nat) (l0 : List ByteArray) (l1 : List ByteArray) (a2_0 : Int) (a2_1 : Int) (a2_2 : Int) (a2_3 : ByteArray) : Option (Bool) := (puzzles_See.f k l0 l1 a2_0 a2_1 a2_2).bind fun bt662 => ((padlockref03_See.f k l0 l1 a2_0 a2_1 a2_2).bind fun bt664 => (if bt662.1.toList = bt664.1.toList then (padlocklaw03_PuzzlesSheets.j0 k l0 l1 (bt662.2 != bt664.2) a2_0 a2_1 a2_2 a2_3) else (padlocklaw03_PuzzlesSheets.j0 k l0 l1 true a2_0 a2_1 a2_2 a2_3)))
theorem padlocklaw03_PuzzlesSheets.mono_l : ∀ k, (∀ y0 y1 y2 y3 y4 y5 y6, LeO (padlocklaw03_PuzzlesSheets.j0 k y0 y1 y2 y3 y4 y5 y6) (padlocklaw03_PuzzlesSheets.j0 (k + 1) y0 y1 y2 y3 y4 y5 y6)) ∧ (∀ y0 y1 y2, LeO (padlocklaw03_PuzzlesSheets.j1 k y0 y1 y2) (padlocklaw03_PuzzlesSheets.j1 (k + 1) y0 y1 y2)) ∧ (∀ y0 y1 y2, LeO (padlocklaw03_PuzzlesSheets.l0 k y0 y1 y2) (padlocklaw03_PuzzlesSheets.l0 (k + 1) y0 y1 y2))
 | 0 => ⟨fun _ _ _ _ _ _ _ r h => by simp [padlocklaw03_PuzzlesSheets.j0] at h, fun _ _ _ r h => by simp [padlocklaw03_PuzzlesSheets.j1] at h, fun _ _ _ r h => by simp [padlocklaw03_PuzzlesSheets.l0] at h⟩
 | k + 1 => by
  obtain ⟨ih0, ih1, ih2⟩ := padlocklaw03_PuzzlesSheets.mono_l k
  refine ⟨?_, ?_, ?_⟩
  ·intro y0 y1 y2 y3 y4 y5 y6
   unfold padlocklaw03_PuzzlesSheets.j0
   repeat' first
   | (with_reducible exact ih0 _ _ _ _ _ _ _)
   | (with_reducible exact ih1 _ _ _)
   | (with_reducible exact ih2 _ _ _)
   | (with_reducible exact padlocklaw03_works.mono _)
   | (with_reducible exact padlockref03_Find.mono _ _ _ _)
   | (with_reducible exact padlockref03_See.mono _ _ _ _ _ _)
   | (with_reducible exact puzzles_Find.mono _ _ _ _)
   | (with_reducible exact puzzles_See.mono _ _ _ _ _ _)
   | (with_reducible exact LeO.refl _)
   | (with_reducible exact LeO.none _)
   | (with_reducible refine LeO.ite ?_ ?_)
   | (with_reducible refine LeO.bind ?_ (fun _ => ?_))
   | exact ih0 _ _ _ _ _ _ _
   | exact ih1 _ _ _
   | exact ih2 _ _ _
   | exact padlocklaw03_works.mono _
   | exact padlockref03_Find.mono _ _ _ _
   | exact padlockref03_See.mono _ _ _ _ _ _
   | exact puzzles_Find.mono _ _ _ _
   | exact puzzles_See.mono _ _ _ _ _ _
   | exact LeO.none _
   | refine LeO.ite ?_ ?_
   | refine LeO.bind ?_ (fun _ => ?_)
  ·intro y0 y1 y2
   unfold padlocklaw03_PuzzlesSheets.j1
   repeat' first
   | (with_reducible exact ih0 _ _ _ _ _ _ _)
   | (with_reducible exact ih1 _ _ _)
   | (with_reducible exact ih2 _ _ _)
   | (with_reducible exact padlocklaw03_works.mono _)
   | (with_reducible exact padlockref03_Find.mono _ _ _ _)
   | (with_reducible exact padlockref03_See.mono _ _ _ _ _ _)
   | (with_reducible exact puzzles_Find.mono _ _ _ _)
   | (with_reducible exact puzzles_See.mono _ _ _ _ _ _)
   | (with_reducible exact LeO.refl _)
   | (with_reducible exact LeO.none _)
   | (with_reducible refine LeO.ite ?_ ?_)
   | (with_reducible refine LeO.bind ?_ (fun _ => ?_))
   | exact ih0 _ _ _ _ _ _ _
   | exact ih1 _ _ _
   | exact ih2 _ _ _
   | exact padlocklaw03_works.mono _
   | exact padlockref03_Find.mono _ _ _ _
   | exact padlockref03_See.mono _ _ _ _ _ _
   | exact puzzles_Find.mono _ _ _ _
   | exact puzzles_See.mono _ _ _ _ _ _
   | exact LeO.none _
   | refine LeO.ite ?_ ?_
   | refine LeO.bind ?_ (fun _ => ?_)
  ·intro y0 y1 y2
   unfold padlocklaw03_PuzzlesSheets.l0
   repeat' first
   | (with_reducible exact ih0 _ _ _ _ _ _ _)
   | (with_reducible exact ih1 _ _ _)
   | (with_reducible exact ih2 _ _ _)
   | (with_reducible exact padlocklaw03_works.mono _)
   | (with_reducible exact padlockref03_Find.mono _ _ _ _)
   | (with_reducible exact padlockref03_See.mono _ _ _ _ _ _)
   | (with_reducible exact puzzles_Find.mono _ _ _ _)
   | (with_reducible exact puzzles_See.mono _ _ _ _ _ _)
   | (with_reducible exact LeO.refl _)
   | (with_reducible exact LeO.none _)
   | (with_reducible refine LeO.ite ?_ ?_)
   | (with_reducible refine LeO.bind ?_ (fun _ => ?_))
   | exact ih0 _ _ _ _ _ _ _
   | exact ih1 _ _ _
   | exact ih2 _ _ _
   | exact padlocklaw03_works.mono _
   | exact padlockref03_Find.mono _ _ _ _
   | exact padlockref03_See.mono _ _ _ _ _ _
   | exact puzzles_Find.mono _ _ _ _
   | exact puzzles_See.mono _ _ _ _ _ _
   | exact LeO.none _
   | refine LeO.ite ?_ ?_
   | refine LeO.bind ?_ (fun _ => ?_)
theorem padlocklaw03_PuzzlesSheets.mono : ∀ a0 a1 a2 a3 a4 a5 k, LeO (padlocklaw03_PuzzlesSheets.f k a0 a1 a2 a3 a4 a5) (padlocklaw03_PuzzlesSheets.f (k + 1) a0 a1 a2 a3 a4 a5) := by
 intro a0 a1 a2 a3 a4 a5 k
 obtain ⟨ih0, ih1, ih2⟩ := padlocklaw03_PuzzlesSheets.mono_l k
 unfold padlocklaw03_PuzzlesSheets.f
 repeat' first
   | (with_reducible exact ih0 _ _ _ _ _ _ _)
   | (with_reducible exact ih1 _ _ _)
   | (with_reducible exact ih2 _ _ _)
   | (with_reducible exact padlocklaw03_works.mono _)
   | (with_reducible exact padlockref03_Find.mono _ _ _ _)
   | (with_reducible exact padlockref03_See.mono _ _ _ _ _ _)
   | (with_reducible exact puzzles_Find.mono _ _ _ _)
   | (with_reducible exact puzzles_See.mono _ _ _ _ _ _)
   | (with_reducible exact LeO.refl _)
   | (with_reducible exact LeO.none _)
   | (with_reducible refine LeO.ite ?_ ?_)
   | (with_reducible refine LeO.bind ?_ (fun _ => ?_))
   | exact ih0 _ _ _ _ _ _ _
   | exact ih1 _ _ _
   | exact ih2 _ _ _
   | exact padlocklaw03_works.mono _
   | exact padlockref03_Find.mono _ _ _ _
   | exact padlockref03_See.mono _ _ _ _ _ _
   | exact puzzles_Find.mono _ _ _ _
   | exact puzzles_See.mono _ _ _ _ _ _
   | exact LeO.none _
   | refine LeO.ite ?_ ?_
   | refine LeO.bind ?_ (fun _ => ?_)
set_option maxHeartbeats 8000000 in
set_option maxRecDepth 100000 in
theorem padlocklaw03_PuzzlesSheets.calls (k : Nat) (A0 : Option Addr) (c0 : Nat) (l0 : List ByteArray) (A1 : Option Addr) (c1 : Nat) (l1 : List ByteArray) (a2_0 : Int) (a2_1 : Int) (a2_2 : Int) (a2_3 : ByteArray) (r : Bool) (w : World) (hr0 : Kd.C Kd.string w A0 l0.length l0) (hc0 : l0.length ≤ c0) (hr1 : Kd.C Kd.string w A1 l1.length l1) (hc1 : l1.length ≤ c1) (h : padlocklaw03_PuzzlesSheets.f k l0 l1 a2_0 a2_1 a2_2 a2_3 = some r) :
  Calls Try.prog 13 #[.slice A0 l0.length c0, .slice A1 l1.length c1, .agg #[.int .i64 a2_0, .int .i64 a2_1, .int .i64 a2_2, .string a2_3]] w fun e w' => e = .returned (.bool r) ∧ Below w.heap.size w w' := by
 have hu62 := Try.underlying62
 have hu60 := Try.underlying60
 have HR0 := Aside0.mk hr0
 have HC0 := Aside0.mk hc0
 clear hr0 hc0
 have HR1 := Aside0.mk hr1
 have HC1 := Aside0.mk hc1
 clear hr1 hc1
 have HB := Aside0.mk (Below.refl w.heap.size w)
 have H : ((puzzles_See.f k l0 l1 a2_0 a2_1 a2_2).bind fun bt662 => ((padlockref03_See.f k l0 l1 a2_0 a2_1 a2_2).bind fun bt664 => (if bt662.1.toList = bt664.1.toList then (padlocklaw03_PuzzlesSheets.j0 k l0 l1 (bt662.2 != bt664.2) a2_0 a2_1 a2_2 a2_3) else (padlocklaw03_PuzzlesSheets.j0 k l0 l1 true a2_0 a2_1 a2_2 a2_3)))) = some r := h
 clear h
 replace H := Option.bind_eq_some_iff.mp H
 obtain ⟨⟨t662, t663⟩, A40, H⟩ := H
 replace H : ((padlockref03_See.f k l0 l1 a2_0 a2_1 a2_2).bind fun bt664 => (if t662.toList = bt664.1.toList then (padlocklaw03_PuzzlesSheets.j0 k l0 l1 (t663 != bt664.2) a2_0 a2_1 a2_2 a2_3) else (padlocklaw03_PuzzlesSheets.j0 k l0 l1 true a2_0 a2_1 a2_2 a2_3))) = some r := H
 have A4 := Aside0.mk A40
 clear A40
 replace H := Option.bind_eq_some_iff.mp H
 obtain ⟨⟨t664, t665⟩, A50, H⟩ := H
 replace H : (if t662.toList = t664.toList then (padlocklaw03_PuzzlesSheets.j0 k l0 l1 (t663 != t665) a2_0 a2_1 a2_2 a2_3) else (padlocklaw03_PuzzlesSheets.j0 k l0 l1 true a2_0 a2_1 a2_2 a2_3)) = some r := H
 have A5 := Aside0.mk A50
 clear A50
 have HC6 := Aside0.mk H
 clear H
 go_enter Try.func13, Try.ntmps13
 go_upto_region 3 with (first | ((with_reducible refine gate_dst (N := 5) rfl ?_); (try (refine gate_guard (by rfl) ?_; dsimp only)); refine box_event ?hg (N := 5) ?hd (cs := #[.int .i64 a2_0, .int .i64 a2_1, .int .i64 a2_2, .string a2_3]) (t := 62) ?hr ?_; (case hd => rfl); (case hg => rfl); (case hr => first | (go_simp; done) | (go_simp; rfl)); intro gb661 hg w7 hbox hb; have n0_ := Aside0.mk (below_step (by repeat (first | (with_reducible first | exact HB.out | apply below_alloc | apply pw_below_drewN | apply below_drew1) | exact HB.out)) hb); have n1_ := Aside0.mk (hbox); have n2_ := Aside0.mk ((by rw [hg]; exact (below_size (by repeat (first | (with_reducible first | exact HB.out | apply below_alloc | apply pw_below_drewN | apply below_drew1) | exact HB.out))) : w.heap.size ≤ gb661)); have n3_ := Aside0.mk ((by rw [hg]; exact (below_size (by repeat (first | (with_reducible first | exact HB.out | apply below_alloc | apply pw_below_drewN | apply below_drew1) | exact HB.out))) : w.heap.size ≤ gb661)); clear HB; have HB := n0_; have BK661 := n1_; have GW661 := n2_; have GE661 := n3_; clear n0_ n1_ n2_ n3_; clear hb hbox hg; have hcz8_0 : w7.cell? ⟨gb661, 0, none⟩ = some (.int .i64 a2_0) := (blk_cell BK661.out 0).trans rfl; have hcz8_1 : w7.cell? ⟨gb661, 1, none⟩ = some (.int .i64 a2_1) := (blk_cell BK661.out 1).trans rfl; have hcz8_2 : w7.cell? ⟨gb661, 2, none⟩ = some (.int .i64 a2_2) := (blk_cell BK661.out 2).trans rfl; have hcz8_3 : w7.cell? ⟨gb661, 3, none⟩ = some (.string a2_3) := (blk_cell BK661.out 3).trans rfl; have hfz8_0 := blk_frozen BK661.out 0; have hfz8_1 := blk_frozen BK661.out 1; have hfz8_2 := blk_frozen BK661.out 2; have hfz8_3 := blk_frozen BK661.out 3) | (go_at_call 49; (with_reducible refine (puzzles_See.calls k (fun k_ => k_ < w.heap.size) _ _ l0 _ _ l1 a2_0 a2_1 a2_2 t662 t663 _ ?side1 ?side2 ?side3 A4.out).mono ?_); (case side1 => exact Kd.V_mk HC0.out (Kd.F_below (Kd.C_F Kd.heap_string HR0.out) (by repeat (first | (with_reducible first | exact HB.out | apply below_alloc | apply pw_below_drewN | apply below_drew1 | refine below_set ?_ GE661.out) | exact HB.out)))); (case side2 => repeat (first | exact (Kd.C_below HR1.out HB.out) | (with_reducible refine Kd.C_alloc ?_ _) | (with_reducible refine Kd.C_drewN ?_ _) | (with_reducible refine Kd.C_drew ?_))); (case side3 => exact HC1.out); rintro e w9 ⟨rfl, hb⟩; have n0_ := Aside0.mk (blk_below (g := gb661) (o := .cells #[.int .i64 a2_0, .int .i64 a2_1, .int .i64 a2_2, .string a2_3] 62 (0, 0)) (by (with_reducible repeat (first | refine blk_drewN ?_ _ | refine blk_drew ?_ | refine blk_alloc ?_ _)); exact BK661.out) hb); have n1_ := Aside0.mk (below_step (by repeat (first | (with_reducible first | exact HB.out | apply below_alloc | apply pw_below_drewN | apply below_drew1 | refine below_set ?_ GE661.out) | exact HB.out)) hb); clear BK661; clear HB; have BK661 := n0_; have HB := n1_; clear n0_ n1_; (try clear hb); (try clear hb2); (try clear hk); (try clear hi); have hcz10_0 : w9.cell? ⟨gb661, 0, none⟩ = some (.int .i64 a2_0) := (blk_cell BK661.out 0).trans rfl; have hcz10_1 : w9.cell? ⟨gb661, 1, none⟩ = some (.int .i64 a2_1) := (blk_cell BK661.out 1).trans rfl; have hcz10_2 : w9.cell? ⟨gb661, 2, none⟩ = some (.int .i64 a2_2) := (blk_cell BK661.out 2).trans rfl; have hcz10_3 : w9.cell? ⟨gb661, 3, none⟩ = some (.string a2_3) := (blk_cell BK661.out 3).trans rfl; have hfz10_0 := blk_frozen BK661.out 0; have hfz10_1 := blk_frozen BK661.out 1; have hfz10_2 := blk_frozen BK661.out 2; have hfz10_3 := blk_frozen BK661.out 3) | (go_at_call 50; (with_reducible refine (padlockref03_See.calls k _ _ l0 _ _ l1 a2_0 a2_1 a2_2 t664 t665 _ ?side1 ?side2 ?side3 ?side4 A5.out).mono ?_); (case side1 => repeat (first | exact (Kd.C_below HR0.out HB.out) | (with_reducible refine Kd.C_alloc ?_ _) | (with_reducible refine Kd.C_drewN ?_ _) | (with_reducible refine Kd.C_drew ?_))); (case side2 => exact HC0.out); (case side3 => repeat (first | exact (Kd.C_below HR1.out HB.out) | (with_reducible refine Kd.C_alloc ?_ _) | (with_reducible refine Kd.C_drewN ?_ _) | (with_reducible refine Kd.C_drew ?_))); (case side4 => exact HC1.out); rintro e w11 ⟨rfl, hb⟩; have n0_ := Aside0.mk (blk_below (g := gb661) (o := .cells #[.int .i64 a2_0, .int .i64 a2_1, .int .i64 a2_2, .string a2_3] 62 (0, 0)) (by (with_reducible repeat (first | refine blk_drewN ?_ _ | refine blk_drew ?_ | refine blk_alloc ?_ _)); exact BK661.out) hb); have n1_ := Aside0.mk (below_step (by repeat (first | (with_reducible first | exact HB.out | apply below_alloc | apply pw_below_drewN | apply below_drew1 | refine below_set ?_ GE661.out) | exact HB.out)) hb); clear BK661; clear HB; have BK661 := n0_; have HB := n1_; clear n0_ n1_; (try clear hb); (try clear hb2); (try clear hk); (try clear hi)))
 repeat (go_quiet (first | ((with_reducible refine gate_dst (N := 5) rfl ?_); (try (refine gate_guard (by rfl) ?_; dsimp only)); refine box_event ?hg (N := 5) ?hd (cs := #[.int .i64 a2_0, .int .i64 a2_1, .int .i64 a2_2, .string a2_3]) (t := 62) ?hr ?_; (case hd => rfl); (case hg => rfl); (case hr => first | (go_simp; done) | (go_simp; rfl)); intro gb661 hg w7 hbox hb; have n0_ := Aside0.mk (below_step (by repeat (first | (with_reducible first | exact HB.out | apply below_alloc | apply pw_below_drewN | apply below_drew1) | exact HB.out)) hb); have n1_ := Aside0.mk (hbox); have n2_ := Aside0.mk ((by rw [hg]; exact (below_size (by repeat (first | (with_reducible first | exact HB.out | apply below_alloc | apply pw_below_drewN | apply below_drew1) | exact HB.out))) : w.heap.size ≤ gb661)); have n3_ := Aside0.mk ((by rw [hg]; exact (below_size (by repeat (first | (with_reducible first | exact HB.out | apply below_alloc | apply pw_below_drewN | apply below_drew1) | exact HB.out))) : w.heap.size ≤ gb661)); clear HB; have HB := n0_; have BK661 := n1_; have GW661 := n2_; have GE661 := n3_; clear n0_ n1_ n2_ n3_; clear hb hbox hg; have hcz8_0 : w7.cell? ⟨gb661, 0, none⟩ = some (.int .i64 a2_0) := (blk_cell BK661.out 0).trans rfl; have hcz8_1 : w7.cell? ⟨gb661, 1, none⟩ = some (.int .i64 a2_1) := (blk_cell BK661.out 1).trans rfl; have hcz8_2 : w7.cell? ⟨gb661, 2, none⟩ = some (.int .i64 a2_2) := (blk_cell BK661.out 2).trans rfl; have hcz8_3 : w7.cell? ⟨gb661, 3, none⟩ = some (.string a2_3) := (blk_cell BK661.out 3).trans rfl; have hfz8_0 := blk_frozen BK661.out 0; have hfz8_1 := blk_frozen BK661.out 1; have hfz8_2 := blk_frozen BK661.out 2; have hfz8_3 := blk_frozen BK661.out 3) | (go_at_call 49; (with_reducible refine (puzzles_See.calls k (fun k_ => k_ < w.heap.size) _ _ l0 _ _ l1 a2_0 a2_1 a2_2 t662 t663 _ ?side1 ?side2 ?side3 A4.out).mono ?_); (case side1 => exact Kd.V_mk HC0.out (Kd.F_below (Kd.C_F Kd.heap_string HR0.out) (by repeat (first | (with_reducible first | exact HB.out | apply below_alloc | apply pw_below_drewN | apply below_drew1 | refine below_set ?_ GE661.out) | exact HB.out)))); (case side2 => repeat (first | exact (Kd.C_below HR1.out HB.out) | (with_reducible refine Kd.C_alloc ?_ _) | (with_reducible refine Kd.C_drewN ?_ _) | (with_reducible refine Kd.C_drew ?_))); (case side3 => exact HC1.out); rintro e w9 ⟨rfl, hb⟩; have n0_ := Aside0.mk (blk_below (g := gb661) (o := .cells #[.int .i64 a2_0, .int .i64 a2_1, .int .i64 a2_2, .string a2_3] 62 (0, 0)) (by (with_reducible repeat (first | refine blk_drewN ?_ _ | refine blk_drew ?_ | refine blk_alloc ?_ _)); exact BK661.out) hb); have n1_ := Aside0.mk (below_step (by repeat (first | (with_reducible first | exact HB.out | apply below_alloc | apply pw_below_drewN | apply below_drew1 | refine below_set ?_ GE661.out) | exact HB.out)) hb); clear BK661; clear HB; have BK661 := n0_; have HB := n1_; clear n0_ n1_; (try clear hb); (try clear hb2); (try clear hk); (try clear hi); have hcz10_0 : w9.cell? ⟨gb661, 0, none⟩ = some (.int .i64 a2_0) := (blk_cell BK661.out 0).trans rfl; have hcz10_1 : w9.cell? ⟨gb661, 1, none⟩ = some (.int .i64 a2_1) := (blk_cell BK661.out 1).trans rfl; have hcz10_2 : w9.cell? ⟨gb661, 2, none⟩ = some (.int .i64 a2_2) := (blk_cell BK661.out 2).trans rfl; have hcz10_3 : w9.cell? ⟨gb661, 3, none⟩ = some (.string a2_3) := (blk_cell BK661.out 3).trans rfl; have hfz10_0 := blk_frozen BK661.out 0; have hfz10_1 := blk_frozen BK661.out 1; have hfz10_2 := blk_frozen BK661.out 2; have hfz10_3 := blk_frozen BK661.out 3) | (go_at_call 50; (with_reducible refine (padlockref03_See.calls k _ _ l0 _ _ l1 a2_0 a2_1 a2_2 t664 t665 _ ?side1 ?side2 ?side3 ?side4 A5.out).mono ?_); (case side1 => repeat (first | exact (Kd.C_below HR0.out HB.out) | (with_reducible refine Kd.C_alloc ?_ _) | (with_reducible refine Kd.C_drewN ?_ _) | (with_reducible refine Kd.C_drew ?_))); (case side2 => exact HC0.out); (case side3 => repeat (first | exact (Kd.C_below HR1.out HB.out) | (with_reducible refine Kd.C_alloc ?_ _) | (with_reducible refine Kd.C_drewN ?_ _) | (with_reducible refine Kd.C_drew ?_))); (case side4 => exact HC1.out); rintro e w11 ⟨rfl, hb⟩; have n0_ := Aside0.mk (blk_below (g := gb661) (o := .cells #[.int .i64 a2_0, .int .i64 a2_1, .int .i64 a2_2, .string a2_3] 62 (0, 0)) (by (with_reducible repeat (first | refine blk_drewN ?_ _ | refine blk_drew ?_ | refine blk_alloc ?_ _)); exact BK661.out) hb); have n1_ := Aside0.mk (below_step (by repeat (first | (with_reducible first | exact HB.out | apply below_alloc | apply pw_below_drewN | apply below_drew1 | refine below_set ?_ GE661.out) | exact HB.out)) hb); clear BK661; clear HB; have BK661 := n0_; have HB := n1_; clear n0_ n1_; (try clear hb); (try clear hb2); (try clear hk); (try clear hi))); go_upto_region 3 with (first | ((with_reducible refine gate_dst (N := 5) rfl ?_); (try (refine gate_guard (by rfl) ?_; dsimp only)); refine box_event ?hg (N := 5) ?hd (cs := #[.int .i64 a2_0, .int .i64 a2_1, .int .i64 a2_2, .string a2_3]) (t := 62) ?hr ?_; (case hd => rfl); (case hg => rfl); (case hr => first | (go_simp; done) | (go_simp; rfl)); intro gb661 hg w7 hbox hb; have n0_ := Aside0.mk (below_step (by repeat (first | (with_reducible first | exact HB.out | apply below_alloc | apply pw_below_drewN | apply below_drew1) | exact HB.out)) hb); have n1_ := Aside0.mk (hbox); have n2_ := Aside0.mk ((by rw [hg]; exact (below_size (by repeat (first | (with_reducible first | exact HB.out | apply below_alloc | apply pw_below_drewN | apply below_drew1) | exact HB.out))) : w.heap.size ≤ gb661)); have n3_ := Aside0.mk ((by rw [hg]; exact (below_size (by repeat (first | (with_reducible first | exact HB.out | apply below_alloc | apply pw_below_drewN | apply below_drew1) | exact HB.out))) : w.heap.size ≤ gb661)); clear HB; have HB := n0_; have BK661 := n1_; have GW661 := n2_; have GE661 := n3_; clear n0_ n1_ n2_ n3_; clear hb hbox hg; have hcz8_0 : w7.cell? ⟨gb661, 0, none⟩ = some (.int .i64 a2_0) := (blk_cell BK661.out 0).trans rfl; have hcz8_1 : w7.cell? ⟨gb661, 1, none⟩ = some (.int .i64 a2_1) := (blk_cell BK661.out 1).trans rfl; have hcz8_2 : w7.cell? ⟨gb661, 2, none⟩ = some (.int .i64 a2_2) := (blk_cell BK661.out 2).trans rfl; have hcz8_3 : w7.cell? ⟨gb661, 3, none⟩ = some (.string a2_3) := (blk_cell BK661.out 3).trans rfl; have hfz8_0 := blk_frozen BK661.out 0; have hfz8_1 := blk_frozen BK661.out 1; have hfz8_2 := blk_frozen BK661.out 2; have hfz8_3 := blk_frozen BK661.out 3) | (go_at_call 49; (with_reducible refine (puzzles_See.calls k (fun k_ => k_ < w.heap.size) _ _ l0 _ _ l1 a2_0 a2_1 a2_2 t662 t663 _ ?side1 ?side2 ?side3 A4.out).mono ?_); (case side1 => exact Kd.V_mk HC0.out (Kd.F_below (Kd.C_F Kd.heap_string HR0.out) (by repeat (first | (with_reducible first | exact HB.out | apply below_alloc | apply pw_below_drewN | apply below_drew1 | refine below_set ?_ GE661.out) | exact HB.out)))); (case side2 => repeat (first | exact (Kd.C_below HR1.out HB.out) | (with_reducible refine Kd.C_alloc ?_ _) | (with_reducible refine Kd.C_drewN ?_ _) | (with_reducible refine Kd.C_drew ?_))); (case side3 => exact HC1.out); rintro e w9 ⟨rfl, hb⟩; have n0_ := Aside0.mk (blk_below (g := gb661) (o := .cells #[.int .i64 a2_0, .int .i64 a2_1, .int .i64 a2_2, .string a2_3] 62 (0, 0)) (by (with_reducible repeat (first | refine blk_drewN ?_ _ | refine blk_drew ?_ | refine blk_alloc ?_ _)); exact BK661.out) hb); have n1_ := Aside0.mk (below_step (by repeat (first | (with_reducible first | exact HB.out | apply below_alloc | apply pw_below_drewN | apply below_drew1 | refine below_set ?_ GE661.out) | exact HB.out)) hb); clear BK661; clear HB; have BK661 := n0_; have HB := n1_; clear n0_ n1_; (try clear hb); (try clear hb2); (try clear hk); (try clear hi); have hcz10_0 : w9.cell? ⟨gb661, 0, none⟩ = some (.int .i64 a2_0) := (blk_cell BK661.out 0).trans rfl; have hcz10_1 : w9.cell? ⟨gb661, 1, none⟩ = some (.int .i64 a2_1) := (blk_cell BK661.out 1).trans rfl; have hcz10_2 : w9.cell? ⟨gb661, 2, none⟩ = some (.int .i64 a2_2) := (blk_cell BK661.out 2).trans rfl; have hcz10_3 : w9.cell? ⟨gb661, 3, none⟩ = some (.string a2_3) := (blk_cell BK661.out 3).trans rfl; have hfz10_0 := blk_frozen BK661.out 0; have hfz10_1 := blk_frozen BK661.out 1; have hfz10_2 := blk_frozen BK661.out 2; have hfz10_3 := blk_frozen BK661.out 3) | (go_at_call 50; (with_reducible refine (padlockref03_See.calls k _ _ l0 _ _ l1 a2_0 a2_1 a2_2 t664 t665 _ ?side1 ?side2 ?side3 ?side4 A5.out).mono ?_); (case side1 => repeat (first | exact (Kd.C_below HR0.out HB.out) | (with_reducible refine Kd.C_alloc ?_ _) | (with_reducible refine Kd.C_drewN ?_ _) | (with_reducible refine Kd.C_drew ?_))); (case side2 => exact HC0.out); (case side3 => repeat (first | exact (Kd.C_below HR1.out HB.out) | (with_reducible refine Kd.C_alloc ?_ _) | (with_reducible refine Kd.C_drewN ?_ _) | (with_reducible refine Kd.C_drew ?_))); (case side4 => exact HC1.out); rintro e w11 ⟨rfl, hb⟩; have n0_ := Aside0.mk (blk_below (g := gb661) (o := .cells #[.int .i64 a2_0, .int .i64 a2_1, .int .i64 a2_2, .string a2_3] 62 (0, 0)) (by (with_reducible repeat (first | refine blk_drewN ?_ _ | refine blk_drew ?_ | refine blk_alloc ?_ _)); exact BK661.out) hb); have n1_ := Aside0.mk (below_step (by repeat (first | (with_reducible first | exact HB.out | apply below_alloc | apply pw_below_drewN | apply below_drew1 | refine below_set ?_ GE661.out) | exact HB.out)) hb); clear BK661; clear HB; have BK661 := n0_; have HB := n1_; clear n0_ n1_; (try clear hb); (try clear hb2); (try clear hk); (try clear hi))))
 (try simp only [Act.put, List.setIfInBounds_toArray, List.set_cons_zero, List.set_cons_succ])
 go_cut [37] (fun v37 wc => ∃ (kq : Nat) (x37_5 : Bool), v37 = .bool x37_5 ∧ Aside0 (padlocklaw03_PuzzlesSheets.j0 kq l0 l1 x37_5 a2_0 a2_1 a2_2 a2_3 = some r) ∧ Aside0 (kq ≤ k) ∧ Aside0 (wc.heap[gb661]? = some (.cells #[.int .i64 a2_0, .int .i64 a2_1, .int .i64 a2_2, .string a2_3] 62 (0, 0))) ∧ Aside0 (Below w.heap.size w wc))
 case first =>
  have H := HC6.out
  clear HC6
  by_cases c12 : t662.toList = t664.toList
  ·rw [if_pos c12] at H
   have c12b0 : (t662.toList == t664.toList) = true := beq_iff_eq.mpr c12
   have c12b1 : (t662.toList != t664.toList) = false := bne_eq_false_iff_eq.mpr c12
   clear c12
   (first | rw [c12b0] | (simp only [i64_w, i32_w]; rw [c12b0]) | skip)
   have H' := Aside0.mk H
   clear H
   go_wp2
   repeat (go_quiet (fail); try go_wp2)
   go_meet
   case rel => exact ⟨_, ((t663 != t665)), (by first | rfl | (simp; done) | (simp [*]; done)), H', ⟨by first | omega | exact Nat.le_refl _⟩, ⟨by (with_reducible repeat (first | refine blk_drewN ?_ _ | refine blk_drew ?_ | refine blk_alloc ?_ _)); exact BK661.out⟩, ⟨by repeat (first | (with_reducible first | exact HB.out | apply below_alloc | apply pw_below_drewN | apply below_drew1 | refine below_set ?_ GE661.out) | exact HB.out)⟩⟩
  ·rw [if_neg c12] at H
   have c12b0 : (t662.toList == t664.toList) = false := beq_eq_false_iff_ne.mpr c12
   have c12b1 : (t662.toList != t664.toList) = true := bne_iff_ne.mpr c12
   (first | rw [c12b0] | (simp only [i64_w, i32_w]; rw [c12b0]) | skip)
   have H' := Aside0.mk H
   clear H
   go_wp2
   repeat (go_quiet (fail); try go_wp2)
   go_meet
   case rel => exact ⟨_, (true), (by first | rfl | (simp; done) | (simp [*]; done)), H', ⟨by first | omega | exact Nat.le_refl _⟩, ⟨by (with_reducible repeat (first | refine blk_drewN ?_ _ | refine blk_drew ?_ | refine blk_alloc ?_ _)); exact BK661.out⟩, ⟨by repeat (first | (with_reducible first | exact HB.out | apply below_alloc | apply pw_below_drewN | apply below_drew1 | refine below_set ?_ GE661.out) | exact HB.out)⟩⟩
 case rest =>
  clear HC6
  try clear c1
  try clear p2
  try clear c12
  try clear c12b0
  try clear c12b1
  try clear hcz10_0
  try clear hcz10_1
  try clear hcz10_2
  try clear hcz10_3
  try clear hcz8_0
  try clear hcz8_1
  try clear hcz8_2
  try clear hcz8_3
  try clear hfz10_0
  try clear hfz10_1
  try clear hfz10_2
  try clear hfz10_3
  try clear hfz8_0
  try clear hfz8_1
  try clear hfz8_2
  try clear hfz8_3
  obtain ⟨kq, x37_5, rfl, HA, HJ5, BK661, HB⟩ := hcut
  cases kq with
  | zero => exact absurd HA.out (by simp [padlocklaw03_PuzzlesSheets.j0])
  | succ kj5 =>
   have H := HA.out
   clear HA
   simp only [padlocklaw03_PuzzlesSheets.j0] at H
   by_cases c13 : x37_5 = true
   ·subst c13
    have H1 : (some false) = some r := by rw [if_pos rfl] at H; exact H
    clear H
    have H := H1
    clear H1
    obtain rfl := Option.some.inj H
    go_wp2
    repeat (go_quiet (fail); try go_wp2)
    go_ret
    exact ⟨by first | rfl | (simp [errW_none, errW_some] <;> rfl) | (simp [*, errW_none, errW_some] <;> rfl), by repeat (first | (with_reducible first | exact HB.out | apply below_alloc | apply pw_below_drewN | apply below_drew1 | refine below_set ?_ GE661.out) | exact HB.out)⟩
   ·replace c13 := Bool.eq_false_iff.mpr c13
    subst c13
    have H1 : ((puzzles_Find.f kj5 l0 l1 a2_3).bind fun bt666 => ((padlockref03_Find.f kj5 l0 l1 a2_3).bind fun bt670 => (if bt666.2 = bt670.2 then (padlocklaw03_PuzzlesSheets.j1 kj5 bt666.1 bt670.1 ((bt666.1.length : Int) != (bt670.1.length : Int))) else (padlocklaw03_PuzzlesSheets.j1 kj5 bt666.1 bt670.1 true)))) = some r := by rw [if_neg (show ¬ (false = true) by decide)] at H; exact H
    clear H
    have H := H1
    clear H1
    replace H := Option.bind_eq_some_iff.mp H
    obtain ⟨⟨t666, t669⟩, A140, H⟩ := H
    replace H : ((padlockref03_Find.f kj5 l0 l1 a2_3).bind fun bt670 => (if t669 = bt670.2 then (padlocklaw03_PuzzlesSheets.j1 kj5 t666 bt670.1 ((t666.length : Int) != (bt670.1.length : Int))) else (padlocklaw03_PuzzlesSheets.j1 kj5 t666 bt670.1 true))) = some r := H
    have A14 := Aside0.mk A140
    clear A140
    replace H := Option.bind_eq_some_iff.mp H
    obtain ⟨⟨t670, t671⟩, A150, H⟩ := H
    replace H : (if t669 = t671 then (padlocklaw03_PuzzlesSheets.j1 kj5 t666 t670 ((t666.length : Int) != (t670.length : Int))) else (padlocklaw03_PuzzlesSheets.j1 kj5 t666 t670 true)) = some r := H
    have A15 := Aside0.mk A150
    clear A150
    have HC16 := Aside0.mk H
    clear H
    have hcz17_0 : wc.cell? ⟨gb661, 0, none⟩ = some (.int .i64 a2_0) := (blk_cell BK661.out 0).trans rfl
    have hcz17_1 : wc.cell? ⟨gb661, 1, none⟩ = some (.int .i64 a2_1) := (blk_cell BK661.out 1).trans rfl
    have hcz17_2 : wc.cell? ⟨gb661, 2, none⟩ = some (.int .i64 a2_2) := (blk_cell BK661.out 2).trans rfl
    have hcz17_3 : wc.cell? ⟨gb661, 3, none⟩ = some (.string a2_3) := (blk_cell BK661.out 3).trans rfl
    have hfz17_0 := blk_frozen BK661.out 0
    have hfz17_1 := blk_frozen BK661.out 1
    have hfz17_2 := blk_frozen BK661.out 2
    have hfz17_3 := blk_frozen BK661.out 3
    go_upto_region 7 with (first | (go_at_call 51; (with_reducible refine (puzzles_Find.calls kj5 (fun k_ => k_ < w.heap.size) _ _ l0 _ _ l1 a2_3 t666 t669 _ ?side1 ?side2 ?side3 A14.out).mono ?_); (case side1 => exact Kd.V_mk HC0.out (Kd.F_below (Kd.C_F Kd.heap_string HR0.out) (by repeat (first | (with_reducible first | exact HB.out | apply below_alloc | apply pw_below_drewN | apply below_drew1 | refine below_set ?_ GE661.out) | exact HB.out)))); (case side2 => repeat (first | exact (Kd.C_below HR1.out HB.out) | (with_reducible refine Kd.C_alloc ?_ _) | (with_reducible refine Kd.C_drewN ?_ _) | (with_reducible refine Kd.C_drew ?_))); (case side3 => exact HC1.out); rintro e w18 ⟨v667, rfl, ho0, hb⟩; have n0_ := Aside0.mk (Kd.R_lower (Kd.R_mono (ok' := fun k_ => True) ho0 (fun _ hk_ => trivial)) (below_size (by repeat (first | (with_reducible first | exact HB.out | apply below_alloc | apply pw_below_drewN | apply below_drew1 | refine below_set ?_ GE661.out) | exact HB.out)))); have n1_ := Aside0.mk (blk_below (g := gb661) (o := .cells #[.int .i64 a2_0, .int .i64 a2_1, .int .i64 a2_2, .string a2_3] 62 (0, 0)) (by (with_reducible repeat (first | refine blk_drewN ?_ _ | refine blk_drew ?_ | refine blk_alloc ?_ _)); exact BK661.out) hb); have n2_ := Aside0.mk (below_step (by repeat (first | (with_reducible first | exact HB.out | apply below_alloc | apply pw_below_drewN | apply below_drew1 | refine below_set ?_ GE661.out) | exact HB.out)) hb); clear BK661; clear HB; have HO668 := n0_; have BK661 := n1_; have HB := n2_; clear n0_ n1_ n2_; (try clear hb); (try clear hb2); (try clear hk); (try clear hi); (try clear ho0); have hcz19_0 : w18.cell? ⟨gb661, 0, none⟩ = some (.int .i64 a2_0) := (blk_cell BK661.out 0).trans rfl; have hcz19_1 : w18.cell? ⟨gb661, 1, none⟩ = some (.int .i64 a2_1) := (blk_cell BK661.out 1).trans rfl; have hcz19_2 : w18.cell? ⟨gb661, 2, none⟩ = some (.int .i64 a2_2) := (blk_cell BK661.out 2).trans rfl; have hcz19_3 : w18.cell? ⟨gb661, 3, none⟩ = some (.string a2_3) := (blk_cell BK661.out 3).trans rfl; have hfz19_0 := blk_frozen BK661.out 0; have hfz19_1 := blk_frozen BK661.out 1; have hfz19_2 := blk_frozen BK661.out 2; have hfz19_3 := blk_frozen BK661.out 3) | (go_at_call 52; (with_reducible refine (padlockref03_Find.calls kj5 _ _ l0 _ _ l1 a2_3 t670 t671 _ ?side1 ?side2 ?side3 ?side4 A15.out).mono ?_); (case side1 => repeat (first | exact (Kd.C_below HR0.out HB.out) | (with_reducible refine Kd.C_alloc ?_ _) | (with_reducible refine Kd.C_drewN ?_ _) | (with_reducible refine Kd.C_drew ?_))); (case side2 => exact HC0.out); (case side3 => repeat (first | exact (Kd.C_below HR1.out HB.out) | (with_reducible refine Kd.C_alloc ?_ _) | (with_reducible refine Kd.C_drewN ?_ _) | (with_reducible refine Kd.C_drew ?_))); (case side4 => exact HC1.out); rintro e w20 ⟨v672, rfl, ho0, hb⟩; have n0_ := Aside0.mk (Kd.R_elder' (by (with_reducible repeat (first | apply Kd.R_alloc | apply Kd.R_drewN | apply Kd.R_drew)); exact HO668.out) (Kd.R_base ho0) hb); have n1_ := Aside0.mk (Kd.R_lower (Kd.R_new' ho0 (Kd.R_lt (by (with_reducible repeat (first | apply Kd.R_alloc | apply Kd.R_drewN | apply Kd.R_drew)); exact HO668.out))) (below_size (by repeat (first | (with_reducible first | exact HB.out | apply below_alloc | apply pw_below_drewN | apply below_drew1 | refine below_set ?_ GE661.out) | exact HB.out)))); have n2_ := Aside0.mk (blk_below (g := gb661) (o := .cells #[.int .i64 a2_0, .int .i64 a2_1, .int .i64 a2_2, .string a2_3] 62 (0, 0)) (by (with_reducible repeat (first | refine blk_drewN ?_ _ | refine blk_drew ?_ | refine blk_alloc ?_ _)); exact BK661.out) hb); have n3_ := Aside0.mk (below_step (by repeat (first | (with_reducible first | exact HB.out | apply below_alloc | apply pw_below_drewN | apply below_drew1 | refine below_set ?_ GE661.out) | exact HB.out)) hb); clear HO668; clear BK661; clear HB; have HO668 := n0_; have HO673 := n1_; have BK661 := n2_; have HB := n3_; clear n0_ n1_ n2_ n3_; (try clear hb); (try clear hb2); (try clear hk); (try clear hi); (try clear ho0)))
    repeat (go_quiet (first | (go_at_call 51; (with_reducible refine (puzzles_Find.calls kj5 (fun k_ => k_ < w.heap.size) _ _ l0 _ _ l1 a2_3 t666 t669 _ ?side1 ?side2 ?side3 A14.out).mono ?_); (case side1 => exact Kd.V_mk HC0.out (Kd.F_below (Kd.C_F Kd.heap_string HR0.out) (by repeat (first | (with_reducible first | exact HB.out | apply below_alloc | apply pw_below_drewN | apply below_drew1 | refine below_set ?_ GE661.out) | exact HB.out)))); (case side2 => repeat (first | exact (Kd.C_below HR1.out HB.out) | (with_reducible refine Kd.C_alloc ?_ _) | (with_reducible refine Kd.C_drewN ?_ _) | (with_reducible refine Kd.C_drew ?_))); (case side3 => exact HC1.out); rintro e w18 ⟨v667, rfl, ho0, hb⟩; have n0_ := Aside0.mk (Kd.R_lower (Kd.R_mono (ok' := fun k_ => True) ho0 (fun _ hk_ => trivial)) (below_size (by repeat (first | (with_reducible first | exact HB.out | apply below_alloc | apply pw_below_drewN | apply below_drew1 | refine below_set ?_ GE661.out) | exact HB.out)))); have n1_ := Aside0.mk (blk_below (g := gb661) (o := .cells #[.int .i64 a2_0, .int .i64 a2_1, .int .i64 a2_2, .string a2_3] 62 (0, 0)) (by (with_reducible repeat (first | refine blk_drewN ?_ _ | refine blk_drew ?_ | refine blk_alloc ?_ _)); exact BK661.out) hb); have n2_ := Aside0.mk (below_step (by repeat (first | (with_reducible first | exact HB.out | apply below_alloc | apply pw_below_drewN | apply below_drew1 | refine below_set ?_ GE661.out) | exact HB.out)) hb); clear BK661; clear HB; have HO668 := n0_; have BK661 := n1_; have HB := n2_; clear n0_ n1_ n2_; (try clear hb); (try clear hb2); (try clear hk); (try clear hi); (try clear ho0); have hcz19_0 : w18.cell? ⟨gb661, 0, none⟩ = some (.int .i64 a2_0) := (blk_cell BK661.out 0).trans rfl; have hcz19_1 : w18.cell? ⟨gb661, 1, none⟩ = some (.int .i64 a2_1) := (blk_cell BK661.out 1).trans rfl; have hcz19_2 : w18.cell? ⟨gb661, 2, none⟩ = some (.int .i64 a2_2) := (blk_cell BK661.out 2).trans rfl; have hcz19_3 : w18.cell? ⟨gb661, 3, none⟩ = some (.string a2_3) := (blk_cell BK661.out 3).trans rfl; have hfz19_0 := blk_frozen BK661.out 0; have hfz19_1 := blk_frozen BK661.out 1; have hfz19_2 := blk_frozen BK661.out 2; have hfz19_3 := blk_frozen BK661.out 3) | (go_at_call 52; (with_reducible refine (padlockref03_Find.calls kj5 _ _ l0 _ _ l1 a2_3 t670 t671 _ ?side1 ?side2 ?side3 ?side4 A15.out).mono ?_); (case side1 => repeat (first | exact (Kd.C_below HR0.out HB.out) | (with_reducible refine Kd.C_alloc ?_ _) | (with_reducible refine Kd.C_drewN ?_ _) | (with_reducible refine Kd.C_drew ?_))); (case side2 => exact HC0.out); (case side3 => repeat (first | exact (Kd.C_below HR1.out HB.out) | (with_reducible refine Kd.C_alloc ?_ _) | (with_reducible refine Kd.C_drewN ?_ _) | (with_reducible refine Kd.C_drew ?_))); (case side4 => exact HC1.out); rintro e w20 ⟨v672, rfl, ho0, hb⟩; have n0_ := Aside0.mk (Kd.R_elder' (by (with_reducible repeat (first | apply Kd.R_alloc | apply Kd.R_drewN | apply Kd.R_drew)); exact HO668.out) (Kd.R_base ho0) hb); have n1_ := Aside0.mk (Kd.R_lower (Kd.R_new' ho0 (Kd.R_lt (by (with_reducible repeat (first | apply Kd.R_alloc | apply Kd.R_drewN | apply Kd.R_drew)); exact HO668.out))) (below_size (by repeat (first | (with_reducible first | exact HB.out | apply below_alloc | apply pw_below_drewN | apply below_drew1 | refine below_set ?_ GE661.out) | exact HB.out)))); have n2_ := Aside0.mk (blk_below (g := gb661) (o := .cells #[.int .i64 a2_0, .int .i64 a2_1, .int .i64 a2_2, .string a2_3] 62 (0, 0)) (by (with_reducible repeat (first | refine blk_drewN ?_ _ | refine blk_drew ?_ | refine blk_alloc ?_ _)); exact BK661.out) hb); have n3_ := Aside0.mk (below_step (by repeat (first | (with_reducible first | exact HB.out | apply below_alloc | apply pw_below_drewN | apply below_drew1 | refine below_set ?_ GE661.out) | exact HB.out)) hb); clear HO668; clear BK661; clear HB; have HO668 := n0_; have HO673 := n1_; have BK661 := n2_; have HB := n3_; clear n0_ n1_ n2_ n3_; (try clear hb); (try clear hb2); (try clear hk); (try clear hi); (try clear ho0))); go_upto_region 7 with (first | (go_at_call 51; (with_reducible refine (puzzles_Find.calls kj5 (fun k_ => k_ < w.heap.size) _ _ l0 _ _ l1 a2_3 t666 t669 _ ?side1 ?side2 ?side3 A14.out).mono ?_); (case side1 => exact Kd.V_mk HC0.out (Kd.F_below (Kd.C_F Kd.heap_string HR0.out) (by repeat (first | (with_reducible first | exact HB.out | apply below_alloc | apply pw_below_drewN | apply below_drew1 | refine below_set ?_ GE661.out) | exact HB.out)))); (case side2 => repeat (first | exact (Kd.C_below HR1.out HB.out) | (with_reducible refine Kd.C_alloc ?_ _) | (with_reducible refine Kd.C_drewN ?_ _) | (with_reducible refine Kd.C_drew ?_))); (case side3 => exact HC1.out); rintro e w18 ⟨v667, rfl, ho0, hb⟩; have n0_ := Aside0.mk (Kd.R_lower (Kd.R_mono (ok' := fun k_ => True) ho0 (fun _ hk_ => trivial)) (below_size (by repeat (first | (with_reducible first | exact HB.out | apply below_alloc | apply pw_below_drewN | apply below_drew1 | refine below_set ?_ GE661.out) | exact HB.out)))); have n1_ := Aside0.mk (blk_below (g := gb661) (o := .cells #[.int .i64 a2_0, .int .i64 a2_1, .int .i64 a2_2, .string a2_3] 62 (0, 0)) (by (with_reducible repeat (first | refine blk_drewN ?_ _ | refine blk_drew ?_ | refine blk_alloc ?_ _)); exact BK661.out) hb); have n2_ := Aside0.mk (below_step (by repeat (first | (with_reducible first | exact HB.out | apply below_alloc | apply pw_below_drewN | apply below_drew1 | refine below_set ?_ GE661.out) | exact HB.out)) hb); clear BK661; clear HB; have HO668 := n0_; have BK661 := n1_; have HB := n2_; clear n0_ n1_ n2_; (try clear hb); (try clear hb2); (try clear hk); (try clear hi); (try clear ho0); have hcz19_0 : w18.cell? ⟨gb661, 0, none⟩ = some (.int .i64 a2_0) := (blk_cell BK661.out 0).trans rfl; have hcz19_1 : w18.cell? ⟨gb661, 1, none⟩ = some (.int .i64 a2_1) := (blk_cell BK661.out 1).trans rfl; have hcz19_2 : w18.cell? ⟨gb661, 2, none⟩ = some (.int .i64 a2_2) := (blk_cell BK661.out 2).trans rfl; have hcz19_3 : w18.cell? ⟨gb661, 3, none⟩ = some (.string a2_3) := (blk_cell BK661.out 3).trans rfl; have hfz19_0 := blk_frozen BK661.out 0; have hfz19_1 := blk_frozen BK661.out 1; have hfz19_2 := blk_frozen BK661.out 2; have hfz19_3 := blk_frozen BK661.out 3) | (go_at_call 52; (with_reducible refine (padlockref03_Find.calls kj5 _ _ l0 _ _ l1 a2_3 t670 t671 _ ?side1 ?side2 ?side3 ?side4 A15.out).mono ?_); (case side1 => repeat (first | exact (Kd.C_below HR0.out HB.out) | (with_reducible refine Kd.C_alloc ?_ _) | (with_reducible refine Kd.C_drewN ?_ _) | (with_reducible refine Kd.C_drew ?_))); (case side2 => exact HC0.out); (case side3 => repeat (first | exact (Kd.C_below HR1.out HB.out) | (with_reducible refine Kd.C_alloc ?_ _) | (with_reducible refine Kd.C_drewN ?_ _) | (with_reducible refine Kd.C_drew ?_))); (case side4 => exact HC1.out); rintro e w20 ⟨v672, rfl, ho0, hb⟩; have n0_ := Aside0.mk (Kd.R_elder' (by (with_reducible repeat (first | apply Kd.R_alloc | apply Kd.R_drewN | apply Kd.R_drew)); exact HO668.out) (Kd.R_base ho0) hb); have n1_ := Aside0.mk (Kd.R_lower (Kd.R_new' ho0 (Kd.R_lt (by (with_reducible repeat (first | apply Kd.R_alloc | apply Kd.R_drewN | apply Kd.R_drew)); exact HO668.out))) (below_size (by repeat (first | (with_reducible first | exact HB.out | apply below_alloc | apply pw_below_drewN | apply below_drew1 | refine below_set ?_ GE661.out) | exact HB.out)))); have n2_ := Aside0.mk (blk_below (g := gb661) (o := .cells #[.int .i64 a2_0, .int .i64 a2_1, .int .i64 a2_2, .string a2_3] 62 (0, 0)) (by (with_reducible repeat (first | refine blk_drewN ?_ _ | refine blk_drew ?_ | refine blk_alloc ?_ _)); exact BK661.out) hb); have n3_ := Aside0.mk (below_step (by repeat (first | (with_reducible first | exact HB.out | apply below_alloc | apply pw_below_drewN | apply below_drew1 | refine below_set ?_ GE661.out) | exact HB.out)) hb); clear HO668; clear BK661; clear HB; have HO668 := n0_; have HO673 := n1_; have BK661 := n2_; have HB := n3_; clear n0_ n1_ n2_ n3_; (try clear hb); (try clear hb2); (try clear hk); (try clear hi); (try clear ho0))))
    (try simp only [Act.put, List.setIfInBounds_toArray, List.set_cons_zero, List.set_cons_succ])
    go_cut [63] (fun v63 wc => ∃ (kq : Nat) (x63_15 : Bool), v63 = .bool x63_15 ∧ Aside0 (padlocklaw03_PuzzlesSheets.j1 kq t666 t670 x63_15 = some r) ∧ Aside0 (kq ≤ kj5) ∧ Aside0 (Kd.R k60 60 wc w.heap.size (fun k_ => some k_ ≠ (v672 : Value).ownBlock) v667 t666) ∧ Aside0 (Kd.R k60 60 wc w.heap.size (fun k_ => some k_ ≠ (v667 : Value).ownBlock) v672 t670) ∧ Aside0 (wc.heap[gb661]? = some (.cells #[.int .i64 a2_0, .int .i64 a2_1, .int .i64 a2_2, .string a2_3] 62 (0, 0))) ∧ Aside0 (Below w.heap.size w wc))
    case first =>
     have H := HC16.out
     clear HC16
     by_cases c21 : t669 = t671
     ·rw [if_pos c21] at H
      have c21b0 : (t669 == t671) = true := beq_iff_eq.mpr c21
      have c21b1 : (t669 != t671) = false := bne_eq_false_iff_eq.mpr c21
      clear c21
      (first | rw [c21b0] | (simp only [i64_w, i32_w]; rw [c21b0]) | skip)
      have H' := Aside0.mk H
      clear H
      obtain ⟨Ao22, co22, eo22⟩ := Kd.R_slice HO668.out
      subst eo22
      obtain ⟨Ao23, co23, eo23⟩ := Kd.R_slice HO673.out
      subst eo23
      go_wp2
      repeat (go_quiet (fail); try go_wp2)
      go_meet
      case rel => exact ⟨_, (((t666.length : Int) != (t670.length : Int))), (by first | rfl | (simp; done) | (simp [*]; done)), H', ⟨by have := HJ5.out; first | omega | exact Nat.le_refl _⟩, ⟨by (with_reducible repeat (first | apply Kd.R_alloc | apply Kd.R_drewN | apply Kd.R_drew)); exact Kd.R_mono HO668.out (fun _ hk => hk.2)⟩, ⟨by (with_reducible repeat (first | apply Kd.R_alloc | apply Kd.R_drewN | apply Kd.R_drew)); exact Kd.R_mono HO673.out (fun _ hk => hk.2)⟩, ⟨by (with_reducible repeat (first | refine blk_drewN ?_ _ | refine blk_drew ?_ | refine blk_alloc ?_ _)); exact BK661.out⟩, ⟨by repeat (first | (with_reducible first | exact HB.out | apply below_alloc | apply pw_below_drewN | apply below_drew1 | refine below_set ?_ GE661.out) | exact HB.out)⟩⟩
     ·rw [if_neg c21] at H
      have c21b0 : (t669 == t671) = false := beq_eq_false_iff_ne.mpr c21
      have c21b1 : (t669 != t671) = true := bne_iff_ne.mpr c21
      (first | rw [c21b0] | (simp only [i64_w, i32_w]; rw [c21b0]) | skip)
      have H' := Aside0.mk H
      clear H
      go_wp2
      repeat (go_quiet (fail); try go_wp2)
      go_meet
      case rel => exact ⟨_, (true), (by first | rfl | (simp; done) | (simp [*]; done)), H', ⟨by have := HJ5.out; first | omega | exact Nat.le_refl _⟩, ⟨by (with_reducible repeat (first | apply Kd.R_alloc | apply Kd.R_drewN | apply Kd.R_drew)); exact Kd.R_mono HO668.out (fun _ hk => hk.2)⟩, ⟨by (with_reducible repeat (first | apply Kd.R_alloc | apply Kd.R_drewN | apply Kd.R_drew)); exact Kd.R_mono HO673.out (fun _ hk => hk.2)⟩, ⟨by (with_reducible repeat (first | refine blk_drewN ?_ _ | refine blk_drew ?_ | refine blk_alloc ?_ _)); exact BK661.out⟩, ⟨by repeat (first | (with_reducible first | exact HB.out | apply below_alloc | apply pw_below_drewN | apply below_drew1 | refine below_set ?_ GE661.out) | exact HB.out)⟩⟩
    case rest =>
     clear HC16
     try clear c1
     try clear c2
     try clear p2
     try clear c12
     try clear c12b0
     try clear c12b1
     try clear c13
     try clear c21
     try clear c21b0
     try clear c21b1
     try clear hcz10_0
     try clear hcz10_1
     try clear hcz10_2
     try clear hcz10_3
     try clear hcz17_0
     try clear hcz17_1
     try clear hcz17_2
     try clear hcz17_3
     try clear hcz19_0
     try clear hcz19_1
     try clear hcz19_2
     try clear hcz19_3
     try clear hcz8_0
     try clear hcz8_1
     try clear hcz8_2
     try clear hcz8_3
     try clear hfz10_0
     try clear hfz10_1
     try clear hfz10_2
     try clear hfz10_3
     try clear hfz17_0
     try clear hfz17_1
     try clear hfz17_2
     try clear hfz17_3
     try clear hfz19_0
     try clear hfz19_1
     try clear hfz19_2
     try clear hfz19_3
     try clear hfz8_0
     try clear hfz8_1
     try clear hfz8_2
     try clear hfz8_3
     try clear p2
     obtain ⟨kq, x63_15, rfl, HA, HJ15, HO_11, HO_12, BK661, HB⟩ := hcut
     cases kq with
     | zero => exact absurd HA.out (by simp [padlocklaw03_PuzzlesSheets.j1])
     | succ kj15 =>
      have H := HA.out
      clear HA
      simp only [padlocklaw03_PuzzlesSheets.j1] at H
      by_cases c24 : x63_15 = true
      ·subst c24
       have H1 : (some false) = some r := by rw [if_pos rfl] at H; exact H
       clear H
       have H := H1
       clear H1
       obtain rfl := Option.some.inj H
       go_wp2
       repeat (go_quiet (fail); try go_wp2)
       go_ret
       exact ⟨by first | rfl | (simp [errW_none, errW_some] <;> rfl) | (simp [*, errW_none, errW_some] <;> rfl), by repeat (first | (with_reducible first | exact HB.out | apply below_alloc | apply pw_below_drewN | apply below_drew1 | refine below_set ?_ GE661.out) | exact HB.out)⟩
      ·replace c24 := Bool.eq_false_iff.mpr c24
       subst c24
       have H1 : (padlocklaw03_PuzzlesSheets.l0 kj15 t666 t670 0) = some r := by rw [if_neg (show ¬ (false = true) by decide)] at H; exact H
       clear H
       have H := H1
       clear H1
       have H' := Aside0.mk H
       clear H
       go_wp2
       repeat (go_quiet (fail); try go_wp2)
       go_loopg [13] kj15 (fun kq v13 w' => ∃ (x13_3 : Int), v13 = .int .i64 x13_3 ∧ Aside0 (padlocklaw03_PuzzlesSheets.l0 kq t666 t670 x13_3 = some r) ∧ Aside0 (kq ≤ kj15) ∧ Aside0 (Kd.R k60 60 w' w.heap.size (fun k_ => some k_ ≠ (v672 : Value).ownBlock) v667 t666) ∧ Aside0 (Kd.R k60 60 w' w.heap.size (fun k_ => some k_ ≠ (v667 : Value).ownBlock) v672 t670) ∧ Aside0 (w'.heap[gb661]? = some (.cells #[.int .i64 a2_0, .int .i64 a2_1, .int .i64 a2_2, .string a2_3] 62 (0, 0))) ∧ Aside0 (Below w.heap.size w w'))
       case atStart => exact ⟨(0), (by first | rfl | (simp; done) | (simp [*]; done)), H', ⟨Nat.le_refl _⟩, ⟨by (with_reducible repeat (first | apply Kd.R_alloc | apply Kd.R_drewN | apply Kd.R_drew)); exact HO_11.out⟩, ⟨by (with_reducible repeat (first | apply Kd.R_alloc | apply Kd.R_drewN | apply Kd.R_drew)); exact HO_12.out⟩, ⟨by (with_reducible repeat (first | refine blk_drewN ?_ _ | refine blk_drew ?_ | refine blk_alloc ?_ _)); exact BK661.out⟩, ⟨by repeat (first | (with_reducible first | exact HB.out | apply below_alloc | apply pw_below_drewN | apply below_drew1 | refine below_set ?_ GE661.out) | exact HB.out)⟩⟩
       case round =>
        clear H'
        try clear c1
        try clear c2
        try clear p2
        try clear c12
        try clear c12b0
        try clear c12b1
        try clear c13
        try clear c21
        try clear c21b0
        try clear c21b1
        try clear c24
        try clear hcz10_0
        try clear hcz10_1
        try clear hcz10_2
        try clear hcz10_3
        try clear hcz17_0
        try clear hcz17_1
        try clear hcz17_2
        try clear hcz17_3
        try clear hcz19_0
        try clear hcz19_1
        try clear hcz19_2
        try clear hcz19_3
        try clear hcz8_0
        try clear hcz8_1
        try clear hcz8_2
        try clear hcz8_3
        try clear hfz10_0
        try clear hfz10_1
        try clear hfz10_2
        try clear hfz10_3
        try clear hfz17_0
        try clear hfz17_1
        try clear hfz17_2
        try clear hfz17_3
        try clear hfz19_0
        try clear hfz19_1
        try clear hfz19_2
        try clear hfz19_3
        try clear hfz8_0
        try clear hfz8_1
        try clear hfz8_2
        try clear hfz8_3
        try clear p2
        obtain ⟨x13_3, rfl, HA, HK3, HO_11, HO_12, BK661, HB⟩ := hrel
        cases gk with
        | zero => exact absurd HA.out (by simp [padlocklaw03_PuzzlesSheets.l0])
        | succ k3 =>
         have H := HA.out
         clear HA
         simp only [padlocklaw03_PuzzlesSheets.l0] at H
         by_cases c25 : x13_3 < (t666.length : Int)
         ·rw [if_pos c25] at H
          have c25b0 : decide (x13_3 < (t666.length : Int)) = true := decide_eq_true c25
          clear c25
          by_cases c26 : 0 ≤ x13_3
          ·rw [if_pos c26] at H
           have c26b0 : decide (0 ≤ x13_3) = true := decide_eq_true c26
           clear c26
           by_cases c27 : x13_3 < (t670.length : Int)
           ·rw [if_pos c27] at H
            have c27b0 : decide (x13_3 < (t670.length : Int)) = true := decide_eq_true c27
            clear c27
            by_cases c28 : (!(((rd_T60 t666 x13_3).f0) == ((rd_T60 t670 x13_3).f0)) || (!(((rd_T60 t666 x13_3).f1) == ((rd_T60 t670 x13_3).f1)) || (!(((rd_T60 t666 x13_3).f2) == ((rd_T60 t670 x13_3).f2))))) = true
            ·rw [if_pos c28] at H
             have c28b0 : (!(((rd_T60 t666 x13_3).f0) == ((rd_T60 t670 x13_3).f0)) || (!(((rd_T60 t666 x13_3).f1) == ((rd_T60 t670 x13_3).f1)) || (!(((rd_T60 t666 x13_3).f2) == ((rd_T60 t670 x13_3).f2))))) = true := c28
             clear c28
             obtain rfl := Option.some.inj H
             obtain ⟨Ao29, co29, eo29⟩ := Kd.R_slice HO_11.out
             subst eo29
             have p674 : 0 ≤ (x13_3 : Int) := of_decide_eq_true (by first | (with_reducible assumption) | assumption)
             have q674 : x13_3 < (t666.length : Int) := of_decide_eq_true (by first | (with_reducible assumption) | assumption)
             obtain ⟨ad674, e674, hx674_0, hx674_1, hx674_2⟩ := at_T60 (Kd.R_reads' HO_11.out).2.2 x13_3 p674 q674
             cases e674
             replace p674 := eq_true p674
             replace q674 := eq_true q674
             obtain ⟨Ao30, co30, eo30⟩ := Kd.R_slice HO_12.out
             subst eo30
             have p675 : 0 ≤ (x13_3 : Int) := of_decide_eq_true (by first | (with_reducible assumption) | assumption)
             have q675 : x13_3 < (t670.length : Int) := of_decide_eq_true (by first | (with_reducible assumption) | assumption)
             obtain ⟨ad675, e675, hx675_0, hx675_1, hx675_2⟩ := at_T60 (Kd.R_reads' HO_12.out).2.2 x13_3 p675 q675
             cases e675
             replace p675 := eq_true p675
             replace q675 := eq_true q675
             go_wp2
             repeat (go_quiet (fail); try go_wp2)
             go_ret
             exact ⟨by first | rfl | (simp [errW_none, errW_some] <;> rfl) | (simp [*, errW_none, errW_some] <;> rfl), by repeat (first | (with_reducible first | exact HB.out | apply below_alloc | apply pw_below_drewN | apply below_drew1 | refine below_set ?_ GE661.out) | exact HB.out)⟩
            ·rw [if_neg c28] at H
             have c28b0 : (!(((rd_T60 t666 x13_3).f0) == ((rd_T60 t670 x13_3).f0)) || (!(((rd_T60 t666 x13_3).f1) == ((rd_T60 t670 x13_3).f1)) || (!(((rd_T60 t666 x13_3).f2) == ((rd_T60 t670 x13_3).f2))))) = false := by simpa using c28
             clear c28
             have H' := Aside0.mk H
             clear H
             obtain ⟨Ao31, co31, eo31⟩ := Kd.R_slice HO_11.out
             subst eo31
             have p674 : 0 ≤ (x13_3 : Int) := of_decide_eq_true (by first | (with_reducible assumption) | assumption)
             have q674 : x13_3 < (t666.length : Int) := of_decide_eq_true (by first | (with_reducible assumption) | assumption)
             obtain ⟨ad674, e674, hx674_0, hx674_1, hx674_2⟩ := at_T60 (Kd.R_reads' HO_11.out).2.2 x13_3 p674 q674
             cases e674
             replace p674 := eq_true p674
             replace q674 := eq_true q674
             obtain ⟨Ao32, co32, eo32⟩ := Kd.R_slice HO_12.out
             subst eo32
             have p675 : 0 ≤ (x13_3 : Int) := of_decide_eq_true (by first | (with_reducible assumption) | assumption)
             have q675 : x13_3 < (t670.length : Int) := of_decide_eq_true (by first | (with_reducible assumption) | assumption)
             obtain ⟨ad675, e675, hx675_0, hx675_1, hx675_2⟩ := at_T60 (Kd.R_reads' HO_12.out).2.2 x13_3 p675 q675
             cases e675
             replace p675 := eq_true p675
             replace q675 := eq_true q675
             go_wp2
             repeat (go_quiet (fail); try go_wp2)
             go_roundg k3
             case measure => have := HJ5.out; have := HJ15.out; have := HK3.out; omega
             case rel => exact ⟨(wrap64 (x13_3 + 1)), (by first | rfl | (simp; done) | (simp [*]; done)), H', ⟨by have := HJ5.out; have := HJ15.out; have := HK3.out; omega⟩, ⟨by (with_reducible repeat (first | apply Kd.R_alloc | apply Kd.R_drewN | apply Kd.R_drew)); exact HO_11.out⟩, ⟨by (with_reducible repeat (first | apply Kd.R_alloc | apply Kd.R_drewN | apply Kd.R_drew)); exact HO_12.out⟩, ⟨by (with_reducible repeat (first | refine blk_drewN ?_ _ | refine blk_drew ?_ | refine blk_alloc ?_ _)); exact BK661.out⟩, ⟨by repeat (first | (with_reducible first | exact HB.out | apply below_alloc | apply pw_below_drewN | apply below_drew1 | refine below_set ?_ GE661.out) | exact HB.out)⟩⟩
           ·rw [if_neg c27] at H
            exact absurd H (by simp)
          ·rw [if_neg c26] at H
           exact absurd H (by simp)
         ·rw [if_neg c25] at H
          have c25b0 : decide (x13_3 < (t666.length : Int)) = false := decide_eq_false c25
          clear c25
          replace H := Option.bind_eq_some_iff.mp H
          obtain ⟨t676, A330, H⟩ := H
          replace H : (some t676) = some r := H
          have A33 := Aside0.mk A330
          clear A330
          obtain rfl := Option.some.inj H
          obtain ⟨Ao34, co34, eo34⟩ := Kd.R_slice HO_11.out
          subst eo34
          go_wp2_with (first | (go_at_call 21; (with_reducible refine (padlocklaw03_works.calls k3  t676 _ A33.out).mono ?_); rintro e w35 ⟨rfl, hb⟩; have n0_ := Aside0.mk (Kd.R_below (by (with_reducible repeat (first | apply Kd.R_alloc | apply Kd.R_drewN | apply Kd.R_drew)); exact HO_11.out) hb); have n1_ := Aside0.mk (Kd.R_below (by (with_reducible repeat (first | apply Kd.R_alloc | apply Kd.R_drewN | apply Kd.R_drew)); exact HO_12.out) hb); have n2_ := Aside0.mk (blk_below (g := gb661) (o := .cells #[.int .i64 a2_0, .int .i64 a2_1, .int .i64 a2_2, .string a2_3] 62 (0, 0)) (by (with_reducible repeat (first | refine blk_drewN ?_ _ | refine blk_drew ?_ | refine blk_alloc ?_ _)); exact BK661.out) hb); have n3_ := Aside0.mk (below_step (by repeat (first | (with_reducible first | exact HB.out | apply below_alloc | apply pw_below_drewN | apply below_drew1 | refine below_set ?_ GE661.out) | exact HB.out)) hb); clear HO_11; clear HO_12; clear BK661; clear HB; have HO_11 := n0_; have HO_12 := n1_; have BK661 := n2_; have HB := n3_; clear n0_ n1_ n2_ n3_; (try clear hb); (try clear hb2); (try clear hk); (try clear hi)))
          repeat (go_quiet (first | (go_at_call 21; (with_reducible refine (padlocklaw03_works.calls k3  t676 _ A33.out).mono ?_); rintro e w35 ⟨rfl, hb⟩; have n0_ := Aside0.mk (Kd.R_below (by (with_reducible repeat (first | apply Kd.R_alloc | apply Kd.R_drewN | apply Kd.R_drew)); exact HO_11.out) hb); have n1_ := Aside0.mk (Kd.R_below (by (with_reducible repeat (first | apply Kd.R_alloc | apply Kd.R_drewN | apply Kd.R_drew)); exact HO_12.out) hb); have n2_ := Aside0.mk (blk_below (g := gb661) (o := .cells #[.int .i64 a2_0, .int .i64 a2_1, .int .i64 a2_2, .string a2_3] 62 (0, 0)) (by (with_reducible repeat (first | refine blk_drewN ?_ _ | refine blk_drew ?_ | refine blk_alloc ?_ _)); exact BK661.out) hb); have n3_ := Aside0.mk (below_step (by repeat (first | (with_reducible first | exact HB.out | apply below_alloc | apply pw_below_drewN | apply below_drew1 | refine below_set ?_ GE661.out) | exact HB.out)) hb); clear HO_11; clear HO_12; clear BK661; clear HB; have HO_11 := n0_; have HO_12 := n1_; have BK661 := n2_; have HB := n3_; clear n0_ n1_ n2_ n3_; (try clear hb); (try clear hb2); (try clear hk); (try clear hi))); try go_wp2_with (first | (go_at_call 21; (with_reducible refine (padlocklaw03_works.calls k3  t676 _ A33.out).mono ?_); rintro e w35 ⟨rfl, hb⟩; have n0_ := Aside0.mk (Kd.R_below (by (with_reducible repeat (first | apply Kd.R_alloc | apply Kd.R_drewN | apply Kd.R_drew)); exact HO_11.out) hb); have n1_ := Aside0.mk (Kd.R_below (by (with_reducible repeat (first | apply Kd.R_alloc | apply Kd.R_drewN | apply Kd.R_drew)); exact HO_12.out) hb); have n2_ := Aside0.mk (blk_below (g := gb661) (o := .cells #[.int .i64 a2_0, .int .i64 a2_1, .int .i64 a2_2, .string a2_3] 62 (0, 0)) (by (with_reducible repeat (first | refine blk_drewN ?_ _ | refine blk_drew ?_ | refine blk_alloc ?_ _)); exact BK661.out) hb); have n3_ := Aside0.mk (below_step (by repeat (first | (with_reducible first | exact HB.out | apply below_alloc | apply pw_below_drewN | apply below_drew1 | refine below_set ?_ GE661.out) | exact HB.out)) hb); clear HO_11; clear HO_12; clear BK661; clear HB; have HO_11 := n0_; have HO_12 := n1_; have BK661 := n2_; have HB := n3_; clear n0_ n1_ n2_ n3_; (try clear hb); (try clear hb2); (try clear hk); (try clear hi))))
          go_ret
          exact ⟨by first | rfl | (simp [errW_none, errW_some] <;> rfl) | (simp [*, errW_none, errW_some] <;> rfl), by repeat (first | (with_reducible first | exact HB.out | apply below_alloc | apply pw_below_drewN | apply below_drew1 | refine below_set ?_ GE661.out) | exact HB.out)⟩

end Go.Proofs.Ytdhiijleafcfcaa.T
