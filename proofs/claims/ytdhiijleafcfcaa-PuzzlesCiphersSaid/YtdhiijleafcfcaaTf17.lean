-- PRINTED by print.py (a twelfth state) out of the translation. Not trusted: Lean checks it.
import Derived.Test.YtdhiijleafcfcaaT0
import Derived.Test.YtdhiijleafcfcaaTw
import Derived.Test.YtdhiijleafcfcaaTk
import Derived.Test.YtdhiijleafcfcaaTxr
import Derived.Test.YtdhiijleafcfcaaTxc
import Derived.Test.YtdhiijleafcfcaaCk
import Derived.Test.YtdhiijleafcfcaaMx
import Derived.Test.YtdhiijleafcfcaaWk
namespace Go.Proofs.Ytdhiijleafcfcaa.T
open Go.RowKit Go.Proofs.YtdhiijleafcfcaaW.PrintWords Go.Proofs.YtdhiijleafcfcaaW.PrintLast Go.Proofs.YtdhiijleafcfcaaW.PrintMore
attribute [local go_sem] max2_int min2_int max_two min_two max_three min_three max_four min_four   -- for this text's walks alone
set_option linter.unusedVariables false
set_option linter.unusedSimpArgs false

/-! ### padlocklaw03_PuzzlesCiphers: function 17 -/
mutual
def padlocklaw03_PuzzlesCiphers.j0 : Nat → ByteArray → ByteArray → Bool → Int → ByteArray → Bool → Option (Bool)
 | 0, _, _, _, _, _, _ => none
 | k + 1, x0, x2, x20, x820000, x820001, x820002 => if x20 = true then ((padlocklaw03_works.f k).bind fun t820 => (some t820)) else ((puzzles_Shift.f x0 x820000).bind fun bt821 => ((padlockref03_Shift.f k x0 x820000).bind fun bt823 => (if bt821.1.toList = bt823.1.toList then (padlocklaw03_PuzzlesCiphers.j1 k x0 x2 (bt821.2 != bt823.2) x820000 x820001 x820002) else (padlocklaw03_PuzzlesCiphers.j1 k x0 x2 true x820000 x820001 x820002))))
def padlocklaw03_PuzzlesCiphers.j1 : Nat → ByteArray → ByteArray → Bool → Int → ByteArray → Bool → Option (Bool)
 | 0, _, _, _, _, _, _ => none
 | k + 1, x0, x2, x43, x820000, x820001, x820002 => if x43 = true then (some false) else ((puzzles_Mix.f x0 x820001 x820002).bind fun bt825 => ((padlockref03_Mix.f k x0 x820001 x820002).bind fun bt827 => (if bt825.1.toList = bt827.1.toList then (padlocklaw03_PuzzlesCiphers.j2 k x0 x2 (bt825.2 != bt827.2)) else (padlocklaw03_PuzzlesCiphers.j2 k x0 x2 true))))
def padlocklaw03_PuzzlesCiphers.j2 : Nat → ByteArray → ByteArray → Bool → Option (Bool)
 | 0, _, _, _ => none
 | k + 1, x0, x2, x69 => if x69 = true then (some false) else ((puzzles_Crack.f k x0 x2).bind fun bt829 => ((padlockref03_Crack.f k x0 x2).bind fun bt833 => (if bt829.2 = bt833.2 then ((padlocklaw03_sameInts.f k bt829.1 bt833.1).bind fun t837 => (if t837 = true then ((padlocklaw03_works.f k).bind fun t838 => (some t838)) else (some false))) else (some false))))
end
def padlocklaw03_PuzzlesCiphers.f (k : Nat) (a0 : ByteArray) (a1_0 : Int) (a1_1 : ByteArray) (a1_2 : Bool) (a2 : ByteArray) : Option (Bool) := if (a0.size : Int) > 400 then (padlocklaw03_PuzzlesCiphers.j0 k a0 a2 true a1_0 a1_1 a1_2) else (padlocklaw03_PuzzlesCiphers.j0 k a0 a2 (decide ((a2.size : Int) > 400)) a1_0 a1_1 a1_2)
theorem padlocklaw03_PuzzlesCiphers.mono_l : ∀ k, (∀ y0 y1 y2 y3 y4 y5, LeO (padlocklaw03_PuzzlesCiphers.j0 k y0 y1 y2 y3 y4 y5) (padlocklaw03_PuzzlesCiphers.j0 (k + 1) y0 y1 y2 y3 y4 y5)) ∧ (∀ y0 y1 y2 y3 y4 y5, LeO (padlocklaw03_PuzzlesCiphers.j1 k y0 y1 y2 y3 y4 y5) (padlocklaw03_PuzzlesCiphers.j1 (k + 1) y0 y1 y2 y3 y4 y5)) ∧ (∀ y0 y1 y2, LeO (padlocklaw03_PuzzlesCiphers.j2 k y0 y1 y2) (padlocklaw03_PuzzlesCiphers.j2 (k + 1) y0 y1 y2))
 | 0 => ⟨fun _ _ _ _ _ _ r h => by simp [padlocklaw03_PuzzlesCiphers.j0] at h, fun _ _ _ _ _ _ r h => by simp [padlocklaw03_PuzzlesCiphers.j1] at h, fun _ _ _ r h => by simp [padlocklaw03_PuzzlesCiphers.j2] at h⟩
 | k + 1 => by
  obtain ⟨ih0, ih1, ih2⟩ := padlocklaw03_PuzzlesCiphers.mono_l k
  refine ⟨?_, ?_, ?_⟩
  ·intro y0 y1 y2 y3 y4 y5
   unfold padlocklaw03_PuzzlesCiphers.j0
   repeat' first
   | (with_reducible exact ih0 _ _ _ _ _ _)
   | (with_reducible exact ih1 _ _ _ _ _ _)
   | (with_reducible exact ih2 _ _ _)
   | (with_reducible exact padlocklaw03_sameInts.mono _ _ _)
   | (with_reducible exact padlocklaw03_works.mono _)
   | (with_reducible exact padlockref03_Crack.mono _ _ _)
   | (with_reducible exact padlockref03_Mix.mono _ _ _ _)
   | (with_reducible exact padlockref03_Shift.mono _ _ _)
   | (with_reducible exact puzzles_Crack.mono _ _ _)
   | (with_reducible exact LeO.refl _)
   | (with_reducible exact LeO.none _)
   | (with_reducible refine LeO.ite ?_ ?_)
   | (with_reducible refine LeO.bind ?_ (fun _ => ?_))
   | exact ih0 _ _ _ _ _ _
   | exact ih1 _ _ _ _ _ _
   | exact ih2 _ _ _
   | exact padlocklaw03_sameInts.mono _ _ _
   | exact padlocklaw03_works.mono _
   | exact padlockref03_Crack.mono _ _ _
   | exact padlockref03_Mix.mono _ _ _ _
   | exact padlockref03_Shift.mono _ _ _
   | exact puzzles_Crack.mono _ _ _
   | exact LeO.none _
   | refine LeO.ite ?_ ?_
   | refine LeO.bind ?_ (fun _ => ?_)
  ·intro y0 y1 y2 y3 y4 y5
   unfold padlocklaw03_PuzzlesCiphers.j1
   repeat' first
   | (with_reducible exact ih0 _ _ _ _ _ _)
   | (with_reducible exact ih1 _ _ _ _ _ _)
   | (with_reducible exact ih2 _ _ _)
   | (with_reducible exact padlocklaw03_sameInts.mono _ _ _)
   | (with_reducible exact padlocklaw03_works.mono _)
   | (with_reducible exact padlockref03_Crack.mono _ _ _)
   | (with_reducible exact padlockref03_Mix.mono _ _ _ _)
   | (with_reducible exact padlockref03_Shift.mono _ _ _)
   | (with_reducible exact puzzles_Crack.mono _ _ _)
   | (with_reducible exact LeO.refl _)
   | (with_reducible exact LeO.none _)
   | (with_reducible refine LeO.ite ?_ ?_)
   | (with_reducible refine LeO.bind ?_ (fun _ => ?_))
   | exact ih0 _ _ _ _ _ _
   | exact ih1 _ _ _ _ _ _
   | exact ih2 _ _ _
   | exact padlocklaw03_sameInts.mono _ _ _
   | exact padlocklaw03_works.mono _
   | exact padlockref03_Crack.mono _ _ _
   | exact padlockref03_Mix.mono _ _ _ _
   | exact padlockref03_Shift.mono _ _ _
   | exact puzzles_Crack.mono _ _ _
   | exact LeO.none _
   | refine LeO.ite ?_ ?_
   | refine LeO.bind ?_ (fun _ => ?_)
  ·intro y0 y1 y2
   unfold padlocklaw03_PuzzlesCiphers.j2
   repeat' first
   | (with_reducible exact ih0 _ _ _ _ _ _)
   | (with_reducible exact ih1 _ _ _ _ _ _)
   | (with_reducible exact ih2 _ _ _)
   | (with_reducible exact padlocklaw03_sameInts.mono _ _ _)
   | (with_reducible exact padlocklaw03_works.mono _)
   | (with_reducible exact padlockref03_Crack.mono _ _ _)
   | (with_reducible exact padlockref03_Mix.mono _ _ _ _)
   | (with_reducible exact padlockref03_Shift.mono _ _ _)
   | (with_reducible exact puzzles_Crack.mono _ _ _)
   | (with_reducible exact LeO.refl _)
   | (with_reducible exact LeO.none _)
   | (with_reducible refine LeO.ite ?_ ?_)
   | (with_reducible refine LeO.bind ?_ (fun _ => ?_))
   | exact ih0 _ _ _ _ _ _
   | exact ih1 _ _ _ _ _ _
   | exact ih2 _ _ _
   | exact padlocklaw03_sameInts.mono _ _ _
   | exact padlocklaw03_works.mono _
   | exact padlockref03_Crack.mono _ _ _
   | exact padlockref03_Mix.mono _ _ _ _
   | exact padlockref03_Shift.mono _ _ _
   | exact puzzles_Crack.mono _ _ _
   | exact LeO.none _
   | refine LeO.ite ?_ ?_
   | refine LeO.bind ?_ (fun _ => ?_)
theorem padlocklaw03_PuzzlesCiphers.mono : ∀ a0 a1 a2 a3 a4 k, LeO (padlocklaw03_PuzzlesCiphers.f k a0 a1 a2 a3 a4) (padlocklaw03_PuzzlesCiphers.f (k + 1) a0 a1 a2 a3 a4) := by
 intro a0 a1 a2 a3 a4 k
 obtain ⟨ih0, ih1, ih2⟩ := padlocklaw03_PuzzlesCiphers.mono_l k
 unfold padlocklaw03_PuzzlesCiphers.f
 repeat' first
   | (with_reducible exact ih0 _ _ _ _ _ _)
   | (with_reducible exact ih1 _ _ _ _ _ _)
   | (with_reducible exact ih2 _ _ _)
   | (with_reducible exact padlocklaw03_sameInts.mono _ _ _)
   | (with_reducible exact padlocklaw03_works.mono _)
   | (with_reducible exact padlockref03_Crack.mono _ _ _)
   | (with_reducible exact padlockref03_Mix.mono _ _ _ _)
   | (with_reducible exact padlockref03_Shift.mono _ _ _)
   | (with_reducible exact puzzles_Crack.mono _ _ _)
   | (with_reducible exact LeO.refl _)
   | (with_reducible exact LeO.none _)
   | (with_reducible refine LeO.ite ?_ ?_)
   | (with_reducible refine LeO.bind ?_ (fun _ => ?_))
   | exact ih0 _ _ _ _ _ _
   | exact ih1 _ _ _ _ _ _
   | exact ih2 _ _ _
   | exact padlocklaw03_sameInts.mono _ _ _
   | exact padlocklaw03_works.mono _
   | exact padlockref03_Crack.mono _ _ _
   | exact padlockref03_Mix.mono _ _ _ _
   | exact padlockref03_Shift.mono _ _ _
   | exact puzzles_Crack.mono _ _ _
   | exact LeO.none _
   | refine LeO.ite ?_ ?_
   | refine LeO.bind ?_ (fun _ => ?_)
set_option maxHeartbeats 8000000 in
set_option maxRecDepth 100000 in
theorem padlocklaw03_PuzzlesCiphers.calls (k : Nat) (a0 : ByteArray) (a1_0 : Int) (a1_1 : ByteArray) (a1_2 : Bool) (a2 : ByteArray) (r : Bool) (w : World) (hMx : MxC w) (h : padlocklaw03_PuzzlesCiphers.f k a0 a1_0 a1_1 a1_2 a2 = some r) :
  Calls Try.prog 17 #[.string a0, .agg #[.int .i64 a1_0, .string a1_1, .bool a1_2], .string a2] w fun e w' => e = .returned (.bool r) ∧ Below w.heap.size w w' := by
 have HMx := Aside0.mk hMx
 clear hMx
 have hu81 := Try.underlying81
 have HB := Aside0.mk (Below.refl w.heap.size w)
 have H : (if (a0.size : Int) > 400 then (padlocklaw03_PuzzlesCiphers.j0 k a0 a2 true a1_0 a1_1 a1_2) else (padlocklaw03_PuzzlesCiphers.j0 k a0 a2 (decide ((a2.size : Int) > 400)) a1_0 a1_1 a1_2)) = some r := h
 clear h
 have HC4 := Aside0.mk H
 clear H
 go_enter Try.func17, Try.ntmps17
 go_upto_region 1 with (first | ((with_reducible refine gate_dst (N := 4) rfl ?_); (try (refine gate_guard (by rfl) ?_; dsimp only)); refine box_event ?hg (N := 4) ?hd (cs := #[.int .i64 a1_0, .string a1_1, .bool a1_2]) (t := 81) ?hr ?_; (case hd => rfl); (case hg => rfl); (case hr => first | (go_simp; done) | (go_simp; rfl)); intro gb819 hg w5 hbox hb; have n0_ := Aside0.mk (below_step (by repeat (first | (with_reducible first | exact HB.out | apply below_alloc | apply pw_below_drewN | apply below_drew1) | exact HB.out)) hb); have n1_ := Aside0.mk (hbox); have n2_ := Aside0.mk ((by rw [hg]; exact (below_size (by repeat (first | (with_reducible first | exact HB.out | apply below_alloc | apply pw_below_drewN | apply below_drew1) | exact HB.out))) : w.heap.size ≤ gb819)); have n3_ := Aside0.mk ((by rw [hg]; exact (below_size (by repeat (first | (with_reducible first | exact HB.out | apply below_alloc | apply pw_below_drewN | apply below_drew1) | exact HB.out))) : w.heap.size ≤ gb819)); clear HB; have HB := n0_; have BK819 := n1_; have GW819 := n2_; have GE819 := n3_; clear n0_ n1_ n2_ n3_; clear hb hbox hg))
 (try simp only [Act.put, List.setIfInBounds_toArray, List.set_cons_zero, List.set_cons_succ])
 go_cut [20] (fun v20 wc => ∃ (kq : Nat) (x20_3 : Bool), v20 = .bool x20_3 ∧ Aside0 (padlocklaw03_PuzzlesCiphers.j0 kq a0 a2 x20_3 a1_0 a1_1 a1_2 = some r) ∧ Aside0 (kq ≤ k) ∧ Aside0 (wc.heap[gb819]? = some (.cells #[.int .i64 a1_0, .string a1_1, .bool a1_2] 81 (0, 0))) ∧ Aside0 (Below w.heap.size w wc))
 case first =>
  have H := HC4.out
  clear HC4
  by_cases c6 : (a0.size : Int) > 400
  ·rw [if_pos c6] at H
   have c6b0 : decide (400 < (a0.size : Int)) = true := decide_eq_true c6
   have c6b1 : decide (400 < a0.size) = true := decide_eq_true (by omega)
   clear c6
   (first | rw [c6b0] | (simp only [i64_w, i32_w]; rw [c6b0]) | skip)
   have H' := Aside0.mk H
   clear H
   go_wp2
   go_meet
   case rel => exact ⟨_, (true), (by first | rfl | (simp; done) | (simp [*]; done)), H', ⟨by first | omega | exact Nat.le_refl _⟩, ⟨by (with_reducible repeat (first | refine blk_drewN ?_ _ | refine blk_drew ?_ | refine blk_alloc ?_ _)); exact BK819.out⟩, ⟨by repeat (first | (with_reducible first | exact HB.out | apply below_alloc | apply pw_below_drewN | apply below_drew1 | refine below_set ?_ GE819.out) | exact HB.out)⟩⟩
  ·rw [if_neg c6] at H
   have c6b0 : decide (400 < (a0.size : Int)) = false := decide_eq_false c6
   have c6b1 : decide (400 < a0.size) = false := decide_eq_false (by omega)
   clear c6
   (first | rw [c6b0] | (simp only [i64_w, i32_w]; rw [c6b0]) | skip)
   have H' := Aside0.mk H
   clear H
   go_wp2
   go_meet
   case rel => exact ⟨_, (decide ((a2.size : Int) > 400)), (by first | rfl | (simp; done) | (simp [*]; done)), H', ⟨by first | omega | exact Nat.le_refl _⟩, ⟨by (with_reducible repeat (first | refine blk_drewN ?_ _ | refine blk_drew ?_ | refine blk_alloc ?_ _)); exact BK819.out⟩, ⟨by repeat (first | (with_reducible first | exact HB.out | apply below_alloc | apply pw_below_drewN | apply below_drew1 | refine below_set ?_ GE819.out) | exact HB.out)⟩⟩
 case rest =>
  clear HC4
  try clear c1
  try clear p2
  try clear c6
  try clear c6b0
  try clear c6b1
  obtain ⟨kq, x20_3, rfl, HA, HJ3, BK819, HB⟩ := hcut
  cases kq with
  | zero => exact absurd HA.out (by simp [padlocklaw03_PuzzlesCiphers.j0])
  | succ kj3 =>
   have H := HA.out
   clear HA
   simp only [padlocklaw03_PuzzlesCiphers.j0] at H
   by_cases c7 : x20_3 = true
   ·subst c7
    have H1 : ((padlocklaw03_works.f kj3).bind fun t820 => (some t820)) = some r := by rw [if_pos rfl] at H; exact H
    clear H
    have H := H1
    clear H1
    replace H := Option.bind_eq_some_iff.mp H
    obtain ⟨t820, A80, H⟩ := H
    replace H : (some t820) = some r := H
    have A8 := Aside0.mk A80
    clear A80
    obtain rfl := Option.some.inj H
    go_wp2_with (first | ((with_reducible refine gate_callee (f := 21) rfl ?_); refine goesL_ (some 21) rfl rfl Try.func21 (by kernel_rfl) rfl #[] rfl (by (try simp only [List.map_toArray, List.map_cons, List.map_nil]); first | done | rfl | (simp only [List.length_drop, List.length_take]; rfl)) ?_; (with_reducible refine (padlocklaw03_works.calls kj3  t820 _ A8.out).mono ?_); rintro e w9 ⟨rfl, hb⟩; refine ⟨_, rfl, ?_⟩; have n0_ := Aside0.mk (blk_below (g := gb819) (o := .cells #[.int .i64 a1_0, .string a1_1, .bool a1_2] 81 (0, 0)) (by (with_reducible repeat (first | refine blk_drewN ?_ _ | refine blk_drew ?_ | refine blk_alloc ?_ _)); exact BK819.out) hb); have n1_ := Aside0.mk (below_step (by repeat (first | (with_reducible first | exact HB.out | apply below_alloc | apply pw_below_drewN | apply below_drew1 | refine below_set ?_ GE819.out) | exact HB.out)) hb); clear BK819; clear HB; have BK819 := n0_; have HB := n1_; clear n0_ n1_; (try clear hb); (try clear hb2); (try clear hk); (try clear hi)))
    go_ret
    exact ⟨by first | rfl | (simp [errW_none, errW_some] <;> rfl) | (simp [*, errW_none, errW_some] <;> rfl), by repeat (first | (with_reducible first | exact HB.out | apply below_alloc | apply pw_below_drewN | apply below_drew1 | refine below_set ?_ GE819.out) | exact HB.out)⟩
   ·replace c7 := Bool.eq_false_iff.mpr c7
    subst c7
    have H1 : ((puzzles_Shift.f a0 a1_0).bind fun bt821 => ((padlockref03_Shift.f kj3 a0 a1_0).bind fun bt823 => (if bt821.1.toList = bt823.1.toList then (padlocklaw03_PuzzlesCiphers.j1 kj3 a0 a2 (bt821.2 != bt823.2) a1_0 a1_1 a1_2) else (padlocklaw03_PuzzlesCiphers.j1 kj3 a0 a2 true a1_0 a1_1 a1_2)))) = some r := by rw [if_neg (show ¬ (false = true) by decide)] at H; exact H
    clear H
    have H := H1
    clear H1
    replace H := Option.bind_eq_some_iff.mp H
    obtain ⟨⟨t821, t822⟩, A100, H⟩ := H
    replace H : ((padlockref03_Shift.f kj3 a0 a1_0).bind fun bt823 => (if t821.toList = bt823.1.toList then (padlocklaw03_PuzzlesCiphers.j1 kj3 a0 a2 (t822 != bt823.2) a1_0 a1_1 a1_2) else (padlocklaw03_PuzzlesCiphers.j1 kj3 a0 a2 true a1_0 a1_1 a1_2))) = some r := H
    have A10 := Aside0.mk A100
    clear A100
    replace H := Option.bind_eq_some_iff.mp H
    obtain ⟨⟨t823, t824⟩, A110, H⟩ := H
    replace H : (if t821.toList = t823.toList then (padlocklaw03_PuzzlesCiphers.j1 kj3 a0 a2 (t822 != t824) a1_0 a1_1 a1_2) else (padlocklaw03_PuzzlesCiphers.j1 kj3 a0 a2 true a1_0 a1_1 a1_2)) = some r := H
    have A11 := Aside0.mk A110
    clear A110
    have HC12 := Aside0.mk H
    clear H
    have hcz13_0 : wc.cell? ⟨gb819, 0, none⟩ = some (.int .i64 a1_0) := (blk_cell BK819.out 0).trans rfl
    have hcz13_1 : wc.cell? ⟨gb819, 1, none⟩ = some (.string a1_1) := (blk_cell BK819.out 1).trans rfl
    have hcz13_2 : wc.cell? ⟨gb819, 2, none⟩ = some (.bool a1_2) := (blk_cell BK819.out 2).trans rfl
    have hfz13_0 := blk_frozen BK819.out 0
    have hfz13_1 := blk_frozen BK819.out 1
    have hfz13_2 := blk_frozen BK819.out 2
    go_upto_region 5 with (first | ((with_reducible refine gate_callee (f := 60) rfl ?_); refine goesL_ (some 26) rfl rfl Try.func60 (by kernel_rfl) rfl #[.string a0, .int .i64 a1_0] rfl (by (try simp only [List.map_toArray, List.map_cons, List.map_nil]); first | done | rfl | (simp only [List.length_drop, List.length_take]; rfl)) ?_; (with_reducible refine (puzzles_Shift.calls a0 a1_0 t821 t822 _ A10.out).mono ?_); rintro e w14 ⟨rfl, hb⟩; refine ⟨_, rfl, ?_⟩; have n0_ := Aside0.mk (blk_below (g := gb819) (o := .cells #[.int .i64 a1_0, .string a1_1, .bool a1_2] 81 (0, 0)) (by (with_reducible repeat (first | refine blk_drewN ?_ _ | refine blk_drew ?_ | refine blk_alloc ?_ _)); exact BK819.out) hb); have n1_ := Aside0.mk (below_step (by repeat (first | (with_reducible first | exact HB.out | apply below_alloc | apply pw_below_drewN | apply below_drew1 | refine below_set ?_ GE819.out) | exact HB.out)) hb); clear BK819; clear HB; have BK819 := n0_; have HB := n1_; clear n0_ n1_; (try clear hb); (try clear hb2); (try clear hk); (try clear hi); have hcz15_0 : w14.cell? ⟨gb819, 0, none⟩ = some (.int .i64 a1_0) := (blk_cell BK819.out 0).trans rfl; have hcz15_1 : w14.cell? ⟨gb819, 1, none⟩ = some (.string a1_1) := (blk_cell BK819.out 1).trans rfl; have hcz15_2 : w14.cell? ⟨gb819, 2, none⟩ = some (.bool a1_2) := (blk_cell BK819.out 2).trans rfl; have hfz15_0 := blk_frozen BK819.out 0; have hfz15_1 := blk_frozen BK819.out 1; have hfz15_2 := blk_frozen BK819.out 2) | ((with_reducible refine gate_callee (f := 61) rfl ?_); refine goesL_ (some 33) rfl rfl Try.func61 (by kernel_rfl) rfl #[.string a0, .int .i64 a1_0] rfl (by (try simp only [List.map_toArray, List.map_cons, List.map_nil]); first | done | rfl | (simp only [List.length_drop, List.length_take]; rfl)) ?_; (with_reducible refine (padlockref03_Shift.calls kj3 a0 a1_0 t823 t824 _ A11.out).mono ?_); rintro e w16 ⟨rfl, hb⟩; refine ⟨_, rfl, ?_⟩; have n0_ := Aside0.mk (blk_below (g := gb819) (o := .cells #[.int .i64 a1_0, .string a1_1, .bool a1_2] 81 (0, 0)) (by (with_reducible repeat (first | refine blk_drewN ?_ _ | refine blk_drew ?_ | refine blk_alloc ?_ _)); exact BK819.out) hb); have n1_ := Aside0.mk (below_step (by repeat (first | (with_reducible first | exact HB.out | apply below_alloc | apply pw_below_drewN | apply below_drew1 | refine below_set ?_ GE819.out) | exact HB.out)) hb); clear BK819; clear HB; have BK819 := n0_; have HB := n1_; clear n0_ n1_; (try clear hb); (try clear hb2); (try clear hk); (try clear hi)))
    (try simp only [Act.put, List.setIfInBounds_toArray, List.set_cons_zero, List.set_cons_succ])
    go_cut [43] (fun v43 wc => ∃ (kq : Nat) (x43_11 : Bool), v43 = .bool x43_11 ∧ Aside0 (padlocklaw03_PuzzlesCiphers.j1 kq a0 a2 x43_11 a1_0 a1_1 a1_2 = some r) ∧ Aside0 (kq ≤ kj3) ∧ Aside0 (wc.heap[gb819]? = some (.cells #[.int .i64 a1_0, .string a1_1, .bool a1_2] 81 (0, 0))) ∧ Aside0 (Below w.heap.size w wc))
    case first =>
     have H := HC12.out
     clear HC12
     by_cases c17 : t821.toList = t823.toList
     ·rw [if_pos c17] at H
      have c17b0 : (t821.toList == t823.toList) = true := beq_iff_eq.mpr c17
      have c17b1 : (t821.toList != t823.toList) = false := bne_eq_false_iff_eq.mpr c17
      clear c17
      (first | rw [c17b0] | (simp only [i64_w, i32_w]; rw [c17b0]) | skip)
      have H' := Aside0.mk H
      clear H
      go_wp2
      go_meet
      case rel => exact ⟨_, ((t822 != t824)), (by first | rfl | (simp; done) | (simp [*]; done)), H', ⟨by have := HJ3.out; first | omega | exact Nat.le_refl _⟩, ⟨by (with_reducible repeat (first | refine blk_drewN ?_ _ | refine blk_drew ?_ | refine blk_alloc ?_ _)); exact BK819.out⟩, ⟨by repeat (first | (with_reducible first | exact HB.out | apply below_alloc | apply pw_below_drewN | apply below_drew1 | refine below_set ?_ GE819.out) | exact HB.out)⟩⟩
     ·rw [if_neg c17] at H
      have c17b0 : (t821.toList == t823.toList) = false := beq_eq_false_iff_ne.mpr c17
      have c17b1 : (t821.toList != t823.toList) = true := bne_iff_ne.mpr c17
      (first | rw [c17b0] | (simp only [i64_w, i32_w]; rw [c17b0]) | skip)
      have H' := Aside0.mk H
      clear H
      go_wp2
      go_meet
      case rel => exact ⟨_, (true), (by first | rfl | (simp; done) | (simp [*]; done)), H', ⟨by have := HJ3.out; first | omega | exact Nat.le_refl _⟩, ⟨by (with_reducible repeat (first | refine blk_drewN ?_ _ | refine blk_drew ?_ | refine blk_alloc ?_ _)); exact BK819.out⟩, ⟨by repeat (first | (with_reducible first | exact HB.out | apply below_alloc | apply pw_below_drewN | apply below_drew1 | refine below_set ?_ GE819.out) | exact HB.out)⟩⟩
    case rest =>
     clear HC12
     try clear c1
     try clear c2
     try clear p2
     try clear c6
     try clear c6b0
     try clear c6b1
     try clear c7
     try clear c17
     try clear c17b0
     try clear c17b1
     try clear hcz13_0
     try clear hcz13_1
     try clear hcz13_2
     try clear hcz15_0
     try clear hcz15_1
     try clear hcz15_2
     try clear hfz13_0
     try clear hfz13_1
     try clear hfz13_2
     try clear hfz15_0
     try clear hfz15_1
     try clear hfz15_2
     try clear p2
     obtain ⟨kq, x43_11, rfl, HA, HJ11, BK819, HB⟩ := hcut
     cases kq with
     | zero => exact absurd HA.out (by simp [padlocklaw03_PuzzlesCiphers.j1])
     | succ kj11 =>
      have H := HA.out
      clear HA
      simp only [padlocklaw03_PuzzlesCiphers.j1] at H
      by_cases c18 : x43_11 = true
      ·subst c18
       have H1 : (some false) = some r := by rw [if_pos rfl] at H; exact H
       clear H
       have H := H1
       clear H1
       obtain rfl := Option.some.inj H
       go_wp2
       go_ret
       exact ⟨by first | rfl | (simp [errW_none, errW_some] <;> rfl) | (simp [*, errW_none, errW_some] <;> rfl), by repeat (first | (with_reducible first | exact HB.out | apply below_alloc | apply pw_below_drewN | apply below_drew1 | refine below_set ?_ GE819.out) | exact HB.out)⟩
      ·replace c18 := Bool.eq_false_iff.mpr c18
       subst c18
       have H1 : ((puzzles_Mix.f a0 a1_1 a1_2).bind fun bt825 => ((padlockref03_Mix.f kj11 a0 a1_1 a1_2).bind fun bt827 => (if bt825.1.toList = bt827.1.toList then (padlocklaw03_PuzzlesCiphers.j2 kj11 a0 a2 (bt825.2 != bt827.2)) else (padlocklaw03_PuzzlesCiphers.j2 kj11 a0 a2 true)))) = some r := by rw [if_neg (show ¬ (false = true) by decide)] at H; exact H
       clear H
       have H := H1
       clear H1
       replace H := Option.bind_eq_some_iff.mp H
       obtain ⟨⟨t825, t826⟩, A190, H⟩ := H
       replace H : ((padlockref03_Mix.f kj11 a0 a1_1 a1_2).bind fun bt827 => (if t825.toList = bt827.1.toList then (padlocklaw03_PuzzlesCiphers.j2 kj11 a0 a2 (t826 != bt827.2)) else (padlocklaw03_PuzzlesCiphers.j2 kj11 a0 a2 true))) = some r := H
       have A19 := Aside0.mk A190
       clear A190
       replace H := Option.bind_eq_some_iff.mp H
       obtain ⟨⟨t827, t828⟩, A200, H⟩ := H
       replace H : (if t825.toList = t827.toList then (padlocklaw03_PuzzlesCiphers.j2 kj11 a0 a2 (t826 != t828)) else (padlocklaw03_PuzzlesCiphers.j2 kj11 a0 a2 true)) = some r := H
       have A20 := Aside0.mk A200
       clear A200
       have HC21 := Aside0.mk H
       clear H
       have hcz22_0 : wc.cell? ⟨gb819, 0, none⟩ = some (.int .i64 a1_0) := (blk_cell BK819.out 0).trans rfl
       have hcz22_1 : wc.cell? ⟨gb819, 1, none⟩ = some (.string a1_1) := (blk_cell BK819.out 1).trans rfl
       have hcz22_2 : wc.cell? ⟨gb819, 2, none⟩ = some (.bool a1_2) := (blk_cell BK819.out 2).trans rfl
       have hfz22_0 := blk_frozen BK819.out 0
       have hfz22_1 := blk_frozen BK819.out 1
       have hfz22_2 := blk_frozen BK819.out 2
       go_upto_region 9 with (first | ((with_reducible refine gate_callee (f := 62) rfl ?_); refine goesL_ (some 50) rfl rfl Try.func62 (by kernel_rfl) rfl #[.string a0, .string a1_1, .bool a1_2] rfl (by (try simp only [List.map_toArray, List.map_cons, List.map_nil]); first | done | rfl | (simp only [List.length_drop, List.length_take]; rfl)) ?_; (with_reducible refine (puzzles_Mix.calls a0 a1_1 a1_2 t825 t826 _ A19.out).mono ?_); rintro e w23 ⟨rfl, hb⟩; refine ⟨_, rfl, ?_⟩; have n0_ := Aside0.mk (blk_below (g := gb819) (o := .cells #[.int .i64 a1_0, .string a1_1, .bool a1_2] 81 (0, 0)) (by (with_reducible repeat (first | refine blk_drewN ?_ _ | refine blk_drew ?_ | refine blk_alloc ?_ _)); exact BK819.out) hb); have n1_ := Aside0.mk (below_step (by repeat (first | (with_reducible first | exact HB.out | apply below_alloc | apply pw_below_drewN | apply below_drew1 | refine below_set ?_ GE819.out) | exact HB.out)) hb); clear BK819; clear HB; have BK819 := n0_; have HB := n1_; clear n0_ n1_; (try clear hb); (try clear hb2); (try clear hk); (try clear hi); have hcz24_0 : w23.cell? ⟨gb819, 0, none⟩ = some (.int .i64 a1_0) := (blk_cell BK819.out 0).trans rfl; have hcz24_1 : w23.cell? ⟨gb819, 1, none⟩ = some (.string a1_1) := (blk_cell BK819.out 1).trans rfl; have hcz24_2 : w23.cell? ⟨gb819, 2, none⟩ = some (.bool a1_2) := (blk_cell BK819.out 2).trans rfl; have hfz24_0 := blk_frozen BK819.out 0; have hfz24_1 := blk_frozen BK819.out 1; have hfz24_2 := blk_frozen BK819.out 2) | ((with_reducible refine gate_callee (f := 63) rfl ?_); refine goesL_ (some 59) rfl rfl Try.func63 (by kernel_rfl) rfl #[.string a0, .string a1_1, .bool a1_2] rfl (by (try simp only [List.map_toArray, List.map_cons, List.map_nil]); first | done | rfl | (simp only [List.length_drop, List.length_take]; rfl)) ?_; (with_reducible refine (padlockref03_Mix.calls kj11 a0 a1_1 a1_2 t827 t828 _ A20.out).mono ?_); rintro e w25 ⟨rfl, hb⟩; refine ⟨_, rfl, ?_⟩; have n0_ := Aside0.mk (blk_below (g := gb819) (o := .cells #[.int .i64 a1_0, .string a1_1, .bool a1_2] 81 (0, 0)) (by (with_reducible repeat (first | refine blk_drewN ?_ _ | refine blk_drew ?_ | refine blk_alloc ?_ _)); exact BK819.out) hb); have n1_ := Aside0.mk (below_step (by repeat (first | (with_reducible first | exact HB.out | apply below_alloc | apply pw_below_drewN | apply below_drew1 | refine below_set ?_ GE819.out) | exact HB.out)) hb); clear BK819; clear HB; have BK819 := n0_; have HB := n1_; clear n0_ n1_; (try clear hb); (try clear hb2); (try clear hk); (try clear hi)))
       (try simp only [Act.put, List.setIfInBounds_toArray, List.set_cons_zero, List.set_cons_succ])
       go_cut [69] (fun v69 wc => ∃ (kq : Nat) (x69_20 : Bool), v69 = .bool x69_20 ∧ Aside0 (padlocklaw03_PuzzlesCiphers.j2 kq a0 a2 x69_20 = some r) ∧ Aside0 (kq ≤ kj11) ∧ Aside0 (wc.heap[gb819]? = some (.cells #[.int .i64 a1_0, .string a1_1, .bool a1_2] 81 (0, 0))) ∧ Aside0 (Below w.heap.size w wc))
       case first =>
        have H := HC21.out
        clear HC21
        by_cases c26 : t825.toList = t827.toList
        ·rw [if_pos c26] at H
         have c26b0 : (t825.toList == t827.toList) = true := beq_iff_eq.mpr c26
         have c26b1 : (t825.toList != t827.toList) = false := bne_eq_false_iff_eq.mpr c26
         clear c26
         (first | rw [c26b0] | (simp only [i64_w, i32_w]; rw [c26b0]) | skip)
         have H' := Aside0.mk H
         clear H
         go_wp2
         go_meet
         case rel => exact ⟨_, ((t826 != t828)), (by first | rfl | (simp; done) | (simp [*]; done)), H', ⟨by have := HJ3.out; have := HJ11.out; first | omega | exact Nat.le_refl _⟩, ⟨by (with_reducible repeat (first | refine blk_drewN ?_ _ | refine blk_drew ?_ | refine blk_alloc ?_ _)); exact BK819.out⟩, ⟨by repeat (first | (with_reducible first | exact HB.out | apply below_alloc | apply pw_below_drewN | apply below_drew1 | refine below_set ?_ GE819.out) | exact HB.out)⟩⟩
        ·rw [if_neg c26] at H
         have c26b0 : (t825.toList == t827.toList) = false := beq_eq_false_iff_ne.mpr c26
         have c26b1 : (t825.toList != t827.toList) = true := bne_iff_ne.mpr c26
         (first | rw [c26b0] | (simp only [i64_w, i32_w]; rw [c26b0]) | skip)
         have H' := Aside0.mk H
         clear H
         go_wp2
         go_meet
         case rel => exact ⟨_, (true), (by first | rfl | (simp; done) | (simp [*]; done)), H', ⟨by have := HJ3.out; have := HJ11.out; first | omega | exact Nat.le_refl _⟩, ⟨by (with_reducible repeat (first | refine blk_drewN ?_ _ | refine blk_drew ?_ | refine blk_alloc ?_ _)); exact BK819.out⟩, ⟨by repeat (first | (with_reducible first | exact HB.out | apply below_alloc | apply pw_below_drewN | apply below_drew1 | refine below_set ?_ GE819.out) | exact HB.out)⟩⟩
       case rest =>
        clear HC21
        try clear c1
        try clear c2
        try clear p2
        try clear c6
        try clear c6b0
        try clear c6b1
        try clear c7
        try clear c17
        try clear c17b0
        try clear c17b1
        try clear c18
        try clear c21
        try clear c26
        try clear c26b0
        try clear c26b1
        try clear hcz13_0
        try clear hcz13_1
        try clear hcz13_2
        try clear hcz15_0
        try clear hcz15_1
        try clear hcz15_2
        try clear hcz22_0
        try clear hcz22_1
        try clear hcz22_2
        try clear hcz24_0
        try clear hcz24_1
        try clear hcz24_2
        try clear hfz13_0
        try clear hfz13_1
        try clear hfz13_2
        try clear hfz15_0
        try clear hfz15_1
        try clear hfz15_2
        try clear hfz22_0
        try clear hfz22_1
        try clear hfz22_2
        try clear hfz24_0
        try clear hfz24_1
        try clear hfz24_2
        try clear p2
        obtain ⟨kq, x69_20, rfl, HA, HJ20, BK819, HB⟩ := hcut
        cases kq with
        | zero => exact absurd HA.out (by simp [padlocklaw03_PuzzlesCiphers.j2])
        | succ kj20 =>
         have H := HA.out
         clear HA
         simp only [padlocklaw03_PuzzlesCiphers.j2] at H
         by_cases c27 : x69_20 = true
         ·subst c27
          have H1 : (some false) = some r := by rw [if_pos rfl] at H; exact H
          clear H
          have H := H1
          clear H1
          obtain rfl := Option.some.inj H
          go_wp2
          go_ret
          exact ⟨by first | rfl | (simp [errW_none, errW_some] <;> rfl) | (simp [*, errW_none, errW_some] <;> rfl), by repeat (first | (with_reducible first | exact HB.out | apply below_alloc | apply pw_below_drewN | apply below_drew1 | refine below_set ?_ GE819.out) | exact HB.out)⟩
         ·replace c27 := Bool.eq_false_iff.mpr c27
          subst c27
          have H1 : ((puzzles_Crack.f kj20 a0 a2).bind fun bt829 => ((padlockref03_Crack.f kj20 a0 a2).bind fun bt833 => (if bt829.2 = bt833.2 then ((padlocklaw03_sameInts.f kj20 bt829.1 bt833.1).bind fun t837 => (if t837 = true then ((padlocklaw03_works.f kj20).bind fun t838 => (some t838)) else (some false))) else (some false)))) = some r := by rw [if_neg (show ¬ (false = true) by decide)] at H; exact H
          clear H
          have H := H1
          clear H1
          replace H := Option.bind_eq_some_iff.mp H
          obtain ⟨⟨t829, t830⟩, A280, H⟩ := H
          replace H : ((padlockref03_Crack.f kj20 a0 a2).bind fun bt833 => (if t830 = bt833.2 then ((padlocklaw03_sameInts.f kj20 t829 bt833.1).bind fun t837 => (if t837 = true then ((padlocklaw03_works.f kj20).bind fun t838 => (some t838)) else (some false))) else (some false))) = some r := H
          have A28 := Aside0.mk A280
          clear A280
          replace H := Option.bind_eq_some_iff.mp H
          obtain ⟨⟨t833, t834⟩, A290, H⟩ := H
          replace H : (if t830 = t834 then ((padlocklaw03_sameInts.f kj20 t829 t833).bind fun t837 => (if t837 = true then ((padlocklaw03_works.f kj20).bind fun t838 => (some t838)) else (some false))) else (some false)) = some r := H
          have A29 := Aside0.mk A290
          clear A290
          by_cases c30 : t830 = t834
          ·rw [if_pos c30] at H
           have c30b0 : (t830 == t834) = true := beq_iff_eq.mpr c30
           have c30b1 : (t830 != t834) = false := bne_eq_false_iff_eq.mpr c30
           clear c30
           replace H := Option.bind_eq_some_iff.mp H
           obtain ⟨t837, A310, H⟩ := H
           replace H : (if t837 = true then ((padlocklaw03_works.f kj20).bind fun t838 => (some t838)) else (some false)) = some r := H
           have A31 := Aside0.mk A310
           clear A310
           by_cases c32 : t837 = true
           ·subst c32
            have H1 : ((padlocklaw03_works.f kj20).bind fun t838 => (some t838)) = some r := by rw [if_pos rfl] at H; exact H
            clear H
            have H := H1
            clear H1
            replace H := Option.bind_eq_some_iff.mp H
            obtain ⟨t838, A330, H⟩ := H
            replace H : (some t838) = some r := H
            have A33 := Aside0.mk A330
            clear A330
            obtain rfl := Option.some.inj H
            go_wp2_with (first | ((with_reducible refine gate_callee (f := 64) rfl ?_); refine goesL_ (some 73) rfl rfl Try.func64 (by kernel_rfl) rfl #[.string a0, .string a2] rfl (by (try simp only [List.map_toArray, List.map_cons, List.map_nil]); first | done | rfl | (simp only [List.length_drop, List.length_take]; rfl)) ?_; (with_reducible refine (puzzles_Crack.calls kj20 a0 a2 t829 t830 _ A28.out (mx_below HMx.out (by repeat (first | (with_reducible first | exact HB.out | apply below_alloc | apply pw_below_drewN | apply below_drew1 | refine below_set ?_ GE819.out) | exact HB.out)))).mono ?_); rintro e w34 ⟨v831, rfl, ho0, hb⟩; refine ⟨_, rfl, ?_⟩; have n0_ := Aside0.mk (Kd.R_lower ho0 (below_size (by repeat (first | (with_reducible first | exact HB.out | apply below_alloc | apply pw_below_drewN | apply below_drew1 | refine below_set ?_ GE819.out) | exact HB.out)))); have n1_ := Aside0.mk (blk_below (g := gb819) (o := .cells #[.int .i64 a1_0, .string a1_1, .bool a1_2] 81 (0, 0)) (by (with_reducible repeat (first | refine blk_drewN ?_ _ | refine blk_drew ?_ | refine blk_alloc ?_ _)); exact BK819.out) hb); have n2_ := Aside0.mk (below_step (by repeat (first | (with_reducible first | exact HB.out | apply below_alloc | apply pw_below_drewN | apply below_drew1 | refine below_set ?_ GE819.out) | exact HB.out)) hb); clear BK819; clear HB; have HO832 := n0_; have BK819 := n1_; have HB := n2_; clear n0_ n1_ n2_; (try clear hb); (try clear hb2); (try clear hk); (try clear hi); (try clear ho0)) | ((with_reducible refine gate_callee (f := 65) rfl ?_); refine goesL_ (some 79) rfl rfl Try.func65 (by kernel_rfl) rfl #[.string a0, .string a2] rfl (by (try simp only [List.map_toArray, List.map_cons, List.map_nil]); first | done | rfl | (simp only [List.length_drop, List.length_take]; rfl)) ?_; (with_reducible refine (padlockref03_Crack.calls kj20 a0 a2 t833 t834 _ A29.out).mono ?_); rintro e w35 ⟨v835, rfl, ho0, hb⟩; refine ⟨_, rfl, ?_⟩; have n0_ := Aside0.mk (Kd.R_elder' (by (with_reducible repeat (first | apply Kd.R_alloc | apply Kd.R_drewN | apply Kd.R_drew)); exact HO832.out) (Kd.R_base ho0) hb); have n1_ := Aside0.mk (Kd.R_lower (Kd.R_new' ho0 (Kd.R_lt (by (with_reducible repeat (first | apply Kd.R_alloc | apply Kd.R_drewN | apply Kd.R_drew)); exact HO832.out))) (below_size (by repeat (first | (with_reducible first | exact HB.out | apply below_alloc | apply pw_below_drewN | apply below_drew1 | refine below_set ?_ GE819.out) | exact HB.out)))); have n2_ := Aside0.mk (blk_below (g := gb819) (o := .cells #[.int .i64 a1_0, .string a1_1, .bool a1_2] 81 (0, 0)) (by (with_reducible repeat (first | refine blk_drewN ?_ _ | refine blk_drew ?_ | refine blk_alloc ?_ _)); exact BK819.out) hb); have n3_ := Aside0.mk (below_step (by repeat (first | (with_reducible first | exact HB.out | apply below_alloc | apply pw_below_drewN | apply below_drew1 | refine below_set ?_ GE819.out) | exact HB.out)) hb); clear HO832; clear BK819; clear HB; have HO832 := n0_; have HO836 := n1_; have BK819 := n2_; have HB := n3_; clear n0_ n1_ n2_ n3_; (try clear hb); (try clear hb2); (try clear hk); (try clear hi); (try clear ho0); obtain ⟨Ao36, co36, eo36⟩ := Kd.R_slice HO832.out; subst eo36; obtain ⟨Ao37, co37, eo37⟩ := Kd.R_slice HO836.out; subst eo37) | (go_at_call 26; (with_reducible refine (padlocklaw03_sameInts.calls kj20 _ _ t829 _ _ t833 true _ ?side1 ?side2 ?side3 ?side4 A31.out).mono ?_); (case side1 => repeat (first | exact (Kd.R_reads' HO832.out).2.2 | (with_reducible refine Kd.C_alloc ?_ _) | (with_reducible refine Kd.C_drewN ?_ _) | (with_reducible refine Kd.C_drew ?_))); (case side2 => exact (Kd.R_reads' HO832.out).2.1); (case side3 => repeat (first | exact (Kd.R_reads' HO836.out).2.2 | (with_reducible refine Kd.C_alloc ?_ _) | (with_reducible refine Kd.C_drewN ?_ _) | (with_reducible refine Kd.C_drew ?_))); (case side4 => exact (Kd.R_reads' HO836.out).2.1); rintro e w' ⟨rfl, ⟨nd, rfl⟩⟩) | (go_at_call 21; (with_reducible refine (padlocklaw03_works.calls kj20  t838 _ A33.out).mono ?_); rintro e w38 ⟨rfl, hb⟩; have n0_ := Aside0.mk (Kd.R_below (by (with_reducible repeat (first | apply Kd.R_alloc | apply Kd.R_drewN | apply Kd.R_drew)); exact HO832.out) hb); have n1_ := Aside0.mk (Kd.R_below (by (with_reducible repeat (first | apply Kd.R_alloc | apply Kd.R_drewN | apply Kd.R_drew)); exact HO836.out) hb); have n2_ := Aside0.mk (blk_below (g := gb819) (o := .cells #[.int .i64 a1_0, .string a1_1, .bool a1_2] 81 (0, 0)) (by (with_reducible repeat (first | refine blk_drewN ?_ _ | refine blk_drew ?_ | refine blk_alloc ?_ _)); exact BK819.out) hb); have n3_ := Aside0.mk (below_step (by repeat (first | (with_reducible first | exact HB.out | apply below_alloc | apply pw_below_drewN | apply below_drew1 | refine below_set ?_ GE819.out) | exact HB.out)) hb); clear HO832; clear HO836; clear BK819; clear HB; have HO832 := n0_; have HO836 := n1_; have BK819 := n2_; have HB := n3_; clear n0_ n1_ n2_ n3_; (try clear hb); (try clear hb2); (try clear hk); (try clear hi)))
            go_ret
            exact ⟨by first | rfl | (simp [errW_none, errW_some] <;> rfl) | (simp [*, errW_none, errW_some] <;> rfl), by repeat (first | (with_reducible first | exact HB.out | apply below_alloc | apply pw_below_drewN | apply below_drew1 | refine below_set ?_ GE819.out) | exact HB.out)⟩
           ·replace c32 := Bool.eq_false_iff.mpr c32
            subst c32
            have H1 : (some false) = some r := by rw [if_neg (show ¬ (false = true) by decide)] at H; exact H
            clear H
            have H := H1
            clear H1
            obtain rfl := Option.some.inj H
            go_wp2_with (first | ((with_reducible refine gate_callee (f := 64) rfl ?_); refine goesL_ (some 73) rfl rfl Try.func64 (by kernel_rfl) rfl #[.string a0, .string a2] rfl (by (try simp only [List.map_toArray, List.map_cons, List.map_nil]); first | done | rfl | (simp only [List.length_drop, List.length_take]; rfl)) ?_; (with_reducible refine (puzzles_Crack.calls kj20 a0 a2 t829 t830 _ A28.out (mx_below HMx.out (by repeat (first | (with_reducible first | exact HB.out | apply below_alloc | apply pw_below_drewN | apply below_drew1 | refine below_set ?_ GE819.out) | exact HB.out)))).mono ?_); rintro e w39 ⟨v831, rfl, ho0, hb⟩; refine ⟨_, rfl, ?_⟩; have n0_ := Aside0.mk (Kd.R_lower ho0 (below_size (by repeat (first | (with_reducible first | exact HB.out | apply below_alloc | apply pw_below_drewN | apply below_drew1 | refine below_set ?_ GE819.out) | exact HB.out)))); have n1_ := Aside0.mk (blk_below (g := gb819) (o := .cells #[.int .i64 a1_0, .string a1_1, .bool a1_2] 81 (0, 0)) (by (with_reducible repeat (first | refine blk_drewN ?_ _ | refine blk_drew ?_ | refine blk_alloc ?_ _)); exact BK819.out) hb); have n2_ := Aside0.mk (below_step (by repeat (first | (with_reducible first | exact HB.out | apply below_alloc | apply pw_below_drewN | apply below_drew1 | refine below_set ?_ GE819.out) | exact HB.out)) hb); clear BK819; clear HB; have HO832 := n0_; have BK819 := n1_; have HB := n2_; clear n0_ n1_ n2_; (try clear hb); (try clear hb2); (try clear hk); (try clear hi); (try clear ho0)) | ((with_reducible refine gate_callee (f := 65) rfl ?_); refine goesL_ (some 79) rfl rfl Try.func65 (by kernel_rfl) rfl #[.string a0, .string a2] rfl (by (try simp only [List.map_toArray, List.map_cons, List.map_nil]); first | done | rfl | (simp only [List.length_drop, List.length_take]; rfl)) ?_; (with_reducible refine (padlockref03_Crack.calls kj20 a0 a2 t833 t834 _ A29.out).mono ?_); rintro e w40 ⟨v835, rfl, ho0, hb⟩; refine ⟨_, rfl, ?_⟩; have n0_ := Aside0.mk (Kd.R_elder' (by (with_reducible repeat (first | apply Kd.R_alloc | apply Kd.R_drewN | apply Kd.R_drew)); exact HO832.out) (Kd.R_base ho0) hb); have n1_ := Aside0.mk (Kd.R_lower (Kd.R_new' ho0 (Kd.R_lt (by (with_reducible repeat (first | apply Kd.R_alloc | apply Kd.R_drewN | apply Kd.R_drew)); exact HO832.out))) (below_size (by repeat (first | (with_reducible first | exact HB.out | apply below_alloc | apply pw_below_drewN | apply below_drew1 | refine below_set ?_ GE819.out) | exact HB.out)))); have n2_ := Aside0.mk (blk_below (g := gb819) (o := .cells #[.int .i64 a1_0, .string a1_1, .bool a1_2] 81 (0, 0)) (by (with_reducible repeat (first | refine blk_drewN ?_ _ | refine blk_drew ?_ | refine blk_alloc ?_ _)); exact BK819.out) hb); have n3_ := Aside0.mk (below_step (by repeat (first | (with_reducible first | exact HB.out | apply below_alloc | apply pw_below_drewN | apply below_drew1 | refine below_set ?_ GE819.out) | exact HB.out)) hb); clear HO832; clear BK819; clear HB; have HO832 := n0_; have HO836 := n1_; have BK819 := n2_; have HB := n3_; clear n0_ n1_ n2_ n3_; (try clear hb); (try clear hb2); (try clear hk); (try clear hi); (try clear ho0); obtain ⟨Ao41, co41, eo41⟩ := Kd.R_slice HO832.out; subst eo41; obtain ⟨Ao42, co42, eo42⟩ := Kd.R_slice HO836.out; subst eo42) | (go_at_call 26; (with_reducible refine (padlocklaw03_sameInts.calls kj20 _ _ t829 _ _ t833 false _ ?side1 ?side2 ?side3 ?side4 A31.out).mono ?_); (case side1 => repeat (first | exact (Kd.R_reads' HO832.out).2.2 | (with_reducible refine Kd.C_alloc ?_ _) | (with_reducible refine Kd.C_drewN ?_ _) | (with_reducible refine Kd.C_drew ?_))); (case side2 => exact (Kd.R_reads' HO832.out).2.1); (case side3 => repeat (first | exact (Kd.R_reads' HO836.out).2.2 | (with_reducible refine Kd.C_alloc ?_ _) | (with_reducible refine Kd.C_drewN ?_ _) | (with_reducible refine Kd.C_drew ?_))); (case side4 => exact (Kd.R_reads' HO836.out).2.1); rintro e w' ⟨rfl, ⟨nd, rfl⟩⟩))
            go_ret
            exact ⟨by first | rfl | (simp [errW_none, errW_some] <;> rfl) | (simp [*, errW_none, errW_some] <;> rfl), by repeat (first | (with_reducible first | exact HB.out | apply below_alloc | apply pw_below_drewN | apply below_drew1 | refine below_set ?_ GE819.out) | exact HB.out)⟩
          ·rw [if_neg c30] at H
           have c30b0 : (t830 == t834) = false := beq_eq_false_iff_ne.mpr c30
           have c30b1 : (t830 != t834) = true := bne_iff_ne.mpr c30
           obtain rfl := Option.some.inj H
           go_wp2_with (first | ((with_reducible refine gate_callee (f := 64) rfl ?_); refine goesL_ (some 73) rfl rfl Try.func64 (by kernel_rfl) rfl #[.string a0, .string a2] rfl (by (try simp only [List.map_toArray, List.map_cons, List.map_nil]); first | done | rfl | (simp only [List.length_drop, List.length_take]; rfl)) ?_; (with_reducible refine (puzzles_Crack.calls kj20 a0 a2 t829 t830 _ A28.out (mx_below HMx.out (by repeat (first | (with_reducible first | exact HB.out | apply below_alloc | apply pw_below_drewN | apply below_drew1 | refine below_set ?_ GE819.out) | exact HB.out)))).mono ?_); rintro e w43 ⟨v831, rfl, ho0, hb⟩; refine ⟨_, rfl, ?_⟩; have n0_ := Aside0.mk (Kd.R_lower ho0 (below_size (by repeat (first | (with_reducible first | exact HB.out | apply below_alloc | apply pw_below_drewN | apply below_drew1 | refine below_set ?_ GE819.out) | exact HB.out)))); have n1_ := Aside0.mk (blk_below (g := gb819) (o := .cells #[.int .i64 a1_0, .string a1_1, .bool a1_2] 81 (0, 0)) (by (with_reducible repeat (first | refine blk_drewN ?_ _ | refine blk_drew ?_ | refine blk_alloc ?_ _)); exact BK819.out) hb); have n2_ := Aside0.mk (below_step (by repeat (first | (with_reducible first | exact HB.out | apply below_alloc | apply pw_below_drewN | apply below_drew1 | refine below_set ?_ GE819.out) | exact HB.out)) hb); clear BK819; clear HB; have HO832 := n0_; have BK819 := n1_; have HB := n2_; clear n0_ n1_ n2_; (try clear hb); (try clear hb2); (try clear hk); (try clear hi); (try clear ho0)) | ((with_reducible refine gate_callee (f := 65) rfl ?_); refine goesL_ (some 79) rfl rfl Try.func65 (by kernel_rfl) rfl #[.string a0, .string a2] rfl (by (try simp only [List.map_toArray, List.map_cons, List.map_nil]); first | done | rfl | (simp only [List.length_drop, List.length_take]; rfl)) ?_; (with_reducible refine (padlockref03_Crack.calls kj20 a0 a2 t833 t834 _ A29.out).mono ?_); rintro e w44 ⟨v835, rfl, ho0, hb⟩; refine ⟨_, rfl, ?_⟩; have n0_ := Aside0.mk (Kd.R_elder' (by (with_reducible repeat (first | apply Kd.R_alloc | apply Kd.R_drewN | apply Kd.R_drew)); exact HO832.out) (Kd.R_base ho0) hb); have n1_ := Aside0.mk (Kd.R_lower (Kd.R_new' ho0 (Kd.R_lt (by (with_reducible repeat (first | apply Kd.R_alloc | apply Kd.R_drewN | apply Kd.R_drew)); exact HO832.out))) (below_size (by repeat (first | (with_reducible first | exact HB.out | apply below_alloc | apply pw_below_drewN | apply below_drew1 | refine below_set ?_ GE819.out) | exact HB.out)))); have n2_ := Aside0.mk (blk_below (g := gb819) (o := .cells #[.int .i64 a1_0, .string a1_1, .bool a1_2] 81 (0, 0)) (by (with_reducible repeat (first | refine blk_drewN ?_ _ | refine blk_drew ?_ | refine blk_alloc ?_ _)); exact BK819.out) hb); have n3_ := Aside0.mk (below_step (by repeat (first | (with_reducible first | exact HB.out | apply below_alloc | apply pw_below_drewN | apply below_drew1 | refine below_set ?_ GE819.out) | exact HB.out)) hb); clear HO832; clear BK819; clear HB; have HO832 := n0_; have HO836 := n1_; have BK819 := n2_; have HB := n3_; clear n0_ n1_ n2_ n3_; (try clear hb); (try clear hb2); (try clear hk); (try clear hi); (try clear ho0)))
           go_ret
           exact ⟨by first | rfl | (simp [errW_none, errW_some] <;> rfl) | (simp [*, errW_none, errW_some] <;> rfl), by repeat (first | (with_reducible first | exact HB.out | apply below_alloc | apply pw_below_drewN | apply below_drew1 | refine below_set ?_ GE819.out) | exact HB.out)⟩

end Go.Proofs.Ytdhiijleafcfcaa.T
