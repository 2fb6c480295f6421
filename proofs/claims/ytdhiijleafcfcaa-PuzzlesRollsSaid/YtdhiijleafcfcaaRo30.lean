/- Roll: where the ball lies behind moves. -/
import Derived.Test.YtdhiijleafcfcaaT0
import Derived.Test.YtdhiijleafcfcaaNm
import Derived.Test.YtdhiijleafcfcaaTgr
namespace Go.Proofs.Ytdhiijleafcfcaa.T
open Go.RowKit Go.Proofs.YtdhiijleafcfcaaW.PrintWords Go.Proofs.YtdhiijleafcfcaaW.PrintLast Go.Proofs.YtdhiijleafcfcaaW.PrintMore
attribute [local go_sem] max2_int min2_int max_two min_two max_three min_three max_four min_four
set_option linter.unusedVariables false
set_option linter.unusedSimpArgs false

def rollAll (k : Nat) (a0 a1 : Int) (l : List Bool) (a3 a4 : Int) : Int → List Int → Option Int
 | at_, [] => some at_
 | at_, s :: t => (puzzles_maze_roll.f k a0 a1 a0 a1 l a3 a4 at_ s).bind fun x => rollAll k a0 a1 l a3 a4 x t
def puzzles_Roll.f (k : Nat) (a0 a1 : Int) (l : List Bool) (a3 a4 : Int) (mv : List Int) : Option (Int × Int) :=
 if mazeB a0 a1 l a3 a4 = true then (if (mv.length : Int) > 200 then some (0, 1) else (cf84.f mv).bind fun b => if b = true then some (0, 1) else (rollAll k a0 a1 l a3 a4 a3 mv).bind fun r => some (r, 0)) else some (0, 30)
/-- What the loop keeps. -/
structure RoS (w : World) (b : Nat) (A : Option Addr) (c : Nat) (l : List Bool) (a0 a1 a3 a4 : Int) (B : Option Addr) (mv : List Int) (V : World) : Prop where
 n1 : V.heap[b]? = some (.cells #[.int .i64 a0, .int .i64 a1, .int .i64 a0, .int .i64 a1, .slice A l.length c, .int .i64 a3, .int .i64 a4] 99 (0, 0))
 hr : Kd.C Kd.bool V A l.length l
 hm : Kd.C (Kd.int .i64) V B mv.length mv
 hb : Below w.heap.size w V
section
variable {w : World} {b : Nat} {A : Option Addr} {c : Nat} {l : List Bool} {a0 a1 a3 a4 : Int} {B : Option Addr} {mv : List Int} {V V' : World}
theorem RoS.below (h : RoS w b A c l a0 a1 a3 a4 B mv V) (hb : Below V.heap.size V V') : RoS w b A c l a0 a1 a3 a4 B mv V' :=
 ⟨(hb.block _ (blk_lt h.n1)).trans h.n1, Kd.C_below h.hr hb, Kd.C_below h.hm hb, h.hb.trans (hb.mono h.hb.size)⟩
end
set_option maxHeartbeats 2000000 in
set_option maxRecDepth 100000 in
theorem puzzles_Roll.calls (k : Nat) (a0 a1 : Int) (A : Option Addr) (c : Nat) (l : List Bool) (a3 a4 : Int) (B : Option Addr) (cm : Nat) (mv : List Int) (r1 r2 : Int) (w : World) (hr : Kd.C Kd.bool w A l.length l) (hc : l.length ≤ c) (hm : Kd.C (Kd.int .i64) w B mv.length mv) (hcm : mv.length ≤ cm)
  (h : puzzles_Roll.f k a0 a1 l a3 a4 mv = some (r1, r2)) :
  Calls Try.prog 30 #[.agg #[.int .i64 a0, .int .i64 a1, .slice A l.length c, .int .i64 a3, .int .i64 a4], .slice B mv.length cm] w fun e w' => e = .returned (.tuple #[.int .i64 r1, .int .i64 r2]) ∧ Below w.heap.size w w' := by
 have hu39 := Try.underlying39
 have hu99 := Try.underlying99
 have HM := Aside0.mk (fun V => newMaze_calls A c l a0 a1 a3 a4 V)
 have HC := Aside0.mk hc
 have HR := Aside0.mk hr
 have HMV := Aside0.mk hm
 have HCM := Aside0.mk hcm
 unfold puzzles_Roll.f at h
 obtain ⟨bm, hbm⟩ : ∃ bm, mazeB a0 a1 l a3 a4 = bm := ⟨_, rfl⟩
 rw [hbm] at h HM
 clear hbm hr hc hm hcm
 cases bm with
 | false =>
  rw [if_neg (by decide)] at h
  cases h
  go_enter Try.func30, Try.ntmps30
  go_wp2_with (first | (go_at_call 83; refine Calls.mono (HM.out _ (Kd.C_alloc HR.out _) HC.out) ?_; rintro e w1 ⟨rfl, hb⟩))
  go_ret2
  exact ⟨rfl, below_alloc (Below.trans (below_alloc (Below.refl _ _) _) (hb.mono (by simp))) _⟩
 | true =>
  rw [if_pos rfl] at h
  have hmx := Kd.C_max HMV.out
  by_cases h200 : (mv.length : Int) > 200
  ·rw [if_pos h200] at h
   cases h
   have e200 : decide ((mv.length : Int) > 200) = true := decide_eq_true h200
   have e201 : decide (200 < (mv.length : Int)) = true := decide_eq_true h200
   go_enter Try.func30, Try.ntmps30
   go_wp2_with (first | (go_at_call 83; refine Calls.mono (HM.out _ (Kd.C_alloc HR.out _) HC.out) ?_; rintro e w1 ⟨rfl, hb⟩))
   go_ret2
   exact ⟨rfl, below_alloc (Below.trans (below_alloc (Below.refl _ _) _) (hb.mono (by simp))) _⟩
  ·rw [if_neg h200] at h
   have e200 : decide ((mv.length : Int) > 200) = false := decide_eq_false h200
   have e201 : decide (200 < (mv.length : Int)) = false := decide_eq_false h200
   obtain ⟨b84, h84, h⟩ := Option.bind_eq_some_iff.mp h
   have H84 := Aside0.mk h84
   clear h84
   cases b84 with
   | true =>
    rw [if_pos rfl] at h
    cases h
    go_enter Try.func30, Try.ntmps30
    go_wp2_with (first | (go_at_call 83; refine Calls.mono (HM.out _ (Kd.C_alloc HR.out _) HC.out) ?_; rintro e w1 ⟨rfl, hb⟩; have HB := Aside0.mk hb; clear hb) | (go_at_call 68; refine Calls.mono (cf84.calls B cm mv true _ (Kd.C_alloc (Kd.C_below (Kd.C_alloc HMV.out _) HB.out) _) HCM.out H84.out) ?_; rintro e w2 ⟨rfl, ⟨q, rfl⟩⟩))
    go_ret2
    exact ⟨rfl, pw_below_drewN (below_alloc (Below.trans (below_alloc (Below.refl _ _) _) (HB.out.mono (by simp))) _) q⟩
   | false =>
    rw [if_neg (by decide)] at h
    obtain ⟨r, hroll, h⟩ := Option.bind_eq_some_iff.mp h
    cases h
    have HRL := Aside0.mk hroll
    clear hroll
    go_enter Try.func30, Try.ntmps30
    go_wp2_with (first | (go_at_call 83; refine Calls.mono (HM.out _ (Kd.C_alloc HR.out _) HC.out) ?_; rintro e w1 ⟨rfl, hb⟩; have HB := Aside0.mk hb; have hn0 := (hb.block w.heap.size (by simp)).trans (World.alloc_heap_new w _); have hc0 := blk_cell hn0 3; have hlt0 := blk_lt hn0; simp only [List.getElem?_toArray, List.getElem?_cons_zero, List.getElem?_cons_succ] at hc0; have HN0 := Aside0.mk hn0; clear hb hn0) | (go_at_call 68; refine Calls.mono (cf84.calls B cm mv false _ (Kd.C_alloc (Kd.C_below (Kd.C_alloc HMV.out _) HB.out) _) HCM.out H84.out) ?_; rintro e w2 ⟨rfl, ⟨q, rfl⟩⟩))
    have hW : RoS w w1.heap.size A c l a0 a1 a3 a4 B mv ((w1.alloc (.cells #[.int .i64 a0, .int .i64 a1, .int .i64 a0, .int .i64 a1, .slice A l.length c, .int .i64 a3, .int .i64 a4] 99)).drewN q) :=
     ⟨World.alloc_heap_new w1 _, Kd.C_drewN (Kd.C_alloc (Kd.C_below (Kd.C_alloc HR.out _) HB.out) _) q, Kd.C_drewN (Kd.C_alloc (Kd.C_below (Kd.C_alloc HMV.out _) HB.out) _) q, pw_below_drewN (below_alloc (Below.trans (below_alloc (Below.refl _ _) _) (HB.out.mono (by simp))) _) q⟩
    have HW := Aside0.mk hW
    clear hW
    go_loopg [8, 10, 29] (mv.length + 1) (fun gg v8 v10 v29 wr => ∃ (i : Nat) (at_ : Int), i ≤ mv.length ∧ mv.length - i < gg ∧ v8 = .int .i64 at_ ∧ v29 = .int .i64 (i : Int) ∧ Aside0 (RoS w w1.heap.size A c l a0 a1 a3 a4 B mv wr) ∧ Aside0 (rollAll k a0 a1 l a3 a4 at_ (mv.drop i) = some r1))
    case atStart => exact ⟨0, a3, by omega, by omega, rfl, rfl, HW, ⟨by rw [List.drop_zero]; exact HRL.out⟩⟩
    case round =>
     clear HW HRL hc0 hlt0 HN0
     obtain ⟨i, at_, hi, hg, rfl, rfl, HS, HL⟩ := hrel
     by_cases hlt : i < mv.length
     ·have hilt : (i : Int) < (mv.length : Int) := by omega
      have w1' : IntKind.i64.wrap ((i : Int) + 1) = (i : Int) + 1 := IntWalk.i64_in _ (by omega)
      have hi1 : i + 1 ≤ mv.length := by omega
      have hg1 : mv.length - (i + 1) < gk - 1 := by omega
      have hg2 : gk - 1 < gk := by omega
      have HCA := Aside0.mk (show ((i + 1 : Nat) : Int) = (i : Int) + 1 by omega)
      obtain ⟨ad, ea, hca⟩ := Kd.at_int HS.out.hm (i : Int) (by omega) hilt
      have hl := HL.out
      rw [List.drop_eq_getElem_cons hlt] at hl
      unfold rollAll at hl
      obtain ⟨x, hx1, hx2⟩ := Option.bind_eq_some_iff.mp hl
      have hrd : rd mv (i : Int) = mv[i] := by unfold rd; rw [Int.toNat_natCast, List.getD_eq_getElem?_getD, List.getElem?_eq_getElem hlt]; rfl
      rw [hrd] at hca
      obtain ⟨s, hs⟩ : ∃ s, mv[i] = s := ⟨_, rfl⟩
      rw [hs] at hca hx1
      have HX1 := Aside0.mk hx1
      have HX2 := Aside0.mk hx2
      have hcell := fun j => blk_cell HS.out.n1 j
      have x0 := hcell 0
      have x1 := hcell 1
      have x2 := hcell 2
      have x3 := hcell 3
      have x4 := hcell 4
      have x5 := hcell 5
      have x6 := hcell 6
      simp only [List.getElem?_toArray, List.getElem?_cons_zero, List.getElem?_cons_succ] at x0 x1 x2 x3 x4 x5 x6
      rw [Int.toNat_natCast] at hca
      subst ea
      clear hl hx1 hx2 hcell hrd hs HL
      go_wp2_with (go_at_call 85; refine Calls.mono (puzzles_maze_roll.calls k a0 a1 a0 a1 A c l a3 a4 at_ s x _ HS.out.hr HC.out HX1.out) ?_; rintro e w3 ⟨rfl, hb3⟩)
      go_roundg (gk - 1)
      case measure => exact hg2
      case rel => exact ⟨i + 1, x, hi1, hg1, rfl, by rw [HCA.out], ⟨HS.out.below hb3⟩, HX2⟩
     ·have hnlt : ¬ (i : Int) < (mv.length : Int) := by omega
      have hdrop : mv.drop i = [] := List.drop_of_length_le (by omega)
      have hl := HL.out
      rw [hdrop] at hl
      unfold rollAll at hl
      cases hl
      clear HL hdrop
      go_wp2
      go_ret2
      exact ⟨rfl, HS.out.hb⟩
theorem rollAll_mono (a0 a1 : Int) (l : List Bool) (a3 a4 : Int) (k : Nat) : ∀ (mv : List Int) (at_ : Int), LeO (rollAll k a0 a1 l a3 a4 at_ mv) (rollAll (k + 1) a0 a1 l a3 a4 at_ mv)
 | [], _ => LeO.refl _
 | s :: t, at_ => by
  unfold rollAll
  exact LeO.bind (puzzles_maze_roll.mono _ _ _ _ _ _ _ _ _ _) (fun x => rollAll_mono a0 a1 l a3 a4 k t x)
theorem puzzles_Roll.mono : ∀ a0 a1 l a3 a4 mv k, LeO (puzzles_Roll.f k a0 a1 l a3 a4 mv) (puzzles_Roll.f (k + 1) a0 a1 l a3 a4 mv) := by
 intro a0 a1 l a3 a4 mv k
 unfold puzzles_Roll.f
 exact LeO.ite (LeO.ite (LeO.refl _) (LeO.bind (LeO.refl _) (fun _ => LeO.ite (LeO.refl _) (LeO.bind (rollAll_mono _ _ _ _ _ _ _ _) (fun _ => LeO.refl _))))) (LeO.refl _)

end Go.Proofs.Ytdhiijleafcfcaa.T
