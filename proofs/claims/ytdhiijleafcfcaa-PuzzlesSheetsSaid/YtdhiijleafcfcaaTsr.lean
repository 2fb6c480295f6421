-- PRINTED by print.py (a twelfth state) out of the translation. Not trusted: Lean checks it.
import Derived.Test.YtdhiijleafcfcaaT0
import Derived.Test.YtdhiijleafcfcaaTw
import Derived.Test.YtdhiijleafcfcaaTlr
namespace Go.Proofs.Ytdhiijleafcfcaa.T
open Go.RowKit Go.Proofs.YtdhiijleafcfcaaW.PrintWords Go.Proofs.YtdhiijleafcfcaaW.PrintLast Go.Proofs.YtdhiijleafcfcaaW.PrintMore
attribute [local go_sem] max2_int min2_int max_two min_two max_three min_three max_four min_four   -- for this text's walks alone
set_option linter.unusedVariables false
set_option linter.unusedSimpArgs false

/-! ### padlockref03_CheckSheet: function 144 -/
mutual
def padlockref03_CheckSheet.l0 : Nat → List ByteArray → Int → Option (Int)
 | 0, _, _ => none
 | k + 1, x0, x3 => if x3 < (x0.length : Int) then (if 0 ≤ x3 then (if 0 < (x0.length : Int) then (if ((rdOf ByteArray.empty x0 x3).size : Int) = ((rdOf ByteArray.empty x0 0).size : Int) then ((padlockref03_Within.f ((rdOf ByteArray.empty x0 x3).size : Int) 1 8).bind fun t612 => (padlockref03_CheckSheet.j1 k x0 x3 (!t612))) else (padlockref03_CheckSheet.j1 k x0 x3 true)) else (none)) else (none)) else (some 0)
def padlockref03_CheckSheet.j1 : Nat → List ByteArray → Int → Bool → Option (Int)
 | 0, _, _, _ => none
 | k + 1, x0, x3, x33 => if x33 = true then (some 30) else (padlockref03_CheckSheet.l1 k x0 x3 0)
def padlockref03_CheckSheet.l1 : Nat → List ByteArray → Int → Int → Option (Int)
 | 0, _, _, _ => none
 | k + 1, x0, x3, x4 => if 0 ≤ x3 then (if x3 < (x0.length : Int) then (if x4 < ((rdOf ByteArray.empty x0 x3).size : Int) then (if 0 ≤ x4 then ((padlockref03_letter.f (bt (rdOf ByteArray.empty x0 x3) x4)).bind fun t615 => (if t615 = true then (padlockref03_CheckSheet.l1 k x0 x3 (wrap64 (x4 + 1))) else (if (bt (rdOf ByteArray.empty x0 x3) x4) = 46 then (padlockref03_CheckSheet.l1 k x0 x3 (wrap64 (x4 + 1))) else (some 30)))) else (none)) else (padlockref03_CheckSheet.l0 k x0 (wrap64 (x3 + 1)))) else (none)) else (none)
end
def padlockref03_CheckSheet.f (k : Nat) (l0 : List ByteArray) : Option (Int) := (padlockref03_Within.f (l0.length : Int) 1 8).bind fun t608 => (if t608 = true then (padlockref03_CheckSheet.l0 k l0 0) else (some 30))
theorem padlockref03_CheckSheet.mono_l : ∀ k, (∀ y0 y1, LeO (padlockref03_CheckSheet.l0 k y0 y1) (padlockref03_CheckSheet.l0 (k + 1) y0 y1)) ∧ (∀ y0 y1 y2, LeO (padlockref03_CheckSheet.j1 k y0 y1 y2) (padlockref03_CheckSheet.j1 (k + 1) y0 y1 y2)) ∧ (∀ y0 y1 y2, LeO (padlockref03_CheckSheet.l1 k y0 y1 y2) (padlockref03_CheckSheet.l1 (k + 1) y0 y1 y2))
 | 0 => ⟨fun _ _ r h => by simp [padlockref03_CheckSheet.l0] at h, fun _ _ _ r h => by simp [padlockref03_CheckSheet.j1] at h, fun _ _ _ r h => by simp [padlockref03_CheckSheet.l1] at h⟩
 | k + 1 => by
  obtain ⟨ih0, ih1, ih2⟩ := padlockref03_CheckSheet.mono_l k
  refine ⟨?_, ?_, ?_⟩
  ·intro y0 y1
   unfold padlockref03_CheckSheet.l0
   repeat' first
   | (with_reducible exact ih0 _ _)
   | (with_reducible exact ih1 _ _ _)
   | (with_reducible exact ih2 _ _ _)
   | (with_reducible exact LeO.refl _)
   | (with_reducible exact LeO.none _)
   | (with_reducible refine LeO.ite ?_ ?_)
   | (with_reducible refine LeO.bind ?_ (fun _ => ?_))
   | exact ih0 _ _
   | exact ih1 _ _ _
   | exact ih2 _ _ _
   | exact LeO.none _
   | refine LeO.ite ?_ ?_
   | refine LeO.bind ?_ (fun _ => ?_)
  ·intro y0 y1 y2
   unfold padlockref03_CheckSheet.j1
   repeat' first
   | (with_reducible exact ih0 _ _)
   | (with_reducible exact ih1 _ _ _)
   | (with_reducible exact ih2 _ _ _)
   | (with_reducible exact LeO.refl _)
   | (with_reducible exact LeO.none _)
   | (with_reducible refine LeO.ite ?_ ?_)
   | (with_reducible refine LeO.bind ?_ (fun _ => ?_))
   | exact ih0 _ _
   | exact ih1 _ _ _
   | exact ih2 _ _ _
   | exact LeO.none _
   | refine LeO.ite ?_ ?_
   | refine LeO.bind ?_ (fun _ => ?_)
  ·intro y0 y1 y2
   unfold padlockref03_CheckSheet.l1
   repeat' first
   | (with_reducible exact ih0 _ _)
   | (with_reducible exact ih1 _ _ _)
   | (with_reducible exact ih2 _ _ _)
   | (with_reducible exact LeO.refl _)
   | (with_reducible exact LeO.none _)
   | (with_reducible refine LeO.ite ?_ ?_)
   | (with_reducible refine LeO.bind ?_ (fun _ => ?_))
   | exact ih0 _ _
   | exact ih1 _ _ _
   | exact ih2 _ _ _
   | exact LeO.none _
   | refine LeO.ite ?_ ?_
   | refine LeO.bind ?_ (fun _ => ?_)
theorem padlockref03_CheckSheet.mono : ∀ a0 k, LeO (padlockref03_CheckSheet.f k a0) (padlockref03_CheckSheet.f (k + 1) a0) := by
 intro a0 k
 obtain ⟨ih0, ih1, ih2⟩ := padlockref03_CheckSheet.mono_l k
 unfold padlockref03_CheckSheet.f
 repeat' first
   | (with_reducible exact ih0 _ _)
   | (with_reducible exact ih1 _ _ _)
   | (with_reducible exact ih2 _ _ _)
   | (with_reducible exact LeO.refl _)
   | (with_reducible exact LeO.none _)
   | (with_reducible refine LeO.ite ?_ ?_)
   | (with_reducible refine LeO.bind ?_ (fun _ => ?_))
   | exact ih0 _ _
   | exact ih1 _ _ _
   | exact ih2 _ _ _
   | exact LeO.none _
   | refine LeO.ite ?_ ?_
   | refine LeO.bind ?_ (fun _ => ?_)
set_option maxHeartbeats 8000000 in
set_option maxRecDepth 100000 in
theorem padlockref03_CheckSheet.calls (k : Nat) (A0 : Option Addr) (c0 : Nat) (l0 : List ByteArray) (r : Int) (w : World) (hr0 : Kd.C Kd.string w A0 l0.length l0) (hc0 : l0.length ≤ c0) (h : padlockref03_CheckSheet.f k l0 = some r) :
  Calls Try.prog 144 #[.slice A0 l0.length c0] w fun e w' => e = .returned (.int .i64 r) ∧ Drawn0 w w' := by
 have HR0 := Aside0.mk hr0
 have HC0 := Aside0.mk hc0
 clear hr0 hc0
 have H : ((padlockref03_Within.f (l0.length : Int) 1 8).bind fun t608 => (if t608 = true then (padlockref03_CheckSheet.l0 k l0 0) else (some 30))) = some r := h
 clear h
 replace H := Option.bind_eq_some_iff.mp H
 obtain ⟨t608, A20, H⟩ := H
 replace H : (if t608 = true then (padlockref03_CheckSheet.l0 k l0 0) else (some 30)) = some r := H
 have A2 := Aside0.mk A20
 clear A20
 by_cases c3 : t608 = true
 ·subst c3
  have H1 : (padlockref03_CheckSheet.l0 k l0 0) = some r := by rw [if_pos rfl] at H; exact H
  clear H
  have H := H1
  clear H1
  have H' := Aside0.mk H
  clear H
  go_enter Try.func144, Try.ntmps144
  go_wp2_with (first | (go_at_call 73; (with_reducible refine (padlockref03_Within.calls (l0.length : Int) 1 8 true _ A2.out).mono ?_); rintro e w' ⟨rfl, ⟨nd, rfl⟩⟩; (try first | exact ⟨rfl, _, World.drewN_drewN _ _ _⟩ | exact ⟨rfl, _, Eq.trans (World.drewN_drewN _ _ _) (congrArg (World.drewN _) (Nat.add_assoc _ _ _))⟩)))
  repeat (go_quiet (first | (go_at_call 73; (with_reducible refine (padlockref03_Within.calls (l0.length : Int) 1 8 true _ A2.out).mono ?_); rintro e w' ⟨rfl, ⟨nd, rfl⟩⟩; (try first | exact ⟨rfl, _, World.drewN_drewN _ _ _⟩ | exact ⟨rfl, _, Eq.trans (World.drewN_drewN _ _ _) (congrArg (World.drewN _) (Nat.add_assoc _ _ _))⟩))); try go_wp2_with (first | (go_at_call 73; (with_reducible refine (padlockref03_Within.calls (l0.length : Int) 1 8 true _ A2.out).mono ?_); rintro e w' ⟨rfl, ⟨nd, rfl⟩⟩; (try first | exact ⟨rfl, _, World.drewN_drewN _ _ _⟩ | exact ⟨rfl, _, Eq.trans (World.drewN_drewN _ _ _) (congrArg (World.drewN _) (Nat.add_assoc _ _ _))⟩))))
  go_loopg [3] k (fun kq v3 w' => ∃ (x3_1 : Int), v3 = .int .i64 x3_1 ∧ Aside0 (padlockref03_CheckSheet.l0 kq l0 x3_1 = some r) ∧ Aside0 (kq ≤ k) ∧ Drawn0 w w')
  case atStart => exact ⟨(0), (by first | rfl | (simp; done) | (simp [*]; done)), H', ⟨Nat.le_refl _⟩, by repeat (first | exact Drawn0.refl _ | apply Drawn0.step)⟩
  case round =>
   clear H'
   try clear c1
   try clear p2
   try clear c3
   obtain ⟨x3_1, rfl, HA, HK1, ⟨m1, rfl⟩⟩ := hrel
   cases gk with
   | zero => exact absurd HA.out (by simp [padlockref03_CheckSheet.l0])
   | succ k1 =>
    have H := HA.out
    clear HA
    simp only [padlockref03_CheckSheet.l0] at H
    by_cases c4 : x3_1 < (l0.length : Int)
    ·rw [if_pos c4] at H
     have c4b0 : decide (x3_1 < (l0.length : Int)) = true := decide_eq_true c4
     clear c4
     have HC5 := Aside0.mk H
     clear H
     go_upto_region 6 with (fail)
     repeat (go_quiet (fail); go_upto_region 6 with (fail))
     go_cut [33] (fun v33 wc => ∃ (kq : Nat) (x33_4 : Bool), v33 = .bool x33_4 ∧ Aside0 (padlockref03_CheckSheet.j1 kq l0 x3_1 x33_4 = some r) ∧ Aside0 (kq ≤ k1) ∧ Drawn0 w wc)
     case first =>
      have H := HC5.out
      clear HC5
      by_cases c6 : 0 ≤ x3_1
      ·rw [if_pos c6] at H
       have c6b0 : decide (0 ≤ x3_1) = true := decide_eq_true c6
       clear c6
       (first | rw [c6b0] | (simp only [i64_w, i32_w]; rw [c6b0]) | skip)
       by_cases c7 : 0 < (l0.length : Int)
       ·rw [if_pos c7] at H
        have c7b0 : decide (0 < (l0.length : Int)) = true := decide_eq_true c7
        have c7b1 : decide (0 < l0.length) = true := decide_eq_true (by omega)
        clear c7
        by_cases c8 : ((rdOf ByteArray.empty l0 x3_1).size : Int) = ((rdOf ByteArray.empty l0 0).size : Int)
        ·rw [if_pos c8] at H
         have c8b0 : (((rdOf ByteArray.empty l0 x3_1).size : Int) == ((rdOf ByteArray.empty l0 0).size : Int)) = true := beq_iff_eq.mpr c8
         have c8b1 : (((rdOf ByteArray.empty l0 x3_1).size : Int) != ((rdOf ByteArray.empty l0 0).size : Int)) = false := bne_eq_false_iff_eq.mpr c8
         have c8b2 : ((rdOf ByteArray.empty l0 x3_1).size == (rdOf ByteArray.empty l0 0).size) = true := by first | simpa using c8 | (simp at c8 ⊢; omega)
         clear c8
         replace H := Option.bind_eq_some_iff.mp H
         obtain ⟨t612, A90, H⟩ := H
         replace H : (padlockref03_CheckSheet.j1 k1 l0 x3_1 (!t612)) = some r := H
         have A9 := Aside0.mk A90
         clear A90
         have H' := Aside0.mk H
         clear H
         have p609 : 0 ≤ (x3_1 : Int) := of_decide_eq_true (by first | (with_reducible assumption) | assumption)
         have q609 : x3_1 < (l0.length : Int) := of_decide_eq_true (by first | (with_reducible assumption) | assumption)
         obtain ⟨ad609, e609, hx609_0⟩ := Kd.at_string HR0.out x3_1 p609 q609
         cases e609
         replace p609 := eq_true p609
         replace q609 := eq_true q609
         have p610 : 0 ≤ (0 : Int) := (by omega)
         have q610 : 0 < (l0.length : Int) := of_decide_eq_true (by first | (with_reducible assumption) | assumption)
         obtain ⟨ad610, e610, hx610_0⟩ := Kd.at_string HR0.out 0 p610 q610
         obtain rfl : ad609 = ad610 := (by injection e610)
         have qi610 : (0 < l0.length) = True := eq_true (by omega)
         (try rw [show ((0 : Int)).toNat = 0 from rfl] at hx610_0)
         (try rw [Addr.add_zero'] at hx610_0)
         replace p610 := eq_true p610
         replace q610 := eq_true q610
         have p611 : 0 ≤ (x3_1 : Int) := of_decide_eq_true (by first | (with_reducible assumption) | assumption)
         have q611 : x3_1 < (l0.length : Int) := of_decide_eq_true (by first | (with_reducible assumption) | assumption)
         obtain ⟨ad611, e611, hx611_0⟩ := Kd.at_string HR0.out x3_1 p611 q611
         obtain rfl : ad609 = ad611 := (by injection e611)
         replace p611 := eq_true p611
         replace q611 := eq_true q611
         go_wp2_with (first | (go_at_call 73; (with_reducible refine (padlockref03_Within.calls ((rdOf ByteArray.empty l0 x3_1).size : Int) 1 8 t612 _ A9.out).mono ?_); rintro e w' ⟨rfl, ⟨nd, rfl⟩⟩; (try first | exact ⟨rfl, _, World.drewN_drewN _ _ _⟩ | exact ⟨rfl, _, Eq.trans (World.drewN_drewN _ _ _) (congrArg (World.drewN _) (Nat.add_assoc _ _ _))⟩)))
         repeat (go_quiet (first | (go_at_call 73; (with_reducible refine (padlockref03_Within.calls ((rdOf ByteArray.empty l0 x3_1).size : Int) 1 8 t612 _ A9.out).mono ?_); rintro e w' ⟨rfl, ⟨nd, rfl⟩⟩; (try first | exact ⟨rfl, _, World.drewN_drewN _ _ _⟩ | exact ⟨rfl, _, Eq.trans (World.drewN_drewN _ _ _) (congrArg (World.drewN _) (Nat.add_assoc _ _ _))⟩))); try go_wp2_with (first | (go_at_call 73; (with_reducible refine (padlockref03_Within.calls ((rdOf ByteArray.empty l0 x3_1).size : Int) 1 8 t612 _ A9.out).mono ?_); rintro e w' ⟨rfl, ⟨nd, rfl⟩⟩; (try first | exact ⟨rfl, _, World.drewN_drewN _ _ _⟩ | exact ⟨rfl, _, Eq.trans (World.drewN_drewN _ _ _) (congrArg (World.drewN _) (Nat.add_assoc _ _ _))⟩))))
         go_meet
         case rel => exact ⟨_, (!t612), (by first | rfl | (simp; done) | (simp [*]; done)), H', ⟨by have := HK1.out; first | omega | exact Nat.le_refl _⟩, by repeat (first | exact Drawn0.refl _ | apply Drawn0.step)⟩
        ·rw [if_neg c8] at H
         have c8b0 : (((rdOf ByteArray.empty l0 x3_1).size : Int) == ((rdOf ByteArray.empty l0 0).size : Int)) = false := beq_eq_false_iff_ne.mpr c8
         have c8b1 : (((rdOf ByteArray.empty l0 x3_1).size : Int) != ((rdOf ByteArray.empty l0 0).size : Int)) = true := bne_iff_ne.mpr c8
         have c8b2 : ((rdOf ByteArray.empty l0 x3_1).size == (rdOf ByteArray.empty l0 0).size) = false := by first | simpa using c8 | (simp at c8 ⊢; omega)
         have H' := Aside0.mk H
         clear H
         have p609 : 0 ≤ (x3_1 : Int) := of_decide_eq_true (by first | (with_reducible assumption) | assumption)
         have q609 : x3_1 < (l0.length : Int) := of_decide_eq_true (by first | (with_reducible assumption) | assumption)
         obtain ⟨ad609, e609, hx609_0⟩ := Kd.at_string HR0.out x3_1 p609 q609
         cases e609
         replace p609 := eq_true p609
         replace q609 := eq_true q609
         have p610 : 0 ≤ (0 : Int) := (by omega)
         have q610 : 0 < (l0.length : Int) := of_decide_eq_true (by first | (with_reducible assumption) | assumption)
         obtain ⟨ad610, e610, hx610_0⟩ := Kd.at_string HR0.out 0 p610 q610
         obtain rfl : ad609 = ad610 := (by injection e610)
         have qi610 : (0 < l0.length) = True := eq_true (by omega)
         (try rw [show ((0 : Int)).toNat = 0 from rfl] at hx610_0)
         (try rw [Addr.add_zero'] at hx610_0)
         replace p610 := eq_true p610
         replace q610 := eq_true q610
         go_wp2
         repeat (go_quiet (fail); try go_wp2)
         go_meet
         case rel => exact ⟨_, (true), (by first | rfl | (simp; done) | (simp [*]; done)), H', ⟨by have := HK1.out; first | omega | exact Nat.le_refl _⟩, by repeat (first | exact Drawn0.refl _ | apply Drawn0.step)⟩
       ·rw [if_neg c7] at H
        exact absurd H (by simp)
      ·rw [if_neg c6] at H
       exact absurd H (by simp)
     case rest =>
      clear HC5
      try clear c1
      try clear p2
      try clear c3
      try clear c4
      try clear c4b0
      try clear c6
      try clear c6b0
      try clear p6
      try clear q6
      try clear hx6
      try clear qi6
      try clear c7
      try clear c7b0
      try clear c7b1
      try clear c8
      try clear c8b0
      try clear c8b1
      try clear c8b2
      try clear hx609_0
      try clear hx610_0
      try clear hx611_0
      try clear p2
      try clear p609
      try clear p610
      try clear p611
      try clear q609
      try clear q610
      try clear q611
      obtain ⟨kq, x33_4, rfl, HA, HJ4, ⟨mc4, rfl⟩⟩ := hcut
      cases kq with
      | zero => exact absurd HA.out (by simp [padlockref03_CheckSheet.j1])
      | succ kj4 =>
       have H := HA.out
       clear HA
       simp only [padlockref03_CheckSheet.j1] at H
       by_cases c10 : x33_4 = true
       ·subst c10
        have H1 : (some 30) = some r := by rw [if_pos rfl] at H; exact H
        clear H
        have H := H1
        clear H1
        obtain rfl := Option.some.inj H
        go_wp2
        repeat (go_quiet (fail); try go_wp2)
        go_ret
        exact ⟨by first | rfl | (simp; done) | (simp [*]; done), by repeat (first | exact Drawn0.refl _ | apply Drawn0.step)⟩
       ·replace c10 := Bool.eq_false_iff.mpr c10
        subst c10
        have H1 : (padlockref03_CheckSheet.l1 kj4 l0 x3_1 0) = some r := by rw [if_neg (show ¬ (false = true) by decide)] at H; exact H
        clear H
        have H := H1
        clear H1
        have H' := Aside0.mk H
        clear H
        go_wp2
        repeat (go_quiet (fail); try go_wp2)
        go_loopg [4] kj4 (fun kq v4 w' => ∃ (x4_3 : Int), v4 = .int .i64 x4_3 ∧ Aside0 (padlockref03_CheckSheet.l1 kq l0 x3_1 x4_3 = some r) ∧ Aside0 (kq ≤ kj4) ∧ Drawn0 w w')
        case atStart => exact ⟨(0), (by first | rfl | (simp; done) | (simp [*]; done)), H', ⟨Nat.le_refl _⟩, by repeat (first | exact Drawn0.refl _ | apply Drawn0.step)⟩
        case round =>
         clear H'
         try clear c1
         try clear p2
         try clear c3
         try clear c4
         try clear c4b0
         try clear c6
         try clear c6b0
         try clear p6
         try clear q6
         try clear hx6
         try clear qi6
         try clear c7
         try clear c7b0
         try clear c7b1
         try clear c8
         try clear c8b0
         try clear c8b1
         try clear c8b2
         try clear c10
         try clear hx609_0
         try clear hx610_0
         try clear hx611_0
         try clear p2
         try clear p6
         try clear p609
         try clear p610
         try clear p611
         try clear q6
         try clear q609
         try clear q610
         try clear q611
         obtain ⟨x4_3, rfl, HA, HK3, ⟨m3, rfl⟩⟩ := hrel
         cases gk with
         | zero => exact absurd HA.out (by simp [padlockref03_CheckSheet.l1])
         | succ k3 =>
          have H := HA.out
          clear HA
          simp only [padlockref03_CheckSheet.l1] at H
          by_cases c11 : 0 ≤ x3_1
          ·rw [if_pos c11] at H
           have c11b0 : decide (0 ≤ x3_1) = true := decide_eq_true c11
           clear c11
           by_cases c12 : x3_1 < (l0.length : Int)
           ·rw [if_pos c12] at H
            have c12b0 : decide (x3_1 < (l0.length : Int)) = true := decide_eq_true c12
            clear c12
            by_cases c13 : x4_3 < ((rdOf ByteArray.empty l0 x3_1).size : Int)
            ·rw [if_pos c13] at H
             have c13b0 : decide (x4_3 < ((rdOf ByteArray.empty l0 x3_1).size : Int)) = true := decide_eq_true c13
             clear c13
             by_cases c14 : 0 ≤ x4_3
             ·rw [if_pos c14] at H
              have c14b0 : decide (0 ≤ x4_3) = true := decide_eq_true c14
              clear c14
              replace H := Option.bind_eq_some_iff.mp H
              obtain ⟨t615, A160, H⟩ := H
              replace H : (if t615 = true then (padlockref03_CheckSheet.l1 k3 l0 x3_1 (wrap64 (x4_3 + 1))) else (if (bt (rdOf ByteArray.empty l0 x3_1) x4_3) = 46 then (padlockref03_CheckSheet.l1 k3 l0 x3_1 (wrap64 (x4_3 + 1))) else (some 30))) = some r := H
              have A16 := Aside0.mk A160
              clear A160
              by_cases c17 : t615 = true
              ·subst c17
               have H1 : (padlockref03_CheckSheet.l1 k3 l0 x3_1 (wrap64 (x4_3 + 1))) = some r := by rw [if_pos rfl] at H; exact H
               clear H
               have H := H1
               clear H1
               have H' := Aside0.mk H
               clear H
               have p613 : 0 ≤ (x3_1 : Int) := of_decide_eq_true (by first | (with_reducible assumption) | assumption)
               have q613 : x3_1 < (l0.length : Int) := of_decide_eq_true (by first | (with_reducible assumption) | assumption)
               obtain ⟨ad613, e613, hx613_0⟩ := Kd.at_string HR0.out x3_1 p613 q613
               cases e613
               replace p613 := eq_true p613
               replace q613 := eq_true q613
               have p614 : 0 ≤ (x3_1 : Int) := of_decide_eq_true (by first | (with_reducible assumption) | assumption)
               have q614 : x3_1 < (l0.length : Int) := of_decide_eq_true (by first | (with_reducible assumption) | assumption)
               obtain ⟨ad614, e614, hx614_0⟩ := Kd.at_string HR0.out x3_1 p614 q614
               obtain rfl : ad613 = ad614 := (by injection e614)
               replace p614 := eq_true p614
               replace q614 := eq_true q614
               have p15 : 0 ≤ (x4_3 : Int) := of_decide_eq_true (by first | (with_reducible assumption) | assumption)
               have q15 : x4_3 < ((rdOf ByteArray.empty l0 x3_1).size : Int) := of_decide_eq_true (by first | (with_reducible assumption) | assumption)
               have hx15 := bt_at (rdOf ByteArray.empty l0 x3_1) x4_3
               replace p15 := eq_true p15
               replace q15 := eq_true q15
               go_wp2_with (first | (go_at_call 121; (with_reducible refine (padlockref03_letter.calls (bt (rdOf ByteArray.empty l0 x3_1) x4_3) true _ A16.out).mono ?_); rintro e w' ⟨rfl, ⟨nd, rfl⟩⟩; (try first | exact ⟨rfl, _, World.drewN_drewN _ _ _⟩ | exact ⟨rfl, _, Eq.trans (World.drewN_drewN _ _ _) (congrArg (World.drewN _) (Nat.add_assoc _ _ _))⟩)))
               repeat (go_quiet (first | (go_at_call 121; (with_reducible refine (padlockref03_letter.calls (bt (rdOf ByteArray.empty l0 x3_1) x4_3) true _ A16.out).mono ?_); rintro e w' ⟨rfl, ⟨nd, rfl⟩⟩; (try first | exact ⟨rfl, _, World.drewN_drewN _ _ _⟩ | exact ⟨rfl, _, Eq.trans (World.drewN_drewN _ _ _) (congrArg (World.drewN _) (Nat.add_assoc _ _ _))⟩))); try go_wp2_with (first | (go_at_call 121; (with_reducible refine (padlockref03_letter.calls (bt (rdOf ByteArray.empty l0 x3_1) x4_3) true _ A16.out).mono ?_); rintro e w' ⟨rfl, ⟨nd, rfl⟩⟩; (try first | exact ⟨rfl, _, World.drewN_drewN _ _ _⟩ | exact ⟨rfl, _, Eq.trans (World.drewN_drewN _ _ _) (congrArg (World.drewN _) (Nat.add_assoc _ _ _))⟩))))
               go_roundg k3
               case measure => have := HK1.out; have := HJ4.out; have := HK3.out; omega
               case rel => exact ⟨(wrap64 (x4_3 + 1)), (by first | rfl | (simp; done) | (simp [*]; done)), H', ⟨by have := HK1.out; have := HJ4.out; have := HK3.out; omega⟩, by repeat (first | exact Drawn0.refl _ | apply Drawn0.step)⟩
              ·replace c17 := Bool.eq_false_iff.mpr c17
               subst c17
               have H1 : (if (bt (rdOf ByteArray.empty l0 x3_1) x4_3) = 46 then (padlockref03_CheckSheet.l1 k3 l0 x3_1 (wrap64 (x4_3 + 1))) else (some 30)) = some r := by rw [if_neg (show ¬ (false = true) by decide)] at H; exact H
               clear H
               have H := H1
               clear H1
               by_cases c19 : (bt (rdOf ByteArray.empty l0 x3_1) x4_3) = 46
               ·rw [if_pos c19] at H
                have c19b0 : ((bt (rdOf ByteArray.empty l0 x3_1) x4_3) == 46) = true := beq_iff_eq.mpr c19
                have c19b1 : ((bt (rdOf ByteArray.empty l0 x3_1) x4_3) != 46) = false := bne_eq_false_iff_eq.mpr c19
                clear c19
                have H' := Aside0.mk H
                clear H
                have p613 : 0 ≤ (x3_1 : Int) := of_decide_eq_true (by first | (with_reducible assumption) | assumption)
                have q613 : x3_1 < (l0.length : Int) := of_decide_eq_true (by first | (with_reducible assumption) | assumption)
                obtain ⟨ad613, e613, hx613_0⟩ := Kd.at_string HR0.out x3_1 p613 q613
                cases e613
                replace p613 := eq_true p613
                replace q613 := eq_true q613
                have p614 : 0 ≤ (x3_1 : Int) := of_decide_eq_true (by first | (with_reducible assumption) | assumption)
                have q614 : x3_1 < (l0.length : Int) := of_decide_eq_true (by first | (with_reducible assumption) | assumption)
                obtain ⟨ad614, e614, hx614_0⟩ := Kd.at_string HR0.out x3_1 p614 q614
                obtain rfl : ad613 = ad614 := (by injection e614)
                replace p614 := eq_true p614
                replace q614 := eq_true q614
                have p15 : 0 ≤ (x4_3 : Int) := of_decide_eq_true (by first | (with_reducible assumption) | assumption)
                have q15 : x4_3 < ((rdOf ByteArray.empty l0 x3_1).size : Int) := of_decide_eq_true (by first | (with_reducible assumption) | assumption)
                have hx15 := bt_at (rdOf ByteArray.empty l0 x3_1) x4_3
                replace p15 := eq_true p15
                replace q15 := eq_true q15
                go_wp2_with (first | (go_at_call 121; (with_reducible refine (padlockref03_letter.calls (bt (rdOf ByteArray.empty l0 x3_1) x4_3) false _ A16.out).mono ?_); rintro e w' ⟨rfl, ⟨nd, rfl⟩⟩; (try first | exact ⟨rfl, _, World.drewN_drewN _ _ _⟩ | exact ⟨rfl, _, Eq.trans (World.drewN_drewN _ _ _) (congrArg (World.drewN _) (Nat.add_assoc _ _ _))⟩); have p616 : 0 ≤ (x3_1 : Int) := of_decide_eq_true (by first | (with_reducible assumption) | assumption); have q616 : x3_1 < (l0.length : Int) := of_decide_eq_true (by first | (with_reducible assumption) | assumption); obtain ⟨ad616, e616, hx616_0⟩ := Kd.at_string HR0.out x3_1 p616 q616; obtain rfl : ad613 = ad616 := (by injection e616); replace p616 := eq_true p616; replace q616 := eq_true q616; have p18 : 0 ≤ (x4_3 : Int) := of_decide_eq_true (by first | (with_reducible assumption) | assumption); have q18 : x4_3 < ((rdOf ByteArray.empty l0 x3_1).size : Int) := of_decide_eq_true (by first | (with_reducible assumption) | assumption); have hx18 := bt_at (rdOf ByteArray.empty l0 x3_1) x4_3; replace p18 := eq_true p18; replace q18 := eq_true q18))
                repeat (go_quiet (first | (go_at_call 121; (with_reducible refine (padlockref03_letter.calls (bt (rdOf ByteArray.empty l0 x3_1) x4_3) false _ A16.out).mono ?_); rintro e w' ⟨rfl, ⟨nd, rfl⟩⟩; (try first | exact ⟨rfl, _, World.drewN_drewN _ _ _⟩ | exact ⟨rfl, _, Eq.trans (World.drewN_drewN _ _ _) (congrArg (World.drewN _) (Nat.add_assoc _ _ _))⟩); have p616 : 0 ≤ (x3_1 : Int) := of_decide_eq_true (by first | (with_reducible assumption) | assumption); have q616 : x3_1 < (l0.length : Int) := of_decide_eq_true (by first | (with_reducible assumption) | assumption); obtain ⟨ad616, e616, hx616_0⟩ := Kd.at_string HR0.out x3_1 p616 q616; obtain rfl : ad613 = ad616 := (by injection e616); replace p616 := eq_true p616; replace q616 := eq_true q616; have p18 : 0 ≤ (x4_3 : Int) := of_decide_eq_true (by first | (with_reducible assumption) | assumption); have q18 : x4_3 < ((rdOf ByteArray.empty l0 x3_1).size : Int) := of_decide_eq_true (by first | (with_reducible assumption) | assumption); have hx18 := bt_at (rdOf ByteArray.empty l0 x3_1) x4_3; replace p18 := eq_true p18; replace q18 := eq_true q18)); try go_wp2_with (first | (go_at_call 121; (with_reducible refine (padlockref03_letter.calls (bt (rdOf ByteArray.empty l0 x3_1) x4_3) false _ A16.out).mono ?_); rintro e w' ⟨rfl, ⟨nd, rfl⟩⟩; (try first | exact ⟨rfl, _, World.drewN_drewN _ _ _⟩ | exact ⟨rfl, _, Eq.trans (World.drewN_drewN _ _ _) (congrArg (World.drewN _) (Nat.add_assoc _ _ _))⟩); have p616 : 0 ≤ (x3_1 : Int) := of_decide_eq_true (by first | (with_reducible assumption) | assumption); have q616 : x3_1 < (l0.length : Int) := of_decide_eq_true (by first | (with_reducible assumption) | assumption); obtain ⟨ad616, e616, hx616_0⟩ := Kd.at_string HR0.out x3_1 p616 q616; obtain rfl : ad613 = ad616 := (by injection e616); replace p616 := eq_true p616; replace q616 := eq_true q616; have p18 : 0 ≤ (x4_3 : Int) := of_decide_eq_true (by first | (with_reducible assumption) | assumption); have q18 : x4_3 < ((rdOf ByteArray.empty l0 x3_1).size : Int) := of_decide_eq_true (by first | (with_reducible assumption) | assumption); have hx18 := bt_at (rdOf ByteArray.empty l0 x3_1) x4_3; replace p18 := eq_true p18; replace q18 := eq_true q18)))
                go_roundg k3
                case measure => have := HK1.out; have := HJ4.out; have := HK3.out; omega
                case rel => exact ⟨(wrap64 (x4_3 + 1)), (by first | rfl | (simp; done) | (simp [*]; done)), H', ⟨by have := HK1.out; have := HJ4.out; have := HK3.out; omega⟩, by repeat (first | exact Drawn0.refl _ | apply Drawn0.step)⟩
               ·rw [if_neg c19] at H
                have c19b0 : ((bt (rdOf ByteArray.empty l0 x3_1) x4_3) == 46) = false := beq_eq_false_iff_ne.mpr c19
                have c19b1 : ((bt (rdOf ByteArray.empty l0 x3_1) x4_3) != 46) = true := bne_iff_ne.mpr c19
                obtain rfl := Option.some.inj H
                have p613 : 0 ≤ (x3_1 : Int) := of_decide_eq_true (by first | (with_reducible assumption) | assumption)
                have q613 : x3_1 < (l0.length : Int) := of_decide_eq_true (by first | (with_reducible assumption) | assumption)
                obtain ⟨ad613, e613, hx613_0⟩ := Kd.at_string HR0.out x3_1 p613 q613
                cases e613
                replace p613 := eq_true p613
                replace q613 := eq_true q613
                have p614 : 0 ≤ (x3_1 : Int) := of_decide_eq_true (by first | (with_reducible assumption) | assumption)
                have q614 : x3_1 < (l0.length : Int) := of_decide_eq_true (by first | (with_reducible assumption) | assumption)
                obtain ⟨ad614, e614, hx614_0⟩ := Kd.at_string HR0.out x3_1 p614 q614
                obtain rfl : ad613 = ad614 := (by injection e614)
                replace p614 := eq_true p614
                replace q614 := eq_true q614
                have p15 : 0 ≤ (x4_3 : Int) := of_decide_eq_true (by first | (with_reducible assumption) | assumption)
                have q15 : x4_3 < ((rdOf ByteArray.empty l0 x3_1).size : Int) := of_decide_eq_true (by first | (with_reducible assumption) | assumption)
                have hx15 := bt_at (rdOf ByteArray.empty l0 x3_1) x4_3
                replace p15 := eq_true p15
                replace q15 := eq_true q15
                go_wp2_with (first | (go_at_call 121; (with_reducible refine (padlockref03_letter.calls (bt (rdOf ByteArray.empty l0 x3_1) x4_3) false _ A16.out).mono ?_); rintro e w' ⟨rfl, ⟨nd, rfl⟩⟩; (try first | exact ⟨rfl, _, World.drewN_drewN _ _ _⟩ | exact ⟨rfl, _, Eq.trans (World.drewN_drewN _ _ _) (congrArg (World.drewN _) (Nat.add_assoc _ _ _))⟩); have p616 : 0 ≤ (x3_1 : Int) := of_decide_eq_true (by first | (with_reducible assumption) | assumption); have q616 : x3_1 < (l0.length : Int) := of_decide_eq_true (by first | (with_reducible assumption) | assumption); obtain ⟨ad616, e616, hx616_0⟩ := Kd.at_string HR0.out x3_1 p616 q616; obtain rfl : ad613 = ad616 := (by injection e616); replace p616 := eq_true p616; replace q616 := eq_true q616; have p18 : 0 ≤ (x4_3 : Int) := of_decide_eq_true (by first | (with_reducible assumption) | assumption); have q18 : x4_3 < ((rdOf ByteArray.empty l0 x3_1).size : Int) := of_decide_eq_true (by first | (with_reducible assumption) | assumption); have hx18 := bt_at (rdOf ByteArray.empty l0 x3_1) x4_3; replace p18 := eq_true p18; replace q18 := eq_true q18))
                repeat (go_quiet (first | (go_at_call 121; (with_reducible refine (padlockref03_letter.calls (bt (rdOf ByteArray.empty l0 x3_1) x4_3) false _ A16.out).mono ?_); rintro e w' ⟨rfl, ⟨nd, rfl⟩⟩; (try first | exact ⟨rfl, _, World.drewN_drewN _ _ _⟩ | exact ⟨rfl, _, Eq.trans (World.drewN_drewN _ _ _) (congrArg (World.drewN _) (Nat.add_assoc _ _ _))⟩); have p616 : 0 ≤ (x3_1 : Int) := of_decide_eq_true (by first | (with_reducible assumption) | assumption); have q616 : x3_1 < (l0.length : Int) := of_decide_eq_true (by first | (with_reducible assumption) | assumption); obtain ⟨ad616, e616, hx616_0⟩ := Kd.at_string HR0.out x3_1 p616 q616; obtain rfl : ad613 = ad616 := (by injection e616); replace p616 := eq_true p616; replace q616 := eq_true q616; have p18 : 0 ≤ (x4_3 : Int) := of_decide_eq_true (by first | (with_reducible assumption) | assumption); have q18 : x4_3 < ((rdOf ByteArray.empty l0 x3_1).size : Int) := of_decide_eq_true (by first | (with_reducible assumption) | assumption); have hx18 := bt_at (rdOf ByteArray.empty l0 x3_1) x4_3; replace p18 := eq_true p18; replace q18 := eq_true q18)); try go_wp2_with (first | (go_at_call 121; (with_reducible refine (padlockref03_letter.calls (bt (rdOf ByteArray.empty l0 x3_1) x4_3) false _ A16.out).mono ?_); rintro e w' ⟨rfl, ⟨nd, rfl⟩⟩; (try first | exact ⟨rfl, _, World.drewN_drewN _ _ _⟩ | exact ⟨rfl, _, Eq.trans (World.drewN_drewN _ _ _) (congrArg (World.drewN _) (Nat.add_assoc _ _ _))⟩); have p616 : 0 ≤ (x3_1 : Int) := of_decide_eq_true (by first | (with_reducible assumption) | assumption); have q616 : x3_1 < (l0.length : Int) := of_decide_eq_true (by first | (with_reducible assumption) | assumption); obtain ⟨ad616, e616, hx616_0⟩ := Kd.at_string HR0.out x3_1 p616 q616; obtain rfl : ad613 = ad616 := (by injection e616); replace p616 := eq_true p616; replace q616 := eq_true q616; have p18 : 0 ≤ (x4_3 : Int) := of_decide_eq_true (by first | (with_reducible assumption) | assumption); have q18 : x4_3 < ((rdOf ByteArray.empty l0 x3_1).size : Int) := of_decide_eq_true (by first | (with_reducible assumption) | assumption); have hx18 := bt_at (rdOf ByteArray.empty l0 x3_1) x4_3; replace p18 := eq_true p18; replace q18 := eq_true q18)))
                go_ret
                exact ⟨by first | rfl | (simp; done) | (simp [*]; done), by repeat (first | exact Drawn0.refl _ | apply Drawn0.step)⟩
             ·rw [if_neg c14] at H
              exact absurd H (by simp)
            ·rw [if_neg c13] at H
             have c13b0 : decide (x4_3 < ((rdOf ByteArray.empty l0 x3_1).size : Int)) = false := decide_eq_false c13
             clear c13
             have H' := Aside0.mk H
             clear H
             have p613 : 0 ≤ (x3_1 : Int) := of_decide_eq_true (by first | (with_reducible assumption) | assumption)
             have q613 : x3_1 < (l0.length : Int) := of_decide_eq_true (by first | (with_reducible assumption) | assumption)
             obtain ⟨ad613, e613, hx613_0⟩ := Kd.at_string HR0.out x3_1 p613 q613
             cases e613
             replace p613 := eq_true p613
             replace q613 := eq_true q613
             go_wp2
             repeat (go_quiet (fail); try go_wp2)
             go_roundg k3
             case measure => have := HK1.out; have := HJ4.out; have := HK3.out; omega
             case rel => exact ⟨(wrap64 (x3_1 + 1)), (by first | rfl | (simp; done) | (simp [*]; done)), H', ⟨by have := HK1.out; have := HJ4.out; have := HK3.out; omega⟩, by repeat (first | exact Drawn0.refl _ | apply Drawn0.step)⟩
           ·rw [if_neg c12] at H
            exact absurd H (by simp)
          ·rw [if_neg c11] at H
           exact absurd H (by simp)
    ·rw [if_neg c4] at H
     have c4b0 : decide (x3_1 < (l0.length : Int)) = false := decide_eq_false c4
     clear c4
     obtain rfl := Option.some.inj H
     go_wp2
     repeat (go_quiet (fail); try go_wp2)
     go_ret
     exact ⟨by first | rfl | (simp; done) | (simp [*]; done), by repeat (first | exact Drawn0.refl _ | apply Drawn0.step)⟩
 ·replace c3 := Bool.eq_false_iff.mpr c3
  subst c3
  have H1 : (some 30) = some r := by rw [if_neg (show ¬ (false = true) by decide)] at H; exact H
  clear H
  have H := H1
  clear H1
  obtain rfl := Option.some.inj H
  go_enter Try.func144, Try.ntmps144
  go_wp2_with (first | (go_at_call 73; (with_reducible refine (padlockref03_Within.calls (l0.length : Int) 1 8 false _ A2.out).mono ?_); rintro e w' ⟨rfl, ⟨nd, rfl⟩⟩; (try first | exact ⟨rfl, _, World.drewN_drewN _ _ _⟩ | exact ⟨rfl, _, Eq.trans (World.drewN_drewN _ _ _) (congrArg (World.drewN _) (Nat.add_assoc _ _ _))⟩)))
  repeat (go_quiet (first | (go_at_call 73; (with_reducible refine (padlockref03_Within.calls (l0.length : Int) 1 8 false _ A2.out).mono ?_); rintro e w' ⟨rfl, ⟨nd, rfl⟩⟩; (try first | exact ⟨rfl, _, World.drewN_drewN _ _ _⟩ | exact ⟨rfl, _, Eq.trans (World.drewN_drewN _ _ _) (congrArg (World.drewN _) (Nat.add_assoc _ _ _))⟩))); try go_wp2_with (first | (go_at_call 73; (with_reducible refine (padlockref03_Within.calls (l0.length : Int) 1 8 false _ A2.out).mono ?_); rintro e w' ⟨rfl, ⟨nd, rfl⟩⟩; (try first | exact ⟨rfl, _, World.drewN_drewN _ _ _⟩ | exact ⟨rfl, _, Eq.trans (World.drewN_drewN _ _ _) (congrArg (World.drewN _) (Nat.add_assoc _ _ _))⟩))))
  go_ret
  exact ⟨by first | rfl | (simp; done) | (simp [*]; done), by repeat (first | exact Drawn0.refl _ | apply Drawn0.step)⟩

/-! ### padlockref03_checkSheets: function 107 -/
def padlockref03_checkSheets.f (k : Nat) (l0 : List ByteArray) (l1 : List ByteArray) : Option (Int) := (padlockref03_CheckSheet.f k l0).bind fun t617 => (if t617 = 0 then ((padlockref03_CheckSheet.f k l1).bind fun t618 => (some t618)) else (some t617))
theorem padlockref03_checkSheets.mono : ∀ a0 a1 k, LeO (padlockref03_checkSheets.f k a0 a1) (padlockref03_checkSheets.f (k + 1) a0 a1) := by
 intro a0 a1 k
 unfold padlockref03_checkSheets.f
 repeat' first
   | (with_reducible exact padlockref03_CheckSheet.mono _ _)
   | (with_reducible exact LeO.refl _)
   | (with_reducible exact LeO.none _)
   | (with_reducible refine LeO.ite ?_ ?_)
   | (with_reducible refine LeO.bind ?_ (fun _ => ?_))
   | exact padlockref03_CheckSheet.mono _ _
   | exact LeO.none _
   | refine LeO.ite ?_ ?_
   | refine LeO.bind ?_ (fun _ => ?_)
set_option maxHeartbeats 8000000 in
set_option maxRecDepth 100000 in
theorem padlockref03_checkSheets.calls (k : Nat) (A0 : Option Addr) (c0 : Nat) (l0 : List ByteArray) (A1 : Option Addr) (c1 : Nat) (l1 : List ByteArray) (r : Int) (w : World) (hr0 : Kd.C Kd.string w A0 l0.length l0) (hc0 : l0.length ≤ c0) (hr1 : Kd.C Kd.string w A1 l1.length l1) (hc1 : l1.length ≤ c1) (h : padlockref03_checkSheets.f k l0 l1 = some r) :
  Calls Try.prog 107 #[.slice A0 l0.length c0, .slice A1 l1.length c1] w fun e w' => e = .returned (.int .i64 r) ∧ Drawn0 w w' := by
 have HR0 := Aside0.mk hr0
 have HC0 := Aside0.mk hc0
 clear hr0 hc0
 have HR1 := Aside0.mk hr1
 have HC1 := Aside0.mk hc1
 clear hr1 hc1
 have H : ((padlockref03_CheckSheet.f k l0).bind fun t617 => (if t617 = 0 then ((padlockref03_CheckSheet.f k l1).bind fun t618 => (some t618)) else (some t617))) = some r := h
 clear h
 replace H := Option.bind_eq_some_iff.mp H
 obtain ⟨t617, A30, H⟩ := H
 replace H : (if t617 = 0 then ((padlockref03_CheckSheet.f k l1).bind fun t618 => (some t618)) else (some t617)) = some r := H
 have A3 := Aside0.mk A30
 clear A30
 by_cases c4 : t617 = 0
 ·rw [if_pos c4] at H
  have c4b0 : (t617 == 0) = true := beq_iff_eq.mpr c4
  have c4b1 : (t617 != 0) = false := bne_eq_false_iff_eq.mpr c4
  clear c4
  replace H := Option.bind_eq_some_iff.mp H
  obtain ⟨t618, A50, H⟩ := H
  replace H : (some t618) = some r := H
  have A5 := Aside0.mk A50
  clear A50
  obtain rfl := Option.some.inj H
  go_enter Try.func107, Try.ntmps107
  go_wp2_with (first | ((with_reducible refine gate_callee (f := 144) rfl ?_); refine goesL_ (some 7) rfl rfl Try.func144 (by kernel_rfl) rfl #[.slice A0 l0.length c0] rfl (by (try simp only [List.map_toArray, List.map_cons, List.map_nil]); first | done | rfl | (simp only [List.length_drop, List.length_take]; rfl)) ?_; (with_reducible refine (padlockref03_CheckSheet.calls k _ _ l0 t617 _ ?side1 ?side2 A3.out).mono ?_); (case side1 => repeat (first | exact HR0.out | (with_reducible refine Kd.C_alloc ?_ _) | (with_reducible refine Kd.C_drewN ?_ _) | (with_reducible refine Kd.C_drew ?_))); (case side2 => exact HC0.out); rintro e w' ⟨rfl, ⟨nd, rfl⟩⟩; refine ⟨_, rfl, ?_⟩) | ((with_reducible refine gate_callee (f := 144) rfl ?_); refine goesL_ (some 12) rfl rfl Try.func144 (by kernel_rfl) rfl #[.slice A1 l1.length c1] rfl (by (try simp only [List.map_toArray, List.map_cons, List.map_nil]); first | done | rfl | (simp only [List.length_drop, List.length_take]; rfl)) ?_; (with_reducible refine (padlockref03_CheckSheet.calls k _ _ l1 t618 _ ?side1 ?side2 A5.out).mono ?_); (case side1 => repeat (first | exact HR1.out | (with_reducible refine Kd.C_alloc ?_ _) | (with_reducible refine Kd.C_drewN ?_ _) | (with_reducible refine Kd.C_drew ?_))); (case side2 => exact HC1.out); rintro e w' ⟨rfl, ⟨nd, rfl⟩⟩; refine ⟨_, rfl, ?_⟩))
  go_ret
  exact ⟨by first | rfl | (simp; done) | (simp [*]; done), by repeat (first | exact Drawn0.refl _ | apply Drawn0.step)⟩
 ·rw [if_neg c4] at H
  have c4b0 : (t617 == 0) = false := beq_eq_false_iff_ne.mpr c4
  have c4b1 : (t617 != 0) = true := bne_iff_ne.mpr c4
  obtain rfl := Option.some.inj H
  go_enter Try.func107, Try.ntmps107
  go_wp2_with (first | ((with_reducible refine gate_callee (f := 144) rfl ?_); refine goesL_ (some 7) rfl rfl Try.func144 (by kernel_rfl) rfl #[.slice A0 l0.length c0] rfl (by (try simp only [List.map_toArray, List.map_cons, List.map_nil]); first | done | rfl | (simp only [List.length_drop, List.length_take]; rfl)) ?_; (with_reducible refine (padlockref03_CheckSheet.calls k _ _ l0 t617 _ ?side1 ?side2 A3.out).mono ?_); (case side1 => repeat (first | exact HR0.out | (with_reducible refine Kd.C_alloc ?_ _) | (with_reducible refine Kd.C_drewN ?_ _) | (with_reducible refine Kd.C_drew ?_))); (case side2 => exact HC0.out); rintro e w' ⟨rfl, ⟨nd, rfl⟩⟩; refine ⟨_, rfl, ?_⟩))
  go_ret
  exact ⟨by first | rfl | (simp; done) | (simp [*]; done), by repeat (first | exact Drawn0.refl _ | apply Drawn0.step)⟩

/-! ### padlockref03_quarter: function 145 -/
mutual
def padlockref03_quarter.l0 : Nat → List ByteArray → List ByteArray → Int → Option (List ByteArray)
 | 0, _, _, _ => none
 | k + 1, x0, x3, x4 => if 0 < (x0.length : Int) then (if x4 < ((rdOf ByteArray.empty x0 0).size : Int) then (padlockref03_quarter.l1 k x0 x3 x4 (⟨#[]⟩ : ByteArray) (wrap64 ((x0.length : Int) - 1))) else (some x3)) else (none)
def padlockref03_quarter.l1 : Nat → List ByteArray → List ByteArray → Int → ByteArray → Int → Option (List ByteArray)
 | 0, _, _, _, _, _ => none
 | k + 1, x0, x3, x4, x5, x6 => if x6 ≥ 0 then (if 0 ≤ x6 then (if x6 < (x0.length : Int) then (if 0 ≤ x4 then (if x4 ≤ (wrap64 (x4 + 1)) then (if (wrap64 (x4 + 1)) ≤ ((rdOf ByteArray.empty x0 x6).size : Int) then (if x5.size + ((rdOf ByteArray.empty x0 x6).extract (x4 : Int).toNat ((wrap64 (x4 + 1)) : Int).toNat).size ≤ 9223372036854775807 then (padlockref03_quarter.l1 k x0 x3 x4 (x5 ++ ((rdOf ByteArray.empty x0 x6).extract (x4 : Int).toNat ((wrap64 (x4 + 1)) : Int).toNat)) (wrap64 (x6 - 1))) else (none)) else (none)) else (none)) else (none)) else (none)) else (none)) else (if x3.length < 8796093022208 then (padlockref03_quarter.l0 k x0 (x3 ++ [x5]) (wrap64 (x4 + 1))) else (none))
end
def padlockref03_quarter.f (k : Nat) (l0 : List ByteArray) : Option (List ByteArray) := padlockref03_quarter.l0 k l0 ([] : List ByteArray) 0
theorem padlockref03_quarter.mono_l : ∀ k, (∀ y0 y1 y2, LeO (padlockref03_quarter.l0 k y0 y1 y2) (padlockref03_quarter.l0 (k + 1) y0 y1 y2)) ∧ (∀ y0 y1 y2 y3 y4, LeO (padlockref03_quarter.l1 k y0 y1 y2 y3 y4) (padlockref03_quarter.l1 (k + 1) y0 y1 y2 y3 y4))
 | 0 => ⟨fun _ _ _ r h => by simp [padlockref03_quarter.l0] at h, fun _ _ _ _ _ r h => by simp [padlockref03_quarter.l1] at h⟩
 | k + 1 => by
  obtain ⟨ih0, ih1⟩ := padlockref03_quarter.mono_l k
  refine ⟨?_, ?_⟩
  ·intro y0 y1 y2
   unfold padlockref03_quarter.l0
   repeat' first
   | (with_reducible exact ih0 _ _ _)
   | (with_reducible exact ih1 _ _ _ _ _)
   | (with_reducible exact LeO.refl _)
   | (with_reducible exact LeO.none _)
   | (with_reducible refine LeO.ite ?_ ?_)
   | (with_reducible refine LeO.bind ?_ (fun _ => ?_))
   | exact ih0 _ _ _
   | exact ih1 _ _ _ _ _
   | exact LeO.none _
   | refine LeO.ite ?_ ?_
   | refine LeO.bind ?_ (fun _ => ?_)
  ·intro y0 y1 y2 y3 y4
   unfold padlockref03_quarter.l1
   repeat' first
   | (with_reducible exact ih0 _ _ _)
   | (with_reducible exact ih1 _ _ _ _ _)
   | (with_reducible exact LeO.refl _)
   | (with_reducible exact LeO.none _)
   | (with_reducible refine LeO.ite ?_ ?_)
   | (with_reducible refine LeO.bind ?_ (fun _ => ?_))
   | exact ih0 _ _ _
   | exact ih1 _ _ _ _ _
   | exact LeO.none _
   | refine LeO.ite ?_ ?_
   | refine LeO.bind ?_ (fun _ => ?_)
theorem padlockref03_quarter.mono : ∀ a0 k, LeO (padlockref03_quarter.f k a0) (padlockref03_quarter.f (k + 1) a0) := by
 intro a0 k
 obtain ⟨ih0, ih1⟩ := padlockref03_quarter.mono_l k
 unfold padlockref03_quarter.f
 repeat' first
   | (with_reducible exact ih0 _ _ _)
   | (with_reducible exact ih1 _ _ _ _ _)
   | (with_reducible exact LeO.refl _)
   | (with_reducible exact LeO.none _)
   | (with_reducible refine LeO.ite ?_ ?_)
   | (with_reducible refine LeO.bind ?_ (fun _ => ?_))
   | exact ih0 _ _ _
   | exact ih1 _ _ _ _ _
   | exact LeO.none _
   | refine LeO.ite ?_ ?_
   | refine LeO.bind ?_ (fun _ => ?_)
set_option maxHeartbeats 8000000 in
set_option maxRecDepth 100000 in
theorem padlockref03_quarter.calls (k : Nat) (A0 : Option Addr) (c0 : Nat) (l0 : List ByteArray) (r : List ByteArray) (w : World) (hr0 : Kd.C Kd.string w A0 l0.length l0) (hc0 : l0.length ≤ c0) (h : padlockref03_quarter.f k l0 = some r) :
  Calls Try.prog 145 #[.slice A0 l0.length c0] w fun e w' => ∃ v0_ : Value, e = .returned (v0_) ∧ Kd.R Kd.string 9 w' w.heap.size (fun _ => True) v0_ r ∧ Below w.heap.size w w' := by
 have HR0 := Aside0.mk hr0
 have HC0 := Aside0.mk hc0
 clear hr0 hc0
 have HB := Aside0.mk (Below.refl w.heap.size w)
 have H : (padlockref03_quarter.l0 k l0 ([] : List ByteArray) 0) = some r := h
 clear h
 have H' := Aside0.mk H
 clear H
 go_enter Try.func145, Try.ntmps145
 go_wp2
 go_loopg [3, 4] k (fun kq v3 v4 w' => ∃ (x3_1 : List ByteArray) (x4_1 : Int), v4 = .int .i64 x4_1 ∧ Aside0 (padlockref03_quarter.l0 kq l0 x3_1 x4_1 = some r) ∧ Aside0 (kq ≤ k) ∧ Aside0 (Kd.R Kd.string 9 w' w.heap.size (fun _ => True) v3 x3_1) ∧ Aside0 (Below w.heap.size w w'))
 case atStart => exact ⟨(([] : List ByteArray)), (0), (by first | rfl | (simp; done) | (simp [*]; done)), H', ⟨Nat.le_refl _⟩, ⟨by first | exact Kd.R_nil _ _ _ _ _ | exact Kd.N_nil _ _ _ _ _ | exact Kd.V_nil _ _ _ _ _ | exact Kd.Q_nil _ _ _ _ _ | exact Kd.S_nil _ _ _ _ _⟩, ⟨by repeat (first | (with_reducible first | exact HB.out | apply below_alloc | apply pw_below_drewN | apply below_drew1) | exact HB.out)⟩⟩
 case round =>
  clear H'
  try clear c1
  obtain ⟨x3_1, x4_1, rfl, HA, HK1, HO_3, HB⟩ := hrel
  cases gk with
  | zero => exact absurd HA.out (by simp [padlockref03_quarter.l0])
  | succ k1 =>
   have H := HA.out
   clear HA
   simp only [padlockref03_quarter.l0] at H
   by_cases c2 : 0 < (l0.length : Int)
   ·rw [if_pos c2] at H
    have c2b0 : decide (0 < (l0.length : Int)) = true := decide_eq_true c2
    have c2b1 : decide (0 < l0.length) = true := decide_eq_true (by omega)
    clear c2
    by_cases c3 : x4_1 < ((rdOf ByteArray.empty l0 0).size : Int)
    ·rw [if_pos c3] at H
     have c3b0 : decide (x4_1 < ((rdOf ByteArray.empty l0 0).size : Int)) = true := decide_eq_true c3
     clear c3
     have H' := Aside0.mk H
     clear H
     have p619 : 0 ≤ (0 : Int) := (by omega)
     have q619 : 0 < (l0.length : Int) := of_decide_eq_true (by first | (with_reducible assumption) | assumption)
     obtain ⟨ad619, e619, hx619_0⟩ := Kd.at_string HR0.out 0 p619 q619
     cases e619
     have qi619 : (0 < l0.length) = True := eq_true (by omega)
     (try rw [show ((0 : Int)).toNat = 0 from rfl] at hx619_0)
     (try rw [Addr.add_zero'] at hx619_0)
     replace hx619_0 := (HB.out.cell (World.block_lt_of_cell? w _ hx619_0)).trans hx619_0
     replace p619 := eq_true p619
     replace q619 := eq_true q619
     go_wp2
     go_loopg [5, 6] k1 (fun kq v5 v6 w' => ∃ (x5_2 : ByteArray) (x6_2 : Int), v5 = .string x5_2 ∧ v6 = .int .i64 x6_2 ∧ Aside0 (padlockref03_quarter.l1 kq l0 x3_1 x4_1 x5_2 x6_2 = some r) ∧ Aside0 (kq ≤ k1) ∧ Aside0 (Kd.R Kd.string 9 w' w.heap.size (fun _ => True) u3 x3_1) ∧ Aside0 (Below w.heap.size w w'))
     case atStart => exact ⟨((⟨#[]⟩ : ByteArray)), (wrap64 ((l0.length : Int) - 1)), (by first | rfl | (simp; done) | (simp [*]; done)), (by first | rfl | (simp; done) | (simp [*]; done)), H', ⟨Nat.le_refl _⟩, ⟨by (with_reducible repeat (first | apply Kd.R_alloc | apply Kd.R_drewN | apply Kd.R_drew)); exact HO_3.out⟩, ⟨by repeat (first | (with_reducible first | exact HB.out | apply below_alloc | apply pw_below_drewN | apply below_drew1) | exact HB.out)⟩⟩
     case round =>
      clear H'
      try clear c1
      try clear c2
      try clear c2b0
      try clear c2b1
      try clear p2
      try clear c3
      try clear c3b0
      try clear hx619_0
      try clear p619
      try clear q619
      obtain ⟨x5_2, x6_2, rfl, rfl, HA, HK2, HO_3, HB⟩ := hrel
      cases gk with
      | zero => exact absurd HA.out (by simp [padlockref03_quarter.l1])
      | succ k2 =>
       have H := HA.out
       clear HA
       simp only [padlockref03_quarter.l1] at H
       by_cases c4 : x6_2 ≥ 0
       ·rw [if_pos c4] at H
        have c4b0 : decide (0 ≤ x6_2) = true := decide_eq_true c4
        clear c4
        by_cases c5 : 0 ≤ x6_2
        ·rw [if_pos c5] at H
         have c5b0 : decide (0 ≤ x6_2) = true := decide_eq_true c5
         clear c5
         by_cases c6 : x6_2 < (l0.length : Int)
         ·rw [if_pos c6] at H
          have c6b0 : decide (x6_2 < (l0.length : Int)) = true := decide_eq_true c6
          clear c6
          by_cases c7 : 0 ≤ x4_1
          ·rw [if_pos c7] at H
           have c7b0 := eq_true c7
           have c7b1 : decide (0 ≤ x4_1) = true := decide_eq_true c7
           clear c7
           by_cases c8 : x4_1 ≤ (wrap64 (x4_1 + 1))
           ·rw [if_pos c8] at H
            have c8b0 := eq_true c8
            have c8b1 : decide (x4_1 ≤ (wrap64 (x4_1 + 1))) = true := decide_eq_true c8
            by_cases c9 : (wrap64 (x4_1 + 1)) ≤ ((rdOf ByteArray.empty l0 x6_2).size : Int)
            ·rw [if_pos c9] at H
             have c9b0 := eq_true c9
             have c9b1 : decide ((wrap64 (x4_1 + 1)) ≤ ((rdOf ByteArray.empty l0 x6_2).size : Int)) = true := decide_eq_true c9
             by_cases c10 : x5_2.size + ((rdOf ByteArray.empty l0 x6_2).extract (x4_1 : Int).toNat ((wrap64 (x4_1 + 1)) : Int).toNat).size ≤ 9223372036854775807
             ·rw [if_pos c10] at H
              have c10b0 := eq_true c10
              have c10b1 : decide (x5_2.size + ((rdOf ByteArray.empty l0 x6_2).extract (x4_1 : Int).toNat ((wrap64 (x4_1 + 1)) : Int).toNat).size ≤ 9223372036854775807) = true := decide_eq_true c10
              try have c10b2 : (9223372036854775807 < x5_2.size + ((rdOf ByteArray.empty l0 x6_2).extract (x4_1 : Int).toNat ((wrap64 (x4_1 + 1)) : Int).toNat).size) = False := eq_false (Nat.not_lt.2 c10)
              have H' := Aside0.mk H
              clear H
              have p620 : 0 ≤ (x6_2 : Int) := of_decide_eq_true (by first | (with_reducible assumption) | assumption)
              have q620 : x6_2 < (l0.length : Int) := of_decide_eq_true (by first | (with_reducible assumption) | assumption)
              obtain ⟨ad620, e620, hx620_0⟩ := Kd.at_string HR0.out x6_2 p620 q620
              obtain rfl : ad619 = ad620 := (by injection e620)
              replace hx620_0 := (HB.out.cell (World.block_lt_of_cell? w _ hx620_0)).trans hx620_0
              replace p620 := eq_true p620
              replace q620 := eq_true q620
              go_wp2
              go_roundg k2
              case measure => have := HK1.out; have := HK2.out; omega
              case rel => exact ⟨(x5_2 ++ ((rdOf ByteArray.empty l0 x6_2).extract (x4_1 : Int).toNat ((wrap64 (x4_1 + 1)) : Int).toNat)), (wrap64 (x6_2 - 1)), (by first | rfl | (simp; done) | (simp [*]; done)), (by first | rfl | (simp; done) | (simp [*]; done)), H', ⟨by have := HK1.out; have := HK2.out; omega⟩, ⟨by (with_reducible repeat (first | apply Kd.R_alloc | apply Kd.R_drewN | apply Kd.R_drew)); exact HO_3.out⟩, ⟨by repeat (first | (with_reducible first | exact HB.out | apply below_alloc | apply pw_below_drewN | apply below_drew1) | exact HB.out)⟩⟩
             ·rw [if_neg c10] at H
              exact absurd H (by simp)
            ·rw [if_neg c9] at H
             exact absurd H (by simp)
           ·rw [if_neg c8] at H
            exact absurd H (by simp)
          ·rw [if_neg c7] at H
           exact absurd H (by simp)
         ·rw [if_neg c6] at H
          exact absurd H (by simp)
        ·rw [if_neg c5] at H
         exact absurd H (by simp)
       ·rw [if_neg c4] at H
        have c4b0 : decide (0 ≤ x6_2) = false := decide_eq_false c4
        clear c4
        by_cases c11 : x3_1.length < 8796093022208
        ·rw [if_pos c11] at H
         have LMc11 := Aside0.mk c11
         clear c11
         obtain ⟨y621, hy621⟩ : ∃ y_ : List ByteArray, y_ = (x3_1 ++ [x5_2]) := ⟨_, rfl⟩
         replace H : (padlockref03_quarter.l0 k2 l0 y621 (wrap64 (x4_1 + 1))) = some r := by first | (rw [hy621]; with_reducible exact H) | (have H2_ := (Option.bind_some _ _).symm.trans H; rw [hy621]; with_reducible exact H2_) | (have H2_ := (Option.bind_some _ _).symm.trans H; with_reducible exact H2_) | with_reducible exact H | (rw [hy621]; exact H) | exact H
         have Ny621 := Aside0.mk hy621
         clear hy621
         have H' := Aside0.mk H
         clear H
         go_wp2_with (first | ((with_reducible refine gate_builtin (b := .append) (xs := #[.tmp 32, .tmp 34]) rfl ?_); at_builtin; refine Kd.R_append Kd.string (w0 := w) w.heap.size rfl (.tmp 32) (.tmp 34) 58 9 (.string ⟨#[]⟩) 16 rfl Try.underlying58 info9 rfl (by decide) (by omega) u3 x3_1 x5_2 [.string x5_2] (fun _ => True) (fun _ => False) rfl rfl ?aP (fun _ hk => hk.elim) ?aF ?aO ?aB ?aS ?aL ?_; (case aP => exact rfl); (case aB => exact (by repeat (first | (with_reducible first | exact HB.out | apply below_alloc | apply pw_below_drewN | apply below_drew1) | exact HB.out))); (case aF => exact (fun _ _ => trivial)); (case aO => exact (by (with_reducible repeat (first | apply Kd.R_alloc | apply Kd.R_drewN | apply Kd.R_drew)); exact HO_3.out)); (case aS => exact (below_size (by repeat (first | (with_reducible first | exact HB.out | apply below_alloc | apply pw_below_drewN | apply below_drew1) | exact HB.out)))); (case aL => have := LMc11.out; omega); intro v622 w12 ho hb hg hat; rw [← Ny621.out] at ho; have n0_ := Aside0.mk (hb); have n1_ := Aside0.mk (ho); clear HB; clear HO_3; have HB := n0_; have HO623 := n1_; clear n0_ n1_; clear ho hb hg hat))
         go_roundg k2
         case measure => have := HK1.out; have := HK2.out; omega
         case rel => exact ⟨(y621), (wrap64 (x4_1 + 1)), (by first | rfl | (simp; done) | (simp [*]; done)), H', ⟨by have := HK1.out; have := HK2.out; omega⟩, ⟨by (with_reducible repeat (first | apply Kd.R_alloc | apply Kd.R_drewN | apply Kd.R_drew)); exact HO623.out⟩, ⟨by repeat (first | (with_reducible first | exact HB.out | apply below_alloc | apply pw_below_drewN | apply below_drew1) | exact HB.out)⟩⟩
        ·rw [if_neg c11] at H
         exact absurd H (by simp)
    ·rw [if_neg c3] at H
     have c3b0 : decide (x4_1 < ((rdOf ByteArray.empty l0 0).size : Int)) = false := decide_eq_false c3
     clear c3
     obtain rfl := Option.some.inj H
     have p619 : 0 ≤ (0 : Int) := (by omega)
     have q619 : 0 < (l0.length : Int) := of_decide_eq_true (by first | (with_reducible assumption) | assumption)
     obtain ⟨ad619, e619, hx619_0⟩ := Kd.at_string HR0.out 0 p619 q619
     cases e619
     have qi619 : (0 < l0.length) = True := eq_true (by omega)
     (try rw [show ((0 : Int)).toNat = 0 from rfl] at hx619_0)
     (try rw [Addr.add_zero'] at hx619_0)
     replace hx619_0 := (HB.out.cell (World.block_lt_of_cell? w _ hx619_0)).trans hx619_0
     replace p619 := eq_true p619
     replace q619 := eq_true q619
     go_wp2
     go_ret
     exact ⟨_, by first | rfl | (simp [errW_none, errW_some] <;> rfl) | (simp [*, errW_none, errW_some] <;> rfl), by (with_reducible repeat (first | apply Kd.R_alloc | apply Kd.R_drewN | apply Kd.R_drew)); exact HO_3.out, by repeat (first | (with_reducible first | exact HB.out | apply below_alloc | apply pw_below_drewN | apply below_drew1) | exact HB.out)⟩
   ·rw [if_neg c2] at H
    exact absurd H (by simp)

end Go.Proofs.Ytdhiijleafcfcaa.T
