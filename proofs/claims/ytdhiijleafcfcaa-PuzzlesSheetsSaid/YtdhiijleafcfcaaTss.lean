-- PRINTED by print.py (a twelfth state) out of the translation. Not trusted: Lean checks it.
import Derived.Test.YtdhiijleafcfcaaT0
import Derived.Test.YtdhiijleafcfcaaTw
import Derived.Test.YtdhiijleafcfcaaTsr
namespace Go.Proofs.Ytdhiijleafcfcaa.T
open Go.RowKit Go.Proofs.YtdhiijleafcfcaaW.PrintWords Go.Proofs.YtdhiijleafcfcaaW.PrintLast Go.Proofs.YtdhiijleafcfcaaW.PrintMore
attribute [local go_sem] max2_int min2_int max_two min_two max_three min_three max_four min_four   -- for this text's walks alone
set_option linter.unusedVariables false
set_option linter.unusedSimpArgs false

/-! ### padlockref03_see: function 108 -/
mutual
def padlockref03_see.l0 : Nat → List ByteArray → List ByteArray → Int → Int → Int → Int → Option (ByteArray)
 | 0, _, _, _, _, _, _ => none
 | k + 1, x0, x1, x7, x625000, x625001, x625002 => if x7 < x625000 then ((padlockref03_quarter.f k x0).bind fun t625 => (padlockref03_see.l0 k t625 x1 (wrap64 (x7 + 1)) x625000 x625001 x625002)) else (padlockref03_see.l1 k x0 x1 (⟨#[]⟩ : ByteArray) 0 x625000 x625001 x625002)
def padlockref03_see.l1 : Nat → List ByteArray → List ByteArray → ByteArray → Int → Int → Int → Int → Option (ByteArray)
 | 0, _, _, _, _, _, _, _ => none
 | k + 1, x0, x1, x8, x9, x625000, x625001, x625002 => if x9 < (x1.length : Int) then (padlockref03_see.l2 k x0 x1 x8 x9 0 x625000 x625001 x625002) else (some x8)
def padlockref03_see.l2 : Nat → List ByteArray → List ByteArray → ByteArray → Int → Int → Int → Int → Int → Option (ByteArray)
 | 0, _, _, _, _, _, _, _, _ => none
 | k + 1, x0, x1, x8, x9, x10, x625000, x625001, x625002 => if 0 < (x1.length : Int) then (if x10 < ((rdOf ByteArray.empty x1 0).size : Int) then ((padlockref03_Within.f (wrap64 (x9 - x625002)) 0 (wrap64 ((x0.length : Int) - 1))).bind fun t629 => (if t629 = true then (if 0 < (x0.length : Int) then ((padlockref03_Within.f (wrap64 (x10 - x625001)) 0 (wrap64 (((rdOf ByteArray.empty x0 0).size : Int) - 1))).bind fun t631 => (if t631 = true then (if 0 ≤ (wrap64 (x9 - x625002)) then (if (wrap64 (x9 - x625002)) < (x0.length : Int) then (if 0 ≤ (wrap64 (x10 - x625001)) then (if (wrap64 (x10 - x625001)) < ((rdOf ByteArray.empty x0 (wrap64 (x9 - x625002))).size : Int) then (if (bt (rdOf ByteArray.empty x0 (wrap64 (x9 - x625002))) (wrap64 (x10 - x625001))) = 46 then (if 0 ≤ x9 then (if x9 < (x1.length : Int) then (if 0 ≤ x10 then (if x10 < ((rdOf ByteArray.empty x1 x9).size : Int) then (if (bt (rdOf ByteArray.empty x1 x9) x10) = 46 then (padlockref03_see.l2 k x0 x1 x8 x9 (wrap64 (x10 + 1)) x625000 x625001 x625002) else (if x10 ≤ (wrap64 (x10 + 1)) then (if (wrap64 (x10 + 1)) ≤ ((rdOf ByteArray.empty x1 x9).size : Int) then (if x8.size + ((rdOf ByteArray.empty x1 x9).extract (x10 : Int).toNat ((wrap64 (x10 + 1)) : Int).toNat).size ≤ 9223372036854775807 then (padlockref03_see.l2 k x0 x1 (x8 ++ ((rdOf ByteArray.empty x1 x9).extract (x10 : Int).toNat ((wrap64 (x10 + 1)) : Int).toNat)) x9 (wrap64 (x10 + 1)) x625000 x625001 x625002) else (none)) else (none)) else (none))) else (none)) else (none)) else (none)) else (none)) else (padlockref03_see.l2 k x0 x1 x8 x9 (wrap64 (x10 + 1)) x625000 x625001 x625002)) else (none)) else (none)) else (none)) else (none)) else (padlockref03_see.l2 k x0 x1 x8 x9 (wrap64 (x10 + 1)) x625000 x625001 x625002))) else (none)) else (padlockref03_see.l2 k x0 x1 x8 x9 (wrap64 (x10 + 1)) x625000 x625001 x625002))) else (padlockref03_see.l1 k x0 x1 x8 (wrap64 (x9 + 1)) x625000 x625001 x625002)) else (none)
end
def padlockref03_see.f (k : Nat) (l0 : List ByteArray) (l1 : List ByteArray) (a2_0 : Int) (a2_1 : Int) (a2_2 : Int) : Option (ByteArray) := padlockref03_see.l0 k l0 l1 0 a2_0 a2_1 a2_2
theorem padlockref03_see.mono_l : ∀ k, (∀ y0 y1 y2 y3 y4 y5, LeO (padlockref03_see.l0 k y0 y1 y2 y3 y4 y5) (padlockref03_see.l0 (k + 1) y0 y1 y2 y3 y4 y5)) ∧ (∀ y0 y1 y2 y3 y4 y5 y6, LeO (padlockref03_see.l1 k y0 y1 y2 y3 y4 y5 y6) (padlockref03_see.l1 (k + 1) y0 y1 y2 y3 y4 y5 y6)) ∧ (∀ y0 y1 y2 y3 y4 y5 y6 y7, LeO (padlockref03_see.l2 k y0 y1 y2 y3 y4 y5 y6 y7) (padlockref03_see.l2 (k + 1) y0 y1 y2 y3 y4 y5 y6 y7))
 | 0 => ⟨fun _ _ _ _ _ _ r h => by simp [padlockref03_see.l0] at h, fun _ _ _ _ _ _ _ r h => by simp [padlockref03_see.l1] at h, fun _ _ _ _ _ _ _ _ r h => by simp [padlockref03_see.l2] at h⟩
 | k + 1 => by
  obtain ⟨ih0, ih1, ih2⟩ := padlockref03_see.mono_l k
  refine ⟨?_, ?_, ?_⟩
  ·intro y0 y1 y2 y3 y4 y5
   unfold padlockref03_see.l0
   repeat' first
   | (with_reducible exact ih0 _ _ _ _ _ _)
   | (with_reducible exact ih1 _ _ _ _ _ _ _)
   | (with_reducible exact ih2 _ _ _ _ _ _ _ _)
   | (with_reducible exact padlockref03_quarter.mono _ _)
   | (with_reducible exact LeO.refl _)
   | (with_reducible exact LeO.none _)
   | (with_reducible refine LeO.ite ?_ ?_)
   | (with_reducible refine LeO.bind ?_ (fun _ => ?_))
   | exact ih0 _ _ _ _ _ _
   | exact ih1 _ _ _ _ _ _ _
   | exact ih2 _ _ _ _ _ _ _ _
   | exact padlockref03_quarter.mono _ _
   | exact LeO.none _
   | refine LeO.ite ?_ ?_
   | refine LeO.bind ?_ (fun _ => ?_)
  ·intro y0 y1 y2 y3 y4 y5 y6
   unfold padlockref03_see.l1
   repeat' first
   | (with_reducible exact ih0 _ _ _ _ _ _)
   | (with_reducible exact ih1 _ _ _ _ _ _ _)
   | (with_reducible exact ih2 _ _ _ _ _ _ _ _)
   | (with_reducible exact padlockref03_quarter.mono _ _)
   | (with_reducible exact LeO.refl _)
   | (with_reducible exact LeO.none _)
   | (with_reducible refine LeO.ite ?_ ?_)
   | (with_reducible refine LeO.bind ?_ (fun _ => ?_))
   | exact ih0 _ _ _ _ _ _
   | exact ih1 _ _ _ _ _ _ _
   | exact ih2 _ _ _ _ _ _ _ _
   | exact padlockref03_quarter.mono _ _
   | exact LeO.none _
   | refine LeO.ite ?_ ?_
   | refine LeO.bind ?_ (fun _ => ?_)
  ·intro y0 y1 y2 y3 y4 y5 y6 y7
   unfold padlockref03_see.l2
   repeat' first
   | (with_reducible exact ih0 _ _ _ _ _ _)
   | (with_reducible exact ih1 _ _ _ _ _ _ _)
   | (with_reducible exact ih2 _ _ _ _ _ _ _ _)
   | (with_reducible exact padlockref03_quarter.mono _ _)
   | (with_reducible exact LeO.refl _)
   | (with_reducible exact LeO.none _)
   | (with_reducible refine LeO.ite ?_ ?_)
   | (with_reducible refine LeO.bind ?_ (fun _ => ?_))
   | exact ih0 _ _ _ _ _ _
   | exact ih1 _ _ _ _ _ _ _
   | exact ih2 _ _ _ _ _ _ _ _
   | exact padlockref03_quarter.mono _ _
   | exact LeO.none _
   | refine LeO.ite ?_ ?_
   | refine LeO.bind ?_ (fun _ => ?_)
theorem padlockref03_see.mono : ∀ a0 a1 a2 a3 a4 k, LeO (padlockref03_see.f k a0 a1 a2 a3 a4) (padlockref03_see.f (k + 1) a0 a1 a2 a3 a4) := by
 intro a0 a1 a2 a3 a4 k
 obtain ⟨ih0, ih1, ih2⟩ := padlockref03_see.mono_l k
 unfold padlockref03_see.f
 repeat' first
   | (with_reducible exact ih0 _ _ _ _ _ _)
   | (with_reducible exact ih1 _ _ _ _ _ _ _)
   | (with_reducible exact ih2 _ _ _ _ _ _ _ _)
   | (with_reducible exact padlockref03_quarter.mono _ _)
   | (with_reducible exact LeO.refl _)
   | (with_reducible exact LeO.none _)
   | (with_reducible refine LeO.ite ?_ ?_)
   | (with_reducible refine LeO.bind ?_ (fun _ => ?_))
   | exact ih0 _ _ _ _ _ _
   | exact ih1 _ _ _ _ _ _ _
   | exact ih2 _ _ _ _ _ _ _ _
   | exact padlockref03_quarter.mono _ _
   | exact LeO.none _
   | refine LeO.ite ?_ ?_
   | refine LeO.bind ?_ (fun _ => ?_)
set_option maxHeartbeats 8000000 in
set_option maxRecDepth 100000 in
theorem padlockref03_see.calls (k : Nat) (P0_ : Nat → Prop) (A0 : Option Addr) (c0 : Nat) (l0 : List ByteArray) (A1 : Option Addr) (c1 : Nat) (l1 : List ByteArray) (a2_0 : Int) (a2_1 : Int) (a2_2 : Int) (r : ByteArray) (w : World) (hs0 : Kd.V Kd.string 9 w w.heap.size (fun k_ => P0_ k_) (.slice A0 l0.length c0) l0) (hr1 : Kd.C Kd.string w A1 l1.length l1) (hc1 : l1.length ≤ c1) (h : padlockref03_see.f k l0 l1 a2_0 a2_1 a2_2 = some r) :
  Calls Try.prog 108 #[.slice A0 l0.length c0, .slice A1 l1.length c1, .agg #[.int .i64 a2_0, .int .i64 a2_1, .int .i64 a2_2]] w fun e w' => e = .returned (.string r) ∧ Below w.heap.size w w' := by
 have hu60 := Try.underlying60
 have HO0 := Aside0.mk (show Kd.V Kd.string 9 w w.heap.size (fun k_ => (P0_ k_ ∨ w.heap.size ≤ k_)) (.slice A0 l0.length c0) l0 from Kd.V_mono hs0 (fun k_ hk => .inl hk))
 have HR1 := Aside0.mk hr1
 have HC1 := Aside0.mk hc1
 clear hr1 hc1
 have HB := Aside0.mk (Below.refl w.heap.size w)
 have H : (padlockref03_see.l0 k l0 l1 0 a2_0 a2_1 a2_2) = some r := h
 clear h
 have H' := Aside0.mk H
 clear H
 go_enter Try.func108, Try.ntmps108
 go_wp2_with (first | ((with_reducible refine gate_dst (N := 5) rfl ?_); (try (refine gate_guard (by rfl) ?_; dsimp only)); refine box_event ?hg (N := 5) ?hd (cs := #[.int .i64 a2_0, .int .i64 a2_1, .int .i64 a2_2]) (t := 60) ?hr ?_; (case hd => rfl); (case hg => rfl); (case hr => first | (go_simp; done) | (go_simp; rfl)); intro gb624 hg w4 hbox hb; have n0_ := Aside0.mk (Kd.V_below (Kd.V_elderB (by (with_reducible repeat (first | apply Kd.V_alloc | apply Kd.V_drewN | apply Kd.V_drew)); exact HO0.out) gb624 (Nat.le_of_eq hg.symm)) hb); have n1_ := Aside0.mk (below_step (by repeat (first | (with_reducible first | exact HB.out | apply below_alloc | apply pw_below_drewN | apply below_drew1) | exact HB.out)) hb); have n2_ := Aside0.mk (hbox); have n3_ := Aside0.mk ((by rw [hg]; exact (below_size (by repeat (first | (with_reducible first | exact HB.out | apply below_alloc | apply pw_below_drewN | apply below_drew1) | exact HB.out))) : w.heap.size ≤ gb624)); have n4_ := Aside0.mk ((by rw [hg]; exact (below_size (by repeat (first | (with_reducible first | exact HB.out | apply below_alloc | apply pw_below_drewN | apply below_drew1) | exact HB.out))) : w.heap.size ≤ gb624)); clear HO0; clear HB; have HO0 := n0_; have HB := n1_; have BK624 := n2_; have GW624 := n3_; have GE624 := n4_; clear n0_ n1_ n2_ n3_ n4_; clear hb hbox hg))
 repeat (go_quiet (first | ((with_reducible refine gate_dst (N := 5) rfl ?_); (try (refine gate_guard (by rfl) ?_; dsimp only)); refine box_event ?hg (N := 5) ?hd (cs := #[.int .i64 a2_0, .int .i64 a2_1, .int .i64 a2_2]) (t := 60) ?hr ?_; (case hd => rfl); (case hg => rfl); (case hr => first | (go_simp; done) | (go_simp; rfl)); intro gb624 hg w4 hbox hb; have n0_ := Aside0.mk (Kd.V_below (Kd.V_elderB (by (with_reducible repeat (first | apply Kd.V_alloc | apply Kd.V_drewN | apply Kd.V_drew)); exact HO0.out) gb624 (Nat.le_of_eq hg.symm)) hb); have n1_ := Aside0.mk (below_step (by repeat (first | (with_reducible first | exact HB.out | apply below_alloc | apply pw_below_drewN | apply below_drew1) | exact HB.out)) hb); have n2_ := Aside0.mk (hbox); have n3_ := Aside0.mk ((by rw [hg]; exact (below_size (by repeat (first | (with_reducible first | exact HB.out | apply below_alloc | apply pw_below_drewN | apply below_drew1) | exact HB.out))) : w.heap.size ≤ gb624)); have n4_ := Aside0.mk ((by rw [hg]; exact (below_size (by repeat (first | (with_reducible first | exact HB.out | apply below_alloc | apply pw_below_drewN | apply below_drew1) | exact HB.out))) : w.heap.size ≤ gb624)); clear HO0; clear HB; have HO0 := n0_; have HB := n1_; have BK624 := n2_; have GW624 := n3_; have GE624 := n4_; clear n0_ n1_ n2_ n3_ n4_; clear hb hbox hg)); try go_wp2_with (first | ((with_reducible refine gate_dst (N := 5) rfl ?_); (try (refine gate_guard (by rfl) ?_; dsimp only)); refine box_event ?hg (N := 5) ?hd (cs := #[.int .i64 a2_0, .int .i64 a2_1, .int .i64 a2_2]) (t := 60) ?hr ?_; (case hd => rfl); (case hg => rfl); (case hr => first | (go_simp; done) | (go_simp; rfl)); intro gb624 hg w4 hbox hb; have n0_ := Aside0.mk (Kd.V_below (Kd.V_elderB (by (with_reducible repeat (first | apply Kd.V_alloc | apply Kd.V_drewN | apply Kd.V_drew)); exact HO0.out) gb624 (Nat.le_of_eq hg.symm)) hb); have n1_ := Aside0.mk (below_step (by repeat (first | (with_reducible first | exact HB.out | apply below_alloc | apply pw_below_drewN | apply below_drew1) | exact HB.out)) hb); have n2_ := Aside0.mk (hbox); have n3_ := Aside0.mk ((by rw [hg]; exact (below_size (by repeat (first | (with_reducible first | exact HB.out | apply below_alloc | apply pw_below_drewN | apply below_drew1) | exact HB.out))) : w.heap.size ≤ gb624)); have n4_ := Aside0.mk ((by rw [hg]; exact (below_size (by repeat (first | (with_reducible first | exact HB.out | apply below_alloc | apply pw_below_drewN | apply below_drew1) | exact HB.out))) : w.heap.size ≤ gb624)); clear HO0; clear HB; have HO0 := n0_; have HB := n1_; have BK624 := n2_; have GW624 := n3_; have GE624 := n4_; clear n0_ n1_ n2_ n3_ n4_; clear hb hbox hg)))
 go_loopg [0, 7] k (fun kq v0 v7 w' => ∃ (x0_1 : List ByteArray) (x7_1 : Int), v7 = .int .i64 x7_1 ∧ Aside0 (padlockref03_see.l0 kq x0_1 l1 x7_1 a2_0 a2_1 a2_2 = some r) ∧ Aside0 (kq ≤ k) ∧ Aside0 (Kd.V Kd.string 9 w' w.heap.size (fun k_ => (P0_ k_ ∨ w.heap.size ≤ k_) ∧ k_ ≠ gb624) v0 x0_1) ∧ Aside0 (w'.heap[gb624]? = some (.cells #[.int .i64 a2_0, .int .i64 a2_1, .int .i64 a2_2] 60 (0, 0))) ∧ Aside0 (Below w.heap.size w w'))
 case atStart => exact ⟨(l0), (0), (by first | rfl | (simp; done) | (simp [*]; done)), H', ⟨Nat.le_refl _⟩, ⟨by (with_reducible repeat (first | apply Kd.V_alloc | apply Kd.V_drewN | apply Kd.V_drew)); exact HO0.out⟩, ⟨by (with_reducible repeat (first | refine blk_drewN ?_ _ | refine blk_drew ?_ | refine blk_alloc ?_ _)); exact BK624.out⟩, ⟨by repeat (first | (with_reducible first | exact HB.out | apply below_alloc | apply pw_below_drewN | apply below_drew1 | refine below_set ?_ GE624.out) | exact HB.out)⟩⟩
 case round =>
  clear H'
  try clear c1
  try clear p2
  obtain ⟨x0_1, x7_1, rfl, HA, HK1, HO_0, BK624, HB⟩ := hrel
  cases gk with
  | zero => exact absurd HA.out (by simp [padlockref03_see.l0])
  | succ k1 =>
   have H := HA.out
   clear HA
   simp only [padlockref03_see.l0] at H
   by_cases c5 : x7_1 < a2_0
   ·rw [if_pos c5] at H
    have c5b0 : decide (x7_1 < a2_0) = true := decide_eq_true c5
    clear c5
    replace H := Option.bind_eq_some_iff.mp H
    obtain ⟨t625, A60, H⟩ := H
    replace H : (padlockref03_see.l0 k1 t625 l1 (wrap64 (x7_1 + 1)) a2_0 a2_1 a2_2) = some r := H
    have A6 := Aside0.mk A60
    clear A60
    have H' := Aside0.mk H
    clear H
    have hcz7_0 : wr.cell? ⟨gb624, 0, none⟩ = some (.int .i64 a2_0) := (blk_cell BK624.out 0).trans rfl
    have hcz7_1 : wr.cell? ⟨gb624, 1, none⟩ = some (.int .i64 a2_1) := (blk_cell BK624.out 1).trans rfl
    have hcz7_2 : wr.cell? ⟨gb624, 2, none⟩ = some (.int .i64 a2_2) := (blk_cell BK624.out 2).trans rfl
    have hfz7_0 := blk_frozen BK624.out 0
    have hfz7_1 := blk_frozen BK624.out 1
    have hfz7_2 := blk_frozen BK624.out 2
    obtain ⟨Ao8, co8, eo8⟩ := Kd.V_slice HO_0.out
    subst eo8
    go_wp2_with (first | (go_at_call 145; (with_reducible refine (padlockref03_quarter.calls k1 _ _ x0_1 t625 _ ?side1 ?side2 A6.out).mono ?_); (case side1 => repeat (first | exact (Kd.V_reads' HO_0.out).2.2 | (with_reducible refine Kd.C_alloc ?_ _) | (with_reducible refine Kd.C_drewN ?_ _) | (with_reducible refine Kd.C_drew ?_))); (case side2 => exact (Kd.V_reads' HO_0.out).2.1); rintro e w9 ⟨v626, rfl, ho0, hb⟩; have n0_ := Aside0.mk (Kd.V_elder' (by (with_reducible repeat (first | apply Kd.V_alloc | apply Kd.V_drewN | apply Kd.V_drew)); exact HO_0.out) (Kd.R_base ho0) hb); have n1_ := Aside0.mk (Kd.R_lower (Kd.R_newM (M := fun k_ => (w.heap.size ≤ k_)) ho0 (below_size (by repeat (first | (with_reducible first | exact HB.out | apply below_alloc | apply pw_below_drewN | apply below_drew1 | refine below_set ?_ GE624.out) | exact HB.out))) (fun k_ h_ => h_)) (below_size (by repeat (first | (with_reducible first | exact HB.out | apply below_alloc | apply pw_below_drewN | apply below_drew1 | refine below_set ?_ GE624.out) | exact HB.out)))); have n2_ := Aside0.mk (blk_below (g := gb624) (o := .cells #[.int .i64 a2_0, .int .i64 a2_1, .int .i64 a2_2] 60 (0, 0)) (by (with_reducible repeat (first | refine blk_drewN ?_ _ | refine blk_drew ?_ | refine blk_alloc ?_ _)); exact BK624.out) hb); have n3_ := Aside0.mk (below_step (by repeat (first | (with_reducible first | exact HB.out | apply below_alloc | apply pw_below_drewN | apply below_drew1 | refine below_set ?_ GE624.out) | exact HB.out)) hb); clear HO_0; clear BK624; clear HB; have HO_0 := n0_; have HO627 := n1_; have BK624 := n2_; have HB := n3_; clear n0_ n1_ n2_ n3_; (try clear hb); (try clear hb2); (try clear hk); (try clear hi); (try clear ho0)))
    repeat (go_quiet (first | (go_at_call 145; (with_reducible refine (padlockref03_quarter.calls k1 _ _ x0_1 t625 _ ?side1 ?side2 A6.out).mono ?_); (case side1 => repeat (first | exact (Kd.V_reads' HO_0.out).2.2 | (with_reducible refine Kd.C_alloc ?_ _) | (with_reducible refine Kd.C_drewN ?_ _) | (with_reducible refine Kd.C_drew ?_))); (case side2 => exact (Kd.V_reads' HO_0.out).2.1); rintro e w9 ⟨v626, rfl, ho0, hb⟩; have n0_ := Aside0.mk (Kd.V_elder' (by (with_reducible repeat (first | apply Kd.V_alloc | apply Kd.V_drewN | apply Kd.V_drew)); exact HO_0.out) (Kd.R_base ho0) hb); have n1_ := Aside0.mk (Kd.R_lower (Kd.R_newM (M := fun k_ => (w.heap.size ≤ k_)) ho0 (below_size (by repeat (first | (with_reducible first | exact HB.out | apply below_alloc | apply pw_below_drewN | apply below_drew1 | refine below_set ?_ GE624.out) | exact HB.out))) (fun k_ h_ => h_)) (below_size (by repeat (first | (with_reducible first | exact HB.out | apply below_alloc | apply pw_below_drewN | apply below_drew1 | refine below_set ?_ GE624.out) | exact HB.out)))); have n2_ := Aside0.mk (blk_below (g := gb624) (o := .cells #[.int .i64 a2_0, .int .i64 a2_1, .int .i64 a2_2] 60 (0, 0)) (by (with_reducible repeat (first | refine blk_drewN ?_ _ | refine blk_drew ?_ | refine blk_alloc ?_ _)); exact BK624.out) hb); have n3_ := Aside0.mk (below_step (by repeat (first | (with_reducible first | exact HB.out | apply below_alloc | apply pw_below_drewN | apply below_drew1 | refine below_set ?_ GE624.out) | exact HB.out)) hb); clear HO_0; clear BK624; clear HB; have HO_0 := n0_; have HO627 := n1_; have BK624 := n2_; have HB := n3_; clear n0_ n1_ n2_ n3_; (try clear hb); (try clear hb2); (try clear hk); (try clear hi); (try clear ho0))); try go_wp2_with (first | (go_at_call 145; (with_reducible refine (padlockref03_quarter.calls k1 _ _ x0_1 t625 _ ?side1 ?side2 A6.out).mono ?_); (case side1 => repeat (first | exact (Kd.V_reads' HO_0.out).2.2 | (with_reducible refine Kd.C_alloc ?_ _) | (with_reducible refine Kd.C_drewN ?_ _) | (with_reducible refine Kd.C_drew ?_))); (case side2 => exact (Kd.V_reads' HO_0.out).2.1); rintro e w9 ⟨v626, rfl, ho0, hb⟩; have n0_ := Aside0.mk (Kd.V_elder' (by (with_reducible repeat (first | apply Kd.V_alloc | apply Kd.V_drewN | apply Kd.V_drew)); exact HO_0.out) (Kd.R_base ho0) hb); have n1_ := Aside0.mk (Kd.R_lower (Kd.R_newM (M := fun k_ => (w.heap.size ≤ k_)) ho0 (below_size (by repeat (first | (with_reducible first | exact HB.out | apply below_alloc | apply pw_below_drewN | apply below_drew1 | refine below_set ?_ GE624.out) | exact HB.out))) (fun k_ h_ => h_)) (below_size (by repeat (first | (with_reducible first | exact HB.out | apply below_alloc | apply pw_below_drewN | apply below_drew1 | refine below_set ?_ GE624.out) | exact HB.out)))); have n2_ := Aside0.mk (blk_below (g := gb624) (o := .cells #[.int .i64 a2_0, .int .i64 a2_1, .int .i64 a2_2] 60 (0, 0)) (by (with_reducible repeat (first | refine blk_drewN ?_ _ | refine blk_drew ?_ | refine blk_alloc ?_ _)); exact BK624.out) hb); have n3_ := Aside0.mk (below_step (by repeat (first | (with_reducible first | exact HB.out | apply below_alloc | apply pw_below_drewN | apply below_drew1 | refine below_set ?_ GE624.out) | exact HB.out)) hb); clear HO_0; clear BK624; clear HB; have HO_0 := n0_; have HO627 := n1_; have BK624 := n2_; have HB := n3_; clear n0_ n1_ n2_ n3_; (try clear hb); (try clear hb2); (try clear hk); (try clear hi); (try clear ho0))))
    go_roundg k1
    case measure => have := HK1.out; omega
    case rel => exact ⟨(t625), (wrap64 (x7_1 + 1)), (by first | rfl | (simp; done) | (simp [*]; done)), H', ⟨by have := HK1.out; omega⟩, ⟨Kd.V_mono (Kd.R_V (by (with_reducible repeat (first | apply Kd.R_alloc | apply Kd.R_drewN | apply Kd.R_drew)); exact Kd.R_types HO627.out BK624.out (by decide))) (fun k_ hk => by first | exact ⟨(.inr (hk.1)), hk.2⟩ | exact ⟨(.inr (hk.1.1)), hk.2⟩ | exact (.inr (hk)))⟩, ⟨by (with_reducible repeat (first | refine blk_drewN ?_ _ | refine blk_drew ?_ | refine blk_alloc ?_ _)); exact BK624.out⟩, ⟨by repeat (first | (with_reducible first | exact HB.out | apply below_alloc | apply pw_below_drewN | apply below_drew1 | refine below_set ?_ GE624.out) | exact HB.out)⟩⟩
   ·rw [if_neg c5] at H
    have c5b0 : decide (x7_1 < a2_0) = false := decide_eq_false c5
    clear c5
    have H' := Aside0.mk H
    clear H
    have hcz10_0 : wr.cell? ⟨gb624, 0, none⟩ = some (.int .i64 a2_0) := (blk_cell BK624.out 0).trans rfl
    have hcz10_1 : wr.cell? ⟨gb624, 1, none⟩ = some (.int .i64 a2_1) := (blk_cell BK624.out 1).trans rfl
    have hcz10_2 : wr.cell? ⟨gb624, 2, none⟩ = some (.int .i64 a2_2) := (blk_cell BK624.out 2).trans rfl
    have hfz10_0 := blk_frozen BK624.out 0
    have hfz10_1 := blk_frozen BK624.out 1
    have hfz10_2 := blk_frozen BK624.out 2
    go_wp2
    repeat (go_quiet (fail); try go_wp2)
    go_loopg [8, 9] k1 (fun kq v8 v9 w' => ∃ (x8_2 : ByteArray) (x9_2 : Int), v8 = .string x8_2 ∧ v9 = .int .i64 x9_2 ∧ Aside0 (padlockref03_see.l1 kq x0_1 l1 x8_2 x9_2 a2_0 a2_1 a2_2 = some r) ∧ Aside0 (kq ≤ k1) ∧ Aside0 (Kd.V Kd.string 9 w' w.heap.size (fun k_ => (P0_ k_ ∨ w.heap.size ≤ k_) ∧ k_ ≠ gb624) u0 x0_1) ∧ Aside0 (w'.heap[gb624]? = some (.cells #[.int .i64 a2_0, .int .i64 a2_1, .int .i64 a2_2] 60 (0, 0))) ∧ Aside0 (Below w.heap.size w w'))
    case atStart => exact ⟨((⟨#[]⟩ : ByteArray)), (0), (by first | rfl | (simp; done) | (simp [*]; done)), (by first | rfl | (simp; done) | (simp [*]; done)), H', ⟨Nat.le_refl _⟩, ⟨by (with_reducible repeat (first | apply Kd.V_alloc | apply Kd.V_drewN | apply Kd.V_drew)); exact HO_0.out⟩, ⟨by (with_reducible repeat (first | refine blk_drewN ?_ _ | refine blk_drew ?_ | refine blk_alloc ?_ _)); exact BK624.out⟩, ⟨by repeat (first | (with_reducible first | exact HB.out | apply below_alloc | apply pw_below_drewN | apply below_drew1 | refine below_set ?_ GE624.out) | exact HB.out)⟩⟩
    case round =>
     clear H'
     try clear c1
     try clear p2
     try clear c5
     try clear c5b0
     try clear p6
     try clear c10
     try clear hcz10_0
     try clear hcz10_1
     try clear hcz10_2
     try clear hcz7_0
     try clear hcz7_1
     try clear hcz7_2
     try clear hfz10_0
     try clear hfz10_1
     try clear hfz10_2
     try clear hfz7_0
     try clear hfz7_1
     try clear hfz7_2
     try clear p2
     obtain ⟨x8_2, x9_2, rfl, rfl, HA, HK2, HO_0, BK624, HB⟩ := hrel
     cases gk with
     | zero => exact absurd HA.out (by simp [padlockref03_see.l1])
     | succ k2 =>
      have H := HA.out
      clear HA
      simp only [padlockref03_see.l1] at H
      by_cases c11 : x9_2 < (l1.length : Int)
      ·rw [if_pos c11] at H
       have c11b0 : decide (x9_2 < (l1.length : Int)) = true := decide_eq_true c11
       clear c11
       have H' := Aside0.mk H
       clear H
       go_wp2
       repeat (go_quiet (fail); try go_wp2)
       go_loopg [8, 10] k2 (fun kq v8 v10 w' => ∃ (x8_3 : ByteArray) (x10_3 : Int), v8 = .string x8_3 ∧ v10 = .int .i64 x10_3 ∧ Aside0 (padlockref03_see.l2 kq x0_1 l1 x8_3 x9_2 x10_3 a2_0 a2_1 a2_2 = some r) ∧ Aside0 (kq ≤ k2) ∧ Aside0 (Kd.V Kd.string 9 w' w.heap.size (fun k_ => (P0_ k_ ∨ w.heap.size ≤ k_) ∧ k_ ≠ gb624) u0 x0_1) ∧ Aside0 (w'.heap[gb624]? = some (.cells #[.int .i64 a2_0, .int .i64 a2_1, .int .i64 a2_2] 60 (0, 0))) ∧ Aside0 (Below w.heap.size w w'))
       case atStart => exact ⟨(x8_2), (0), (by first | rfl | (simp; done) | (simp [*]; done)), (by first | rfl | (simp; done) | (simp [*]; done)), H', ⟨Nat.le_refl _⟩, ⟨by (with_reducible repeat (first | apply Kd.V_alloc | apply Kd.V_drewN | apply Kd.V_drew)); exact HO_0.out⟩, ⟨by (with_reducible repeat (first | refine blk_drewN ?_ _ | refine blk_drew ?_ | refine blk_alloc ?_ _)); exact BK624.out⟩, ⟨by repeat (first | (with_reducible first | exact HB.out | apply below_alloc | apply pw_below_drewN | apply below_drew1 | refine below_set ?_ GE624.out) | exact HB.out)⟩⟩
       case round =>
        clear H'
        try clear c1
        try clear p2
        try clear c5
        try clear c5b0
        try clear p6
        try clear c10
        try clear c11
        try clear c11b0
        try clear hcz10_0
        try clear hcz10_1
        try clear hcz10_2
        try clear hcz7_0
        try clear hcz7_1
        try clear hcz7_2
        try clear hfz10_0
        try clear hfz10_1
        try clear hfz10_2
        try clear hfz7_0
        try clear hfz7_1
        try clear hfz7_2
        try clear p2
        try clear p6
        obtain ⟨x8_3, x10_3, rfl, rfl, HA, HK3, HO_0, BK624, HB⟩ := hrel
        cases gk with
        | zero => exact absurd HA.out (by simp [padlockref03_see.l2])
        | succ k3 =>
         have H := HA.out
         clear HA
         simp only [padlockref03_see.l2] at H
         by_cases c12 : 0 < (l1.length : Int)
         ·rw [if_pos c12] at H
          have c12b0 : decide (0 < (l1.length : Int)) = true := decide_eq_true c12
          have c12b1 : decide (0 < l1.length) = true := decide_eq_true (by omega)
          clear c12
          by_cases c13 : x10_3 < ((rdOf ByteArray.empty l1 0).size : Int)
          ·rw [if_pos c13] at H
           have c13b0 : decide (x10_3 < ((rdOf ByteArray.empty l1 0).size : Int)) = true := decide_eq_true c13
           clear c13
           replace H := Option.bind_eq_some_iff.mp H
           obtain ⟨t629, A140, H⟩ := H
           replace H : (if t629 = true then (if 0 < (x0_1.length : Int) then ((padlockref03_Within.f (wrap64 (x10_3 - a2_1)) 0 (wrap64 (((rdOf ByteArray.empty x0_1 0).size : Int) - 1))).bind fun t631 => (if t631 = true then (if 0 ≤ (wrap64 (x9_2 - a2_2)) then (if (wrap64 (x9_2 - a2_2)) < (x0_1.length : Int) then (if 0 ≤ (wrap64 (x10_3 - a2_1)) then (if (wrap64 (x10_3 - a2_1)) < ((rdOf ByteArray.empty x0_1 (wrap64 (x9_2 - a2_2))).size : Int) then (if (bt (rdOf ByteArray.empty x0_1 (wrap64 (x9_2 - a2_2))) (wrap64 (x10_3 - a2_1))) = 46 then (if 0 ≤ x9_2 then (if x9_2 < (l1.length : Int) then (if 0 ≤ x10_3 then (if x10_3 < ((rdOf ByteArray.empty l1 x9_2).size : Int) then (if (bt (rdOf ByteArray.empty l1 x9_2) x10_3) = 46 then (padlockref03_see.l2 k3 x0_1 l1 x8_3 x9_2 (wrap64 (x10_3 + 1)) a2_0 a2_1 a2_2) else (if x10_3 ≤ (wrap64 (x10_3 + 1)) then (if (wrap64 (x10_3 + 1)) ≤ ((rdOf ByteArray.empty l1 x9_2).size : Int) then (if x8_3.size + ((rdOf ByteArray.empty l1 x9_2).extract (x10_3 : Int).toNat ((wrap64 (x10_3 + 1)) : Int).toNat).size ≤ 9223372036854775807 then (padlockref03_see.l2 k3 x0_1 l1 (x8_3 ++ ((rdOf ByteArray.empty l1 x9_2).extract (x10_3 : Int).toNat ((wrap64 (x10_3 + 1)) : Int).toNat)) x9_2 (wrap64 (x10_3 + 1)) a2_0 a2_1 a2_2) else (none)) else (none)) else (none))) else (none)) else (none)) else (none)) else (none)) else (padlockref03_see.l2 k3 x0_1 l1 x8_3 x9_2 (wrap64 (x10_3 + 1)) a2_0 a2_1 a2_2)) else (none)) else (none)) else (none)) else (none)) else (padlockref03_see.l2 k3 x0_1 l1 x8_3 x9_2 (wrap64 (x10_3 + 1)) a2_0 a2_1 a2_2))) else (none)) else (padlockref03_see.l2 k3 x0_1 l1 x8_3 x9_2 (wrap64 (x10_3 + 1)) a2_0 a2_1 a2_2)) = some r := H
           have A14 := Aside0.mk A140
           clear A140
           by_cases c15 : t629 = true
           ·subst c15
            have H1 : (if 0 < (x0_1.length : Int) then ((padlockref03_Within.f (wrap64 (x10_3 - a2_1)) 0 (wrap64 (((rdOf ByteArray.empty x0_1 0).size : Int) - 1))).bind fun t631 => (if t631 = true then (if 0 ≤ (wrap64 (x9_2 - a2_2)) then (if (wrap64 (x9_2 - a2_2)) < (x0_1.length : Int) then (if 0 ≤ (wrap64 (x10_3 - a2_1)) then (if (wrap64 (x10_3 - a2_1)) < ((rdOf ByteArray.empty x0_1 (wrap64 (x9_2 - a2_2))).size : Int) then (if (bt (rdOf ByteArray.empty x0_1 (wrap64 (x9_2 - a2_2))) (wrap64 (x10_3 - a2_1))) = 46 then (if 0 ≤ x9_2 then (if x9_2 < (l1.length : Int) then (if 0 ≤ x10_3 then (if x10_3 < ((rdOf ByteArray.empty l1 x9_2).size : Int) then (if (bt (rdOf ByteArray.empty l1 x9_2) x10_3) = 46 then (padlockref03_see.l2 k3 x0_1 l1 x8_3 x9_2 (wrap64 (x10_3 + 1)) a2_0 a2_1 a2_2) else (if x10_3 ≤ (wrap64 (x10_3 + 1)) then (if (wrap64 (x10_3 + 1)) ≤ ((rdOf ByteArray.empty l1 x9_2).size : Int) then (if x8_3.size + ((rdOf ByteArray.empty l1 x9_2).extract (x10_3 : Int).toNat ((wrap64 (x10_3 + 1)) : Int).toNat).size ≤ 9223372036854775807 then (padlockref03_see.l2 k3 x0_1 l1 (x8_3 ++ ((rdOf ByteArray.empty l1 x9_2).extract (x10_3 : Int).toNat ((wrap64 (x10_3 + 1)) : Int).toNat)) x9_2 (wrap64 (x10_3 + 1)) a2_0 a2_1 a2_2) else (none)) else (none)) else (none))) else (none)) else (none)) else (none)) else (none)) else (padlockref03_see.l2 k3 x0_1 l1 x8_3 x9_2 (wrap64 (x10_3 + 1)) a2_0 a2_1 a2_2)) else (none)) else (none)) else (none)) else (none)) else (padlockref03_see.l2 k3 x0_1 l1 x8_3 x9_2 (wrap64 (x10_3 + 1)) a2_0 a2_1 a2_2))) else (none)) = some r := by rw [if_pos rfl] at H; exact H
            clear H
            have H := H1
            clear H1
            by_cases c16 : 0 < (x0_1.length : Int)
            ·rw [if_pos c16] at H
             have c16b0 : decide (0 < (x0_1.length : Int)) = true := decide_eq_true c16
             have c16b1 : decide (0 < x0_1.length) = true := decide_eq_true (by omega)
             clear c16
             replace H := Option.bind_eq_some_iff.mp H
             obtain ⟨t631, A170, H⟩ := H
             replace H : (if t631 = true then (if 0 ≤ (wrap64 (x9_2 - a2_2)) then (if (wrap64 (x9_2 - a2_2)) < (x0_1.length : Int) then (if 0 ≤ (wrap64 (x10_3 - a2_1)) then (if (wrap64 (x10_3 - a2_1)) < ((rdOf ByteArray.empty x0_1 (wrap64 (x9_2 - a2_2))).size : Int) then (if (bt (rdOf ByteArray.empty x0_1 (wrap64 (x9_2 - a2_2))) (wrap64 (x10_3 - a2_1))) = 46 then (if 0 ≤ x9_2 then (if x9_2 < (l1.length : Int) then (if 0 ≤ x10_3 then (if x10_3 < ((rdOf ByteArray.empty l1 x9_2).size : Int) then (if (bt (rdOf ByteArray.empty l1 x9_2) x10_3) = 46 then (padlockref03_see.l2 k3 x0_1 l1 x8_3 x9_2 (wrap64 (x10_3 + 1)) a2_0 a2_1 a2_2) else (if x10_3 ≤ (wrap64 (x10_3 + 1)) then (if (wrap64 (x10_3 + 1)) ≤ ((rdOf ByteArray.empty l1 x9_2).size : Int) then (if x8_3.size + ((rdOf ByteArray.empty l1 x9_2).extract (x10_3 : Int).toNat ((wrap64 (x10_3 + 1)) : Int).toNat).size ≤ 9223372036854775807 then (padlockref03_see.l2 k3 x0_1 l1 (x8_3 ++ ((rdOf ByteArray.empty l1 x9_2).extract (x10_3 : Int).toNat ((wrap64 (x10_3 + 1)) : Int).toNat)) x9_2 (wrap64 (x10_3 + 1)) a2_0 a2_1 a2_2) else (none)) else (none)) else (none))) else (none)) else (none)) else (none)) else (none)) else (padlockref03_see.l2 k3 x0_1 l1 x8_3 x9_2 (wrap64 (x10_3 + 1)) a2_0 a2_1 a2_2)) else (none)) else (none)) else (none)) else (none)) else (padlockref03_see.l2 k3 x0_1 l1 x8_3 x9_2 (wrap64 (x10_3 + 1)) a2_0 a2_1 a2_2)) = some r := H
             have A17 := Aside0.mk A170
             clear A170
             by_cases c18 : t631 = true
             ·subst c18
              have H1 : (if 0 ≤ (wrap64 (x9_2 - a2_2)) then (if (wrap64 (x9_2 - a2_2)) < (x0_1.length : Int) then (if 0 ≤ (wrap64 (x10_3 - a2_1)) then (if (wrap64 (x10_3 - a2_1)) < ((rdOf ByteArray.empty x0_1 (wrap64 (x9_2 - a2_2))).size : Int) then (if (bt (rdOf ByteArray.empty x0_1 (wrap64 (x9_2 - a2_2))) (wrap64 (x10_3 - a2_1))) = 46 then (if 0 ≤ x9_2 then (if x9_2 < (l1.length : Int) then (if 0 ≤ x10_3 then (if x10_3 < ((rdOf ByteArray.empty l1 x9_2).size : Int) then (if (bt (rdOf ByteArray.empty l1 x9_2) x10_3) = 46 then (padlockref03_see.l2 k3 x0_1 l1 x8_3 x9_2 (wrap64 (x10_3 + 1)) a2_0 a2_1 a2_2) else (if x10_3 ≤ (wrap64 (x10_3 + 1)) then (if (wrap64 (x10_3 + 1)) ≤ ((rdOf ByteArray.empty l1 x9_2).size : Int) then (if x8_3.size + ((rdOf ByteArray.empty l1 x9_2).extract (x10_3 : Int).toNat ((wrap64 (x10_3 + 1)) : Int).toNat).size ≤ 9223372036854775807 then (padlockref03_see.l2 k3 x0_1 l1 (x8_3 ++ ((rdOf ByteArray.empty l1 x9_2).extract (x10_3 : Int).toNat ((wrap64 (x10_3 + 1)) : Int).toNat)) x9_2 (wrap64 (x10_3 + 1)) a2_0 a2_1 a2_2) else (none)) else (none)) else (none))) else (none)) else (none)) else (none)) else (none)) else (padlockref03_see.l2 k3 x0_1 l1 x8_3 x9_2 (wrap64 (x10_3 + 1)) a2_0 a2_1 a2_2)) else (none)) else (none)) else (none)) else (none)) = some r := by rw [if_pos rfl] at H; exact H
              clear H
              have H := H1
              clear H1
              obtain ⟨ji19, hji19⟩ : ∃ j_ : Int, (wrap64 (x9_2 - a2_2)) = j_ := ⟨_, rfl⟩
              replace H : (if 0 ≤ (ji19) then (if (ji19) < (x0_1.length : Int) then (if 0 ≤ (wrap64 (x10_3 - a2_1)) then (if (wrap64 (x10_3 - a2_1)) < ((rdOf ByteArray.empty x0_1 (ji19)).size : Int) then (if (bt (rdOf ByteArray.empty x0_1 (ji19)) (wrap64 (x10_3 - a2_1))) = 46 then (if 0 ≤ x9_2 then (if x9_2 < (l1.length : Int) then (if 0 ≤ x10_3 then (if x10_3 < ((rdOf ByteArray.empty l1 x9_2).size : Int) then (if (bt (rdOf ByteArray.empty l1 x9_2) x10_3) = 46 then (padlockref03_see.l2 k3 x0_1 l1 x8_3 x9_2 (wrap64 (x10_3 + 1)) a2_0 a2_1 a2_2) else (if x10_3 ≤ (wrap64 (x10_3 + 1)) then (if (wrap64 (x10_3 + 1)) ≤ ((rdOf ByteArray.empty l1 x9_2).size : Int) then (if x8_3.size + ((rdOf ByteArray.empty l1 x9_2).extract (x10_3 : Int).toNat ((wrap64 (x10_3 + 1)) : Int).toNat).size ≤ 9223372036854775807 then (padlockref03_see.l2 k3 x0_1 l1 (x8_3 ++ ((rdOf ByteArray.empty l1 x9_2).extract (x10_3 : Int).toNat ((wrap64 (x10_3 + 1)) : Int).toNat)) x9_2 (wrap64 (x10_3 + 1)) a2_0 a2_1 a2_2) else (none)) else (none)) else (none))) else (none)) else (none)) else (none)) else (none)) else (padlockref03_see.l2 k3 x0_1 l1 x8_3 x9_2 (wrap64 (x10_3 + 1)) a2_0 a2_1 a2_2)) else (none)) else (none)) else (none)) else (none)) = some r := by first | (rw [hji19] at H; exact H) | (simp only [hji19] at H ⊢; exact H)
              (try rw [hji19] at A14)
              (try rw [hji19] at A17)
              have hji19w : (IntKind.i64.wrap (x9_2 - a2_2)) = ji19 := (i64_w _).trans hji19
              by_cases c20 : 0 ≤ (ji19)
              ·rw [if_pos c20] at H
               have c20b0 : decide (0 ≤ (ji19)) = true := decide_eq_true c20
               clear c20
               by_cases c21 : (ji19) < (x0_1.length : Int)
               ·rw [if_pos c21] at H
                have c21b0 : decide ((ji19) < (x0_1.length : Int)) = true := decide_eq_true c21
                clear c21
                obtain ⟨ji22, hji22⟩ : ∃ j_ : Int, (wrap64 (x10_3 - a2_1)) = j_ := ⟨_, rfl⟩
                replace H : (if 0 ≤ (ji22) then (if (ji22) < ((rdOf ByteArray.empty x0_1 (ji19)).size : Int) then (if (bt (rdOf ByteArray.empty x0_1 (ji19)) (ji22)) = 46 then (if 0 ≤ x9_2 then (if x9_2 < (l1.length : Int) then (if 0 ≤ x10_3 then (if x10_3 < ((rdOf ByteArray.empty l1 x9_2).size : Int) then (if (bt (rdOf ByteArray.empty l1 x9_2) x10_3) = 46 then (padlockref03_see.l2 k3 x0_1 l1 x8_3 x9_2 (wrap64 (x10_3 + 1)) a2_0 a2_1 a2_2) else (if x10_3 ≤ (wrap64 (x10_3 + 1)) then (if (wrap64 (x10_3 + 1)) ≤ ((rdOf ByteArray.empty l1 x9_2).size : Int) then (if x8_3.size + ((rdOf ByteArray.empty l1 x9_2).extract (x10_3 : Int).toNat ((wrap64 (x10_3 + 1)) : Int).toNat).size ≤ 9223372036854775807 then (padlockref03_see.l2 k3 x0_1 l1 (x8_3 ++ ((rdOf ByteArray.empty l1 x9_2).extract (x10_3 : Int).toNat ((wrap64 (x10_3 + 1)) : Int).toNat)) x9_2 (wrap64 (x10_3 + 1)) a2_0 a2_1 a2_2) else (none)) else (none)) else (none))) else (none)) else (none)) else (none)) else (none)) else (padlockref03_see.l2 k3 x0_1 l1 x8_3 x9_2 (wrap64 (x10_3 + 1)) a2_0 a2_1 a2_2)) else (none)) else (none)) = some r := by first | (rw [hji22] at H; exact H) | (simp only [hji22] at H ⊢; exact H)
                (try rw [hji22] at A14)
                (try rw [hji22] at A17)
                have hji22w : (IntKind.i64.wrap (x10_3 - a2_1)) = ji22 := (i64_w _).trans hji22
                by_cases c23 : 0 ≤ (ji22)
                ·rw [if_pos c23] at H
                 have c23b0 : decide (0 ≤ (ji22)) = true := decide_eq_true c23
                 clear c23
                 by_cases c24 : (ji22) < ((rdOf ByteArray.empty x0_1 (ji19)).size : Int)
                 ·rw [if_pos c24] at H
                  have c24b0 : decide ((ji22) < ((rdOf ByteArray.empty x0_1 (ji19)).size : Int)) = true := decide_eq_true c24
                  clear c24
                  by_cases c26 : (bt (rdOf ByteArray.empty x0_1 (ji19)) (ji22)) = 46
                  ·rw [if_pos c26] at H
                   have c26b0 : ((bt (rdOf ByteArray.empty x0_1 (ji19)) (ji22)) == 46) = true := beq_iff_eq.mpr c26
                   have c26b1 : ((bt (rdOf ByteArray.empty x0_1 (ji19)) (ji22)) != 46) = false := bne_eq_false_iff_eq.mpr c26
                   clear c26
                   by_cases c27 : 0 ≤ x9_2
                   ·rw [if_pos c27] at H
                    have c27b0 : decide (0 ≤ x9_2) = true := decide_eq_true c27
                    clear c27
                    by_cases c28 : x9_2 < (l1.length : Int)
                    ·rw [if_pos c28] at H
                     have c28b0 : decide (x9_2 < (l1.length : Int)) = true := decide_eq_true c28
                     clear c28
                     by_cases c29 : 0 ≤ x10_3
                     ·rw [if_pos c29] at H
                      have c29b0 : decide (0 ≤ x10_3) = true := decide_eq_true c29
                      clear c29
                      by_cases c30 : x10_3 < ((rdOf ByteArray.empty l1 x9_2).size : Int)
                      ·rw [if_pos c30] at H
                       have c30b0 : decide (x10_3 < ((rdOf ByteArray.empty l1 x9_2).size : Int)) = true := decide_eq_true c30
                       clear c30
                       by_cases c32 : (bt (rdOf ByteArray.empty l1 x9_2) x10_3) = 46
                       ·rw [if_pos c32] at H
                        have c32b0 : ((bt (rdOf ByteArray.empty l1 x9_2) x10_3) == 46) = true := beq_iff_eq.mpr c32
                        have c32b1 : ((bt (rdOf ByteArray.empty l1 x9_2) x10_3) != 46) = false := bne_eq_false_iff_eq.mpr c32
                        clear c32
                        have H' := Aside0.mk H
                        clear H
                        have p628 : 0 ≤ (0 : Int) := (by omega)
                        have q628 : 0 < (l1.length : Int) := of_decide_eq_true (by first | (with_reducible assumption) | assumption)
                        obtain ⟨ad628, e628, hx628_0⟩ := Kd.at_string HR1.out 0 p628 q628
                        cases e628
                        have qi628 : (0 < l1.length) = True := eq_true (by omega)
                        (try rw [show ((0 : Int)).toNat = 0 from rfl] at hx628_0)
                        (try rw [Addr.add_zero'] at hx628_0)
                        replace hx628_0 := (HB.out.cell (World.block_lt_of_cell? w _ hx628_0)).trans hx628_0
                        replace p628 := eq_true p628
                        replace q628 := eq_true q628
                        have hcz33_0 : wr.cell? ⟨gb624, 0, none⟩ = some (.int .i64 a2_0) := (blk_cell BK624.out 0).trans rfl
                        have hcz33_1 : wr.cell? ⟨gb624, 1, none⟩ = some (.int .i64 a2_1) := (blk_cell BK624.out 1).trans rfl
                        have hcz33_2 : wr.cell? ⟨gb624, 2, none⟩ = some (.int .i64 a2_2) := (blk_cell BK624.out 2).trans rfl
                        have hfz33_0 := blk_frozen BK624.out 0
                        have hfz33_1 := blk_frozen BK624.out 1
                        have hfz33_2 := blk_frozen BK624.out 2
                        obtain ⟨Ao34, co34, eo34⟩ := Kd.V_slice HO_0.out
                        subst eo34
                        go_wp2_with (first | (go_at_call 73; (with_reducible refine (padlockref03_Within.calls ji19 0 (wrap64 ((x0_1.length : Int) - 1)) true _ A14.out).mono ?_); rintro e w' ⟨rfl, ⟨nd, rfl⟩⟩; (try first | exact ⟨rfl, _, World.drewN_drewN _ _ _⟩ | exact ⟨rfl, _, Eq.trans (World.drewN_drewN _ _ _) (congrArg (World.drewN _) (Nat.add_assoc _ _ _))⟩); have p630 : 0 ≤ (0 : Int) := (by omega); have q630 : 0 < (x0_1.length : Int) := of_decide_eq_true (by first | (with_reducible assumption) | assumption); obtain ⟨ad630, e630, hx630_0⟩ := Kd.at_string (Kd.V_reads' HO_0.out).2.2 0 p630 q630; cases e630; have qi630 : (0 < x0_1.length) = True := eq_true (by omega); (try rw [show ((0 : Int)).toNat = 0 from rfl] at hx630_0); (try rw [Addr.add_zero'] at hx630_0); replace p630 := eq_true p630; replace q630 := eq_true q630) | (go_at_call 73; (with_reducible refine (padlockref03_Within.calls ji22 0 (wrap64 (((rdOf ByteArray.empty x0_1 0).size : Int) - 1)) true _ A17.out).mono ?_); rintro e w' ⟨rfl, ⟨nd, rfl⟩⟩; (try first | exact ⟨rfl, _, World.drewN_drewN _ _ _⟩ | exact ⟨rfl, _, Eq.trans (World.drewN_drewN _ _ _) (congrArg (World.drewN _) (Nat.add_assoc _ _ _))⟩); have p632 : 0 ≤ ((ji19) : Int) := of_decide_eq_true (by first | (with_reducible assumption) | assumption); have q632 : (ji19) < (x0_1.length : Int) := of_decide_eq_true (by first | (with_reducible assumption) | assumption); obtain ⟨ad632, e632, hx632_0⟩ := Kd.at_string (Kd.V_reads' HO_0.out).2.2 (ji19) p632 q632; obtain rfl : ad630 = ad632 := (by injection e632); replace p632 := eq_true p632; replace q632 := eq_true q632; have p25 : 0 ≤ ((ji22) : Int) := of_decide_eq_true (by first | (with_reducible assumption) | assumption); have q25 : (ji22) < ((rdOf ByteArray.empty x0_1 (ji19)).size : Int) := of_decide_eq_true (by first | (with_reducible assumption) | assumption); have hx25 := bt_at (rdOf ByteArray.empty x0_1 (ji19)) (ji22); replace p25 := eq_true p25; replace q25 := eq_true q25; have p633 : 0 ≤ (x9_2 : Int) := of_decide_eq_true (by first | (with_reducible assumption) | assumption); have q633 : x9_2 < (l1.length : Int) := of_decide_eq_true (by first | (with_reducible assumption) | assumption); obtain ⟨ad633, e633, hx633_0⟩ := Kd.at_string HR1.out x9_2 p633 q633; obtain rfl : ad628 = ad633 := (by injection e633); replace hx633_0 := (HB.out.cell (World.block_lt_of_cell? w _ hx633_0)).trans hx633_0; replace p633 := eq_true p633; replace q633 := eq_true q633; have p31 : 0 ≤ (x10_3 : Int) := of_decide_eq_true (by first | (with_reducible assumption) | assumption); have q31 : x10_3 < ((rdOf ByteArray.empty l1 x9_2).size : Int) := of_decide_eq_true (by first | (with_reducible assumption) | assumption); have hx31 := bt_at (rdOf ByteArray.empty l1 x9_2) x10_3; replace p31 := eq_true p31; replace q31 := eq_true q31))
                        repeat (go_quiet (first | (go_at_call 73; (with_reducible refine (padlockref03_Within.calls ji19 0 (wrap64 ((x0_1.length : Int) - 1)) true _ A14.out).mono ?_); rintro e w' ⟨rfl, ⟨nd, rfl⟩⟩; (try first | exact ⟨rfl, _, World.drewN_drewN _ _ _⟩ | exact ⟨rfl, _, Eq.trans (World.drewN_drewN _ _ _) (congrArg (World.drewN _) (Nat.add_assoc _ _ _))⟩); have p630 : 0 ≤ (0 : Int) := (by omega); have q630 : 0 < (x0_1.length : Int) := of_decide_eq_true (by first | (with_reducible assumption) | assumption); obtain ⟨ad630, e630, hx630_0⟩ := Kd.at_string (Kd.V_reads' HO_0.out).2.2 0 p630 q630; cases e630; have qi630 : (0 < x0_1.length) = True := eq_true (by omega); (try rw [show ((0 : Int)).toNat = 0 from rfl] at hx630_0); (try rw [Addr.add_zero'] at hx630_0); replace p630 := eq_true p630; replace q630 := eq_true q630) | (go_at_call 73; (with_reducible refine (padlockref03_Within.calls ji22 0 (wrap64 (((rdOf ByteArray.empty x0_1 0).size : Int) - 1)) true _ A17.out).mono ?_); rintro e w' ⟨rfl, ⟨nd, rfl⟩⟩; (try first | exact ⟨rfl, _, World.drewN_drewN _ _ _⟩ | exact ⟨rfl, _, Eq.trans (World.drewN_drewN _ _ _) (congrArg (World.drewN _) (Nat.add_assoc _ _ _))⟩); have p632 : 0 ≤ ((ji19) : Int) := of_decide_eq_true (by first | (with_reducible assumption) | assumption); have q632 : (ji19) < (x0_1.length : Int) := of_decide_eq_true (by first | (with_reducible assumption) | assumption); obtain ⟨ad632, e632, hx632_0⟩ := Kd.at_string (Kd.V_reads' HO_0.out).2.2 (ji19) p632 q632; obtain rfl : ad630 = ad632 := (by injection e632); replace p632 := eq_true p632; replace q632 := eq_true q632; have p25 : 0 ≤ ((ji22) : Int) := of_decide_eq_true (by first | (with_reducible assumption) | assumption); have q25 : (ji22) < ((rdOf ByteArray.empty x0_1 (ji19)).size : Int) := of_decide_eq_true (by first | (with_reducible assumption) | assumption); have hx25 := bt_at (rdOf ByteArray.empty x0_1 (ji19)) (ji22); replace p25 := eq_true p25; replace q25 := eq_true q25; have p633 : 0 ≤ (x9_2 : Int) := of_decide_eq_true (by first | (with_reducible assumption) | assumption); have q633 : x9_2 < (l1.length : Int) := of_decide_eq_true (by first | (with_reducible assumption) | assumption); obtain ⟨ad633, e633, hx633_0⟩ := Kd.at_string HR1.out x9_2 p633 q633; obtain rfl : ad628 = ad633 := (by injection e633); replace hx633_0 := (HB.out.cell (World.block_lt_of_cell? w _ hx633_0)).trans hx633_0; replace p633 := eq_true p633; replace q633 := eq_true q633; have p31 : 0 ≤ (x10_3 : Int) := of_decide_eq_true (by first | (with_reducible assumption) | assumption); have q31 : x10_3 < ((rdOf ByteArray.empty l1 x9_2).size : Int) := of_decide_eq_true (by first | (with_reducible assumption) | assumption); have hx31 := bt_at (rdOf ByteArray.empty l1 x9_2) x10_3; replace p31 := eq_true p31; replace q31 := eq_true q31)); try go_wp2_with (first | (go_at_call 73; (with_reducible refine (padlockref03_Within.calls ji19 0 (wrap64 ((x0_1.length : Int) - 1)) true _ A14.out).mono ?_); rintro e w' ⟨rfl, ⟨nd, rfl⟩⟩; (try first | exact ⟨rfl, _, World.drewN_drewN _ _ _⟩ | exact ⟨rfl, _, Eq.trans (World.drewN_drewN _ _ _) (congrArg (World.drewN _) (Nat.add_assoc _ _ _))⟩); have p630 : 0 ≤ (0 : Int) := (by omega); have q630 : 0 < (x0_1.length : Int) := of_decide_eq_true (by first | (with_reducible assumption) | assumption); obtain ⟨ad630, e630, hx630_0⟩ := Kd.at_string (Kd.V_reads' HO_0.out).2.2 0 p630 q630; cases e630; have qi630 : (0 < x0_1.length) = True := eq_true (by omega); (try rw [show ((0 : Int)).toNat = 0 from rfl] at hx630_0); (try rw [Addr.add_zero'] at hx630_0); replace p630 := eq_true p630; replace q630 := eq_true q630) | (go_at_call 73; (with_reducible refine (padlockref03_Within.calls ji22 0 (wrap64 (((rdOf ByteArray.empty x0_1 0).size : Int) - 1)) true _ A17.out).mono ?_); rintro e w' ⟨rfl, ⟨nd, rfl⟩⟩; (try first | exact ⟨rfl, _, World.drewN_drewN _ _ _⟩ | exact ⟨rfl, _, Eq.trans (World.drewN_drewN _ _ _) (congrArg (World.drewN _) (Nat.add_assoc _ _ _))⟩); have p632 : 0 ≤ ((ji19) : Int) := of_decide_eq_true (by first | (with_reducible assumption) | assumption); have q632 : (ji19) < (x0_1.length : Int) := of_decide_eq_true (by first | (with_reducible assumption) | assumption); obtain ⟨ad632, e632, hx632_0⟩ := Kd.at_string (Kd.V_reads' HO_0.out).2.2 (ji19) p632 q632; obtain rfl : ad630 = ad632 := (by injection e632); replace p632 := eq_true p632; replace q632 := eq_true q632; have p25 : 0 ≤ ((ji22) : Int) := of_decide_eq_true (by first | (with_reducible assumption) | assumption); have q25 : (ji22) < ((rdOf ByteArray.empty x0_1 (ji19)).size : Int) := of_decide_eq_true (by first | (with_reducible assumption) | assumption); have hx25 := bt_at (rdOf ByteArray.empty x0_1 (ji19)) (ji22); replace p25 := eq_true p25; replace q25 := eq_true q25; have p633 : 0 ≤ (x9_2 : Int) := of_decide_eq_true (by first | (with_reducible assumption) | assumption); have q633 : x9_2 < (l1.length : Int) := of_decide_eq_true (by first | (with_reducible assumption) | assumption); obtain ⟨ad633, e633, hx633_0⟩ := Kd.at_string HR1.out x9_2 p633 q633; obtain rfl : ad628 = ad633 := (by injection e633); replace hx633_0 := (HB.out.cell (World.block_lt_of_cell? w _ hx633_0)).trans hx633_0; replace p633 := eq_true p633; replace q633 := eq_true q633; have p31 : 0 ≤ (x10_3 : Int) := of_decide_eq_true (by first | (with_reducible assumption) | assumption); have q31 : x10_3 < ((rdOf ByteArray.empty l1 x9_2).size : Int) := of_decide_eq_true (by first | (with_reducible assumption) | assumption); have hx31 := bt_at (rdOf ByteArray.empty l1 x9_2) x10_3; replace p31 := eq_true p31; replace q31 := eq_true q31)))
                        go_roundg k3
                        case measure => have := HK1.out; have := HK2.out; have := HK3.out; omega
                        case rel => exact ⟨(x8_3), (wrap64 (x10_3 + 1)), (by first | rfl | (simp; done) | (simp [*]; done)), (by first | rfl | (simp; done) | (simp [*]; done)), H', ⟨by have := HK1.out; have := HK2.out; have := HK3.out; omega⟩, ⟨by (with_reducible repeat (first | apply Kd.V_alloc | apply Kd.V_drewN | apply Kd.V_drew)); exact HO_0.out⟩, ⟨by (with_reducible repeat (first | refine blk_drewN ?_ _ | refine blk_drew ?_ | refine blk_alloc ?_ _)); exact BK624.out⟩, ⟨by repeat (first | (with_reducible first | exact HB.out | apply below_alloc | apply pw_below_drewN | apply below_drew1 | refine below_set ?_ GE624.out) | exact HB.out)⟩⟩
                       ·rw [if_neg c32] at H
                        have c32b0 : ((bt (rdOf ByteArray.empty l1 x9_2) x10_3) == 46) = false := beq_eq_false_iff_ne.mpr c32
                        have c32b1 : ((bt (rdOf ByteArray.empty l1 x9_2) x10_3) != 46) = true := bne_iff_ne.mpr c32
                        have c35b0 := eq_true (of_decide_eq_true (by first | (with_reducible assumption) | assumption) : 0 ≤ x10_3)
                        by_cases c36 : x10_3 ≤ (wrap64 (x10_3 + 1))
                        ·rw [if_pos c36] at H
                         have c36b0 := eq_true c36
                         have c36b1 : decide (x10_3 ≤ (wrap64 (x10_3 + 1))) = true := decide_eq_true c36
                         by_cases c37 : (wrap64 (x10_3 + 1)) ≤ ((rdOf ByteArray.empty l1 x9_2).size : Int)
                         ·rw [if_pos c37] at H
                          have c37b0 := eq_true c37
                          have c37b1 : decide ((wrap64 (x10_3 + 1)) ≤ ((rdOf ByteArray.empty l1 x9_2).size : Int)) = true := decide_eq_true c37
                          by_cases c38 : x8_3.size + ((rdOf ByteArray.empty l1 x9_2).extract (x10_3 : Int).toNat ((wrap64 (x10_3 + 1)) : Int).toNat).size ≤ 9223372036854775807
                          ·rw [if_pos c38] at H
                           have c38b0 := eq_true c38
                           have c38b1 : decide (x8_3.size + ((rdOf ByteArray.empty l1 x9_2).extract (x10_3 : Int).toNat ((wrap64 (x10_3 + 1)) : Int).toNat).size ≤ 9223372036854775807) = true := decide_eq_true c38
                           try have c38b2 : (9223372036854775807 < x8_3.size + ((rdOf ByteArray.empty l1 x9_2).extract (x10_3 : Int).toNat ((wrap64 (x10_3 + 1)) : Int).toNat).size) = False := eq_false (Nat.not_lt.2 c38)
                           have H' := Aside0.mk H
                           clear H
                           have p628 : 0 ≤ (0 : Int) := (by omega)
                           have q628 : 0 < (l1.length : Int) := of_decide_eq_true (by first | (with_reducible assumption) | assumption)
                           obtain ⟨ad628, e628, hx628_0⟩ := Kd.at_string HR1.out 0 p628 q628
                           cases e628
                           have qi628 : (0 < l1.length) = True := eq_true (by omega)
                           (try rw [show ((0 : Int)).toNat = 0 from rfl] at hx628_0)
                           (try rw [Addr.add_zero'] at hx628_0)
                           replace hx628_0 := (HB.out.cell (World.block_lt_of_cell? w _ hx628_0)).trans hx628_0
                           replace p628 := eq_true p628
                           replace q628 := eq_true q628
                           have hcz39_0 : wr.cell? ⟨gb624, 0, none⟩ = some (.int .i64 a2_0) := (blk_cell BK624.out 0).trans rfl
                           have hcz39_1 : wr.cell? ⟨gb624, 1, none⟩ = some (.int .i64 a2_1) := (blk_cell BK624.out 1).trans rfl
                           have hcz39_2 : wr.cell? ⟨gb624, 2, none⟩ = some (.int .i64 a2_2) := (blk_cell BK624.out 2).trans rfl
                           have hfz39_0 := blk_frozen BK624.out 0
                           have hfz39_1 := blk_frozen BK624.out 1
                           have hfz39_2 := blk_frozen BK624.out 2
                           obtain ⟨Ao40, co40, eo40⟩ := Kd.V_slice HO_0.out
                           subst eo40
                           go_wp2_with (first | (go_at_call 73; (with_reducible refine (padlockref03_Within.calls ji19 0 (wrap64 ((x0_1.length : Int) - 1)) true _ A14.out).mono ?_); rintro e w' ⟨rfl, ⟨nd, rfl⟩⟩; (try first | exact ⟨rfl, _, World.drewN_drewN _ _ _⟩ | exact ⟨rfl, _, Eq.trans (World.drewN_drewN _ _ _) (congrArg (World.drewN _) (Nat.add_assoc _ _ _))⟩); have p630 : 0 ≤ (0 : Int) := (by omega); have q630 : 0 < (x0_1.length : Int) := of_decide_eq_true (by first | (with_reducible assumption) | assumption); obtain ⟨ad630, e630, hx630_0⟩ := Kd.at_string (Kd.V_reads' HO_0.out).2.2 0 p630 q630; cases e630; have qi630 : (0 < x0_1.length) = True := eq_true (by omega); (try rw [show ((0 : Int)).toNat = 0 from rfl] at hx630_0); (try rw [Addr.add_zero'] at hx630_0); replace p630 := eq_true p630; replace q630 := eq_true q630) | (go_at_call 73; (with_reducible refine (padlockref03_Within.calls ji22 0 (wrap64 (((rdOf ByteArray.empty x0_1 0).size : Int) - 1)) true _ A17.out).mono ?_); rintro e w' ⟨rfl, ⟨nd, rfl⟩⟩; (try first | exact ⟨rfl, _, World.drewN_drewN _ _ _⟩ | exact ⟨rfl, _, Eq.trans (World.drewN_drewN _ _ _) (congrArg (World.drewN _) (Nat.add_assoc _ _ _))⟩); have p632 : 0 ≤ ((ji19) : Int) := of_decide_eq_true (by first | (with_reducible assumption) | assumption); have q632 : (ji19) < (x0_1.length : Int) := of_decide_eq_true (by first | (with_reducible assumption) | assumption); obtain ⟨ad632, e632, hx632_0⟩ := Kd.at_string (Kd.V_reads' HO_0.out).2.2 (ji19) p632 q632; obtain rfl : ad630 = ad632 := (by injection e632); replace p632 := eq_true p632; replace q632 := eq_true q632; have p25 : 0 ≤ ((ji22) : Int) := of_decide_eq_true (by first | (with_reducible assumption) | assumption); have q25 : (ji22) < ((rdOf ByteArray.empty x0_1 (ji19)).size : Int) := of_decide_eq_true (by first | (with_reducible assumption) | assumption); have hx25 := bt_at (rdOf ByteArray.empty x0_1 (ji19)) (ji22); replace p25 := eq_true p25; replace q25 := eq_true q25; have p633 : 0 ≤ (x9_2 : Int) := of_decide_eq_true (by first | (with_reducible assumption) | assumption); have q633 : x9_2 < (l1.length : Int) := of_decide_eq_true (by first | (with_reducible assumption) | assumption); obtain ⟨ad633, e633, hx633_0⟩ := Kd.at_string HR1.out x9_2 p633 q633; obtain rfl : ad628 = ad633 := (by injection e633); replace hx633_0 := (HB.out.cell (World.block_lt_of_cell? w _ hx633_0)).trans hx633_0; replace p633 := eq_true p633; replace q633 := eq_true q633; have p31 : 0 ≤ (x10_3 : Int) := of_decide_eq_true (by first | (with_reducible assumption) | assumption); have q31 : x10_3 < ((rdOf ByteArray.empty l1 x9_2).size : Int) := of_decide_eq_true (by first | (with_reducible assumption) | assumption); have hx31 := bt_at (rdOf ByteArray.empty l1 x9_2) x10_3; replace p31 := eq_true p31; replace q31 := eq_true q31; have p634 : 0 ≤ (x9_2 : Int) := of_decide_eq_true (by first | (with_reducible assumption) | assumption); have q634 : x9_2 < (l1.length : Int) := of_decide_eq_true (by first | (with_reducible assumption) | assumption); obtain ⟨ad634, e634, hx634_0⟩ := Kd.at_string HR1.out x9_2 p634 q634; obtain rfl : ad628 = ad634 := (by injection e634); replace hx634_0 := (HB.out.cell (World.block_lt_of_cell? w _ hx634_0)).trans hx634_0; replace p634 := eq_true p634; replace q634 := eq_true q634))
                           repeat (go_quiet (first | (go_at_call 73; (with_reducible refine (padlockref03_Within.calls ji19 0 (wrap64 ((x0_1.length : Int) - 1)) true _ A14.out).mono ?_); rintro e w' ⟨rfl, ⟨nd, rfl⟩⟩; (try first | exact ⟨rfl, _, World.drewN_drewN _ _ _⟩ | exact ⟨rfl, _, Eq.trans (World.drewN_drewN _ _ _) (congrArg (World.drewN _) (Nat.add_assoc _ _ _))⟩); have p630 : 0 ≤ (0 : Int) := (by omega); have q630 : 0 < (x0_1.length : Int) := of_decide_eq_true (by first | (with_reducible assumption) | assumption); obtain ⟨ad630, e630, hx630_0⟩ := Kd.at_string (Kd.V_reads' HO_0.out).2.2 0 p630 q630; cases e630; have qi630 : (0 < x0_1.length) = True := eq_true (by omega); (try rw [show ((0 : Int)).toNat = 0 from rfl] at hx630_0); (try rw [Addr.add_zero'] at hx630_0); replace p630 := eq_true p630; replace q630 := eq_true q630) | (go_at_call 73; (with_reducible refine (padlockref03_Within.calls ji22 0 (wrap64 (((rdOf ByteArray.empty x0_1 0).size : Int) - 1)) true _ A17.out).mono ?_); rintro e w' ⟨rfl, ⟨nd, rfl⟩⟩; (try first | exact ⟨rfl, _, World.drewN_drewN _ _ _⟩ | exact ⟨rfl, _, Eq.trans (World.drewN_drewN _ _ _) (congrArg (World.drewN _) (Nat.add_assoc _ _ _))⟩); have p632 : 0 ≤ ((ji19) : Int) := of_decide_eq_true (by first | (with_reducible assumption) | assumption); have q632 : (ji19) < (x0_1.length : Int) := of_decide_eq_true (by first | (with_reducible assumption) | assumption); obtain ⟨ad632, e632, hx632_0⟩ := Kd.at_string (Kd.V_reads' HO_0.out).2.2 (ji19) p632 q632; obtain rfl : ad630 = ad632 := (by injection e632); replace p632 := eq_true p632; replace q632 := eq_true q632; have p25 : 0 ≤ ((ji22) : Int) := of_decide_eq_true (by first | (with_reducible assumption) | assumption); have q25 : (ji22) < ((rdOf ByteArray.empty x0_1 (ji19)).size : Int) := of_decide_eq_true (by first | (with_reducible assumption) | assumption); have hx25 := bt_at (rdOf ByteArray.empty x0_1 (ji19)) (ji22); replace p25 := eq_true p25; replace q25 := eq_true q25; have p633 : 0 ≤ (x9_2 : Int) := of_decide_eq_true (by first | (with_reducible assumption) | assumption); have q633 : x9_2 < (l1.length : Int) := of_decide_eq_true (by first | (with_reducible assumption) | assumption); obtain ⟨ad633, e633, hx633_0⟩ := Kd.at_string HR1.out x9_2 p633 q633; obtain rfl : ad628 = ad633 := (by injection e633); replace hx633_0 := (HB.out.cell (World.block_lt_of_cell? w _ hx633_0)).trans hx633_0; replace p633 := eq_true p633; replace q633 := eq_true q633; have p31 : 0 ≤ (x10_3 : Int) := of_decide_eq_true (by first | (with_reducible assumption) | assumption); have q31 : x10_3 < ((rdOf ByteArray.empty l1 x9_2).size : Int) := of_decide_eq_true (by first | (with_reducible assumption) | assumption); have hx31 := bt_at (rdOf ByteArray.empty l1 x9_2) x10_3; replace p31 := eq_true p31; replace q31 := eq_true q31; have p634 : 0 ≤ (x9_2 : Int) := of_decide_eq_true (by first | (with_reducible assumption) | assumption); have q634 : x9_2 < (l1.length : Int) := of_decide_eq_true (by first | (with_reducible assumption) | assumption); obtain ⟨ad634, e634, hx634_0⟩ := Kd.at_string HR1.out x9_2 p634 q634; obtain rfl : ad628 = ad634 := (by injection e634); replace hx634_0 := (HB.out.cell (World.block_lt_of_cell? w _ hx634_0)).trans hx634_0; replace p634 := eq_true p634; replace q634 := eq_true q634)); try go_wp2_with (first | (go_at_call 73; (with_reducible refine (padlockref03_Within.calls ji19 0 (wrap64 ((x0_1.length : Int) - 1)) true _ A14.out).mono ?_); rintro e w' ⟨rfl, ⟨nd, rfl⟩⟩; (try first | exact ⟨rfl, _, World.drewN_drewN _ _ _⟩ | exact ⟨rfl, _, Eq.trans (World.drewN_drewN _ _ _) (congrArg (World.drewN _) (Nat.add_assoc _ _ _))⟩); have p630 : 0 ≤ (0 : Int) := (by omega); have q630 : 0 < (x0_1.length : Int) := of_decide_eq_true (by first | (with_reducible assumption) | assumption); obtain ⟨ad630, e630, hx630_0⟩ := Kd.at_string (Kd.V_reads' HO_0.out).2.2 0 p630 q630; cases e630; have qi630 : (0 < x0_1.length) = True := eq_true (by omega); (try rw [show ((0 : Int)).toNat = 0 from rfl] at hx630_0); (try rw [Addr.add_zero'] at hx630_0); replace p630 := eq_true p630; replace q630 := eq_true q630) | (go_at_call 73; (with_reducible refine (padlockref03_Within.calls ji22 0 (wrap64 (((rdOf ByteArray.empty x0_1 0).size : Int) - 1)) true _ A17.out).mono ?_); rintro e w' ⟨rfl, ⟨nd, rfl⟩⟩; (try first | exact ⟨rfl, _, World.drewN_drewN _ _ _⟩ | exact ⟨rfl, _, Eq.trans (World.drewN_drewN _ _ _) (congrArg (World.drewN _) (Nat.add_assoc _ _ _))⟩); have p632 : 0 ≤ ((ji19) : Int) := of_decide_eq_true (by first | (with_reducible assumption) | assumption); have q632 : (ji19) < (x0_1.length : Int) := of_decide_eq_true (by first | (with_reducible assumption) | assumption); obtain ⟨ad632, e632, hx632_0⟩ := Kd.at_string (Kd.V_reads' HO_0.out).2.2 (ji19) p632 q632; obtain rfl : ad630 = ad632 := (by injection e632); replace p632 := eq_true p632; replace q632 := eq_true q632; have p25 : 0 ≤ ((ji22) : Int) := of_decide_eq_true (by first | (with_reducible assumption) | assumption); have q25 : (ji22) < ((rdOf ByteArray.empty x0_1 (ji19)).size : Int) := of_decide_eq_true (by first | (with_reducible assumption) | assumption); have hx25 := bt_at (rdOf ByteArray.empty x0_1 (ji19)) (ji22); replace p25 := eq_true p25; replace q25 := eq_true q25; have p633 : 0 ≤ (x9_2 : Int) := of_decide_eq_true (by first | (with_reducible assumption) | assumption); have q633 : x9_2 < (l1.length : Int) := of_decide_eq_true (by first | (with_reducible assumption) | assumption); obtain ⟨ad633, e633, hx633_0⟩ := Kd.at_string HR1.out x9_2 p633 q633; obtain rfl : ad628 = ad633 := (by injection e633); replace hx633_0 := (HB.out.cell (World.block_lt_of_cell? w _ hx633_0)).trans hx633_0; replace p633 := eq_true p633; replace q633 := eq_true q633; have p31 : 0 ≤ (x10_3 : Int) := of_decide_eq_true (by first | (with_reducible assumption) | assumption); have q31 : x10_3 < ((rdOf ByteArray.empty l1 x9_2).size : Int) := of_decide_eq_true (by first | (with_reducible assumption) | assumption); have hx31 := bt_at (rdOf ByteArray.empty l1 x9_2) x10_3; replace p31 := eq_true p31; replace q31 := eq_true q31; have p634 : 0 ≤ (x9_2 : Int) := of_decide_eq_true (by first | (with_reducible assumption) | assumption); have q634 : x9_2 < (l1.length : Int) := of_decide_eq_true (by first | (with_reducible assumption) | assumption); obtain ⟨ad634, e634, hx634_0⟩ := Kd.at_string HR1.out x9_2 p634 q634; obtain rfl : ad628 = ad634 := (by injection e634); replace hx634_0 := (HB.out.cell (World.block_lt_of_cell? w _ hx634_0)).trans hx634_0; replace p634 := eq_true p634; replace q634 := eq_true q634)))
                           go_roundg k3
                           case measure => have := HK1.out; have := HK2.out; have := HK3.out; omega
                           case rel => exact ⟨(x8_3 ++ ((rdOf ByteArray.empty l1 x9_2).extract (x10_3 : Int).toNat ((wrap64 (x10_3 + 1)) : Int).toNat)), (wrap64 (x10_3 + 1)), (by first | rfl | (simp; done) | (simp [*]; done)), (by first | rfl | (simp; done) | (simp [*]; done)), H', ⟨by have := HK1.out; have := HK2.out; have := HK3.out; omega⟩, ⟨by (with_reducible repeat (first | apply Kd.V_alloc | apply Kd.V_drewN | apply Kd.V_drew)); exact HO_0.out⟩, ⟨by (with_reducible repeat (first | refine blk_drewN ?_ _ | refine blk_drew ?_ | refine blk_alloc ?_ _)); exact BK624.out⟩, ⟨by repeat (first | (with_reducible first | exact HB.out | apply below_alloc | apply pw_below_drewN | apply below_drew1 | refine below_set ?_ GE624.out) | exact HB.out)⟩⟩
                          ·rw [if_neg c38] at H
                           exact absurd H (by simp)
                         ·rw [if_neg c37] at H
                          exact absurd H (by simp)
                        ·rw [if_neg c36] at H
                         exact absurd H (by simp)
                      ·rw [if_neg c30] at H
                       exact absurd H (by simp)
                     ·rw [if_neg c29] at H
                      exact absurd H (by simp)
                    ·rw [if_neg c28] at H
                     exact absurd H (by simp)
                   ·rw [if_neg c27] at H
                    exact absurd H (by simp)
                  ·rw [if_neg c26] at H
                   have c26b0 : ((bt (rdOf ByteArray.empty x0_1 (ji19)) (ji22)) == 46) = false := beq_eq_false_iff_ne.mpr c26
                   have c26b1 : ((bt (rdOf ByteArray.empty x0_1 (ji19)) (ji22)) != 46) = true := bne_iff_ne.mpr c26
                   have H' := Aside0.mk H
                   clear H
                   have p628 : 0 ≤ (0 : Int) := (by omega)
                   have q628 : 0 < (l1.length : Int) := of_decide_eq_true (by first | (with_reducible assumption) | assumption)
                   obtain ⟨ad628, e628, hx628_0⟩ := Kd.at_string HR1.out 0 p628 q628
                   cases e628
                   have qi628 : (0 < l1.length) = True := eq_true (by omega)
                   (try rw [show ((0 : Int)).toNat = 0 from rfl] at hx628_0)
                   (try rw [Addr.add_zero'] at hx628_0)
                   replace hx628_0 := (HB.out.cell (World.block_lt_of_cell? w _ hx628_0)).trans hx628_0
                   replace p628 := eq_true p628
                   replace q628 := eq_true q628
                   have hcz41_0 : wr.cell? ⟨gb624, 0, none⟩ = some (.int .i64 a2_0) := (blk_cell BK624.out 0).trans rfl
                   have hcz41_1 : wr.cell? ⟨gb624, 1, none⟩ = some (.int .i64 a2_1) := (blk_cell BK624.out 1).trans rfl
                   have hcz41_2 : wr.cell? ⟨gb624, 2, none⟩ = some (.int .i64 a2_2) := (blk_cell BK624.out 2).trans rfl
                   have hfz41_0 := blk_frozen BK624.out 0
                   have hfz41_1 := blk_frozen BK624.out 1
                   have hfz41_2 := blk_frozen BK624.out 2
                   obtain ⟨Ao42, co42, eo42⟩ := Kd.V_slice HO_0.out
                   subst eo42
                   go_wp2_with (first | (go_at_call 73; (with_reducible refine (padlockref03_Within.calls ji19 0 (wrap64 ((x0_1.length : Int) - 1)) true _ A14.out).mono ?_); rintro e w' ⟨rfl, ⟨nd, rfl⟩⟩; (try first | exact ⟨rfl, _, World.drewN_drewN _ _ _⟩ | exact ⟨rfl, _, Eq.trans (World.drewN_drewN _ _ _) (congrArg (World.drewN _) (Nat.add_assoc _ _ _))⟩); have p630 : 0 ≤ (0 : Int) := (by omega); have q630 : 0 < (x0_1.length : Int) := of_decide_eq_true (by first | (with_reducible assumption) | assumption); obtain ⟨ad630, e630, hx630_0⟩ := Kd.at_string (Kd.V_reads' HO_0.out).2.2 0 p630 q630; cases e630; have qi630 : (0 < x0_1.length) = True := eq_true (by omega); (try rw [show ((0 : Int)).toNat = 0 from rfl] at hx630_0); (try rw [Addr.add_zero'] at hx630_0); replace p630 := eq_true p630; replace q630 := eq_true q630) | (go_at_call 73; (with_reducible refine (padlockref03_Within.calls ji22 0 (wrap64 (((rdOf ByteArray.empty x0_1 0).size : Int) - 1)) true _ A17.out).mono ?_); rintro e w' ⟨rfl, ⟨nd, rfl⟩⟩; (try first | exact ⟨rfl, _, World.drewN_drewN _ _ _⟩ | exact ⟨rfl, _, Eq.trans (World.drewN_drewN _ _ _) (congrArg (World.drewN _) (Nat.add_assoc _ _ _))⟩); have p632 : 0 ≤ ((ji19) : Int) := of_decide_eq_true (by first | (with_reducible assumption) | assumption); have q632 : (ji19) < (x0_1.length : Int) := of_decide_eq_true (by first | (with_reducible assumption) | assumption); obtain ⟨ad632, e632, hx632_0⟩ := Kd.at_string (Kd.V_reads' HO_0.out).2.2 (ji19) p632 q632; obtain rfl : ad630 = ad632 := (by injection e632); replace p632 := eq_true p632; replace q632 := eq_true q632; have p25 : 0 ≤ ((ji22) : Int) := of_decide_eq_true (by first | (with_reducible assumption) | assumption); have q25 : (ji22) < ((rdOf ByteArray.empty x0_1 (ji19)).size : Int) := of_decide_eq_true (by first | (with_reducible assumption) | assumption); have hx25 := bt_at (rdOf ByteArray.empty x0_1 (ji19)) (ji22); replace p25 := eq_true p25; replace q25 := eq_true q25))
                   repeat (go_quiet (first | (go_at_call 73; (with_reducible refine (padlockref03_Within.calls ji19 0 (wrap64 ((x0_1.length : Int) - 1)) true _ A14.out).mono ?_); rintro e w' ⟨rfl, ⟨nd, rfl⟩⟩; (try first | exact ⟨rfl, _, World.drewN_drewN _ _ _⟩ | exact ⟨rfl, _, Eq.trans (World.drewN_drewN _ _ _) (congrArg (World.drewN _) (Nat.add_assoc _ _ _))⟩); have p630 : 0 ≤ (0 : Int) := (by omega); have q630 : 0 < (x0_1.length : Int) := of_decide_eq_true (by first | (with_reducible assumption) | assumption); obtain ⟨ad630, e630, hx630_0⟩ := Kd.at_string (Kd.V_reads' HO_0.out).2.2 0 p630 q630; cases e630; have qi630 : (0 < x0_1.length) = True := eq_true (by omega); (try rw [show ((0 : Int)).toNat = 0 from rfl] at hx630_0); (try rw [Addr.add_zero'] at hx630_0); replace p630 := eq_true p630; replace q630 := eq_true q630) | (go_at_call 73; (with_reducible refine (padlockref03_Within.calls ji22 0 (wrap64 (((rdOf ByteArray.empty x0_1 0).size : Int) - 1)) true _ A17.out).mono ?_); rintro e w' ⟨rfl, ⟨nd, rfl⟩⟩; (try first | exact ⟨rfl, _, World.drewN_drewN _ _ _⟩ | exact ⟨rfl, _, Eq.trans (World.drewN_drewN _ _ _) (congrArg (World.drewN _) (Nat.add_assoc _ _ _))⟩); have p632 : 0 ≤ ((ji19) : Int) := of_decide_eq_true (by first | (with_reducible assumption) | assumption); have q632 : (ji19) < (x0_1.length : Int) := of_decide_eq_true (by first | (with_reducible assumption) | assumption); obtain ⟨ad632, e632, hx632_0⟩ := Kd.at_string (Kd.V_reads' HO_0.out).2.2 (ji19) p632 q632; obtain rfl : ad630 = ad632 := (by injection e632); replace p632 := eq_true p632; replace q632 := eq_true q632; have p25 : 0 ≤ ((ji22) : Int) := of_decide_eq_true (by first | (with_reducible assumption) | assumption); have q25 : (ji22) < ((rdOf ByteArray.empty x0_1 (ji19)).size : Int) := of_decide_eq_true (by first | (with_reducible assumption) | assumption); have hx25 := bt_at (rdOf ByteArray.empty x0_1 (ji19)) (ji22); replace p25 := eq_true p25; replace q25 := eq_true q25)); try go_wp2_with (first | (go_at_call 73; (with_reducible refine (padlockref03_Within.calls ji19 0 (wrap64 ((x0_1.length : Int) - 1)) true _ A14.out).mono ?_); rintro e w' ⟨rfl, ⟨nd, rfl⟩⟩; (try first | exact ⟨rfl, _, World.drewN_drewN _ _ _⟩ | exact ⟨rfl, _, Eq.trans (World.drewN_drewN _ _ _) (congrArg (World.drewN _) (Nat.add_assoc _ _ _))⟩); have p630 : 0 ≤ (0 : Int) := (by omega); have q630 : 0 < (x0_1.length : Int) := of_decide_eq_true (by first | (with_reducible assumption) | assumption); obtain ⟨ad630, e630, hx630_0⟩ := Kd.at_string (Kd.V_reads' HO_0.out).2.2 0 p630 q630; cases e630; have qi630 : (0 < x0_1.length) = True := eq_true (by omega); (try rw [show ((0 : Int)).toNat = 0 from rfl] at hx630_0); (try rw [Addr.add_zero'] at hx630_0); replace p630 := eq_true p630; replace q630 := eq_true q630) | (go_at_call 73; (with_reducible refine (padlockref03_Within.calls ji22 0 (wrap64 (((rdOf ByteArray.empty x0_1 0).size : Int) - 1)) true _ A17.out).mono ?_); rintro e w' ⟨rfl, ⟨nd, rfl⟩⟩; (try first | exact ⟨rfl, _, World.drewN_drewN _ _ _⟩ | exact ⟨rfl, _, Eq.trans (World.drewN_drewN _ _ _) (congrArg (World.drewN _) (Nat.add_assoc _ _ _))⟩); have p632 : 0 ≤ ((ji19) : Int) := of_decide_eq_true (by first | (with_reducible assumption) | assumption); have q632 : (ji19) < (x0_1.length : Int) := of_decide_eq_true (by first | (with_reducible assumption) | assumption); obtain ⟨ad632, e632, hx632_0⟩ := Kd.at_string (Kd.V_reads' HO_0.out).2.2 (ji19) p632 q632; obtain rfl : ad630 = ad632 := (by injection e632); replace p632 := eq_true p632; replace q632 := eq_true q632; have p25 : 0 ≤ ((ji22) : Int) := of_decide_eq_true (by first | (with_reducible assumption) | assumption); have q25 : (ji22) < ((rdOf ByteArray.empty x0_1 (ji19)).size : Int) := of_decide_eq_true (by first | (with_reducible assumption) | assumption); have hx25 := bt_at (rdOf ByteArray.empty x0_1 (ji19)) (ji22); replace p25 := eq_true p25; replace q25 := eq_true q25)))
                   go_roundg k3
                   case measure => have := HK1.out; have := HK2.out; have := HK3.out; omega
                   case rel => exact ⟨(x8_3), (wrap64 (x10_3 + 1)), (by first | rfl | (simp; done) | (simp [*]; done)), (by first | rfl | (simp; done) | (simp [*]; done)), H', ⟨by have := HK1.out; have := HK2.out; have := HK3.out; omega⟩, ⟨by (with_reducible repeat (first | apply Kd.V_alloc | apply Kd.V_drewN | apply Kd.V_drew)); exact HO_0.out⟩, ⟨by (with_reducible repeat (first | refine blk_drewN ?_ _ | refine blk_drew ?_ | refine blk_alloc ?_ _)); exact BK624.out⟩, ⟨by repeat (first | (with_reducible first | exact HB.out | apply below_alloc | apply pw_below_drewN | apply below_drew1 | refine below_set ?_ GE624.out) | exact HB.out)⟩⟩
                 ·rw [if_neg c24] at H
                  exact absurd H (by simp)
                ·rw [if_neg c23] at H
                 exact absurd H (by simp)
               ·rw [if_neg c21] at H
                exact absurd H (by simp)
              ·rw [if_neg c20] at H
               exact absurd H (by simp)
             ·replace c18 := Bool.eq_false_iff.mpr c18
              subst c18
              have H1 : (padlockref03_see.l2 k3 x0_1 l1 x8_3 x9_2 (wrap64 (x10_3 + 1)) a2_0 a2_1 a2_2) = some r := by rw [if_neg (show ¬ (false = true) by decide)] at H; exact H
              clear H
              have H := H1
              clear H1
              have H' := Aside0.mk H
              clear H
              have p628 : 0 ≤ (0 : Int) := (by omega)
              have q628 : 0 < (l1.length : Int) := of_decide_eq_true (by first | (with_reducible assumption) | assumption)
              obtain ⟨ad628, e628, hx628_0⟩ := Kd.at_string HR1.out 0 p628 q628
              cases e628
              have qi628 : (0 < l1.length) = True := eq_true (by omega)
              (try rw [show ((0 : Int)).toNat = 0 from rfl] at hx628_0)
              (try rw [Addr.add_zero'] at hx628_0)
              replace hx628_0 := (HB.out.cell (World.block_lt_of_cell? w _ hx628_0)).trans hx628_0
              replace p628 := eq_true p628
              replace q628 := eq_true q628
              have hcz43_0 : wr.cell? ⟨gb624, 0, none⟩ = some (.int .i64 a2_0) := (blk_cell BK624.out 0).trans rfl
              have hcz43_1 : wr.cell? ⟨gb624, 1, none⟩ = some (.int .i64 a2_1) := (blk_cell BK624.out 1).trans rfl
              have hcz43_2 : wr.cell? ⟨gb624, 2, none⟩ = some (.int .i64 a2_2) := (blk_cell BK624.out 2).trans rfl
              have hfz43_0 := blk_frozen BK624.out 0
              have hfz43_1 := blk_frozen BK624.out 1
              have hfz43_2 := blk_frozen BK624.out 2
              obtain ⟨Ao44, co44, eo44⟩ := Kd.V_slice HO_0.out
              subst eo44
              go_wp2_with (first | (go_at_call 73; (with_reducible refine (padlockref03_Within.calls (wrap64 (x9_2 - a2_2)) 0 (wrap64 ((x0_1.length : Int) - 1)) true _ A14.out).mono ?_); rintro e w' ⟨rfl, ⟨nd, rfl⟩⟩; (try first | exact ⟨rfl, _, World.drewN_drewN _ _ _⟩ | exact ⟨rfl, _, Eq.trans (World.drewN_drewN _ _ _) (congrArg (World.drewN _) (Nat.add_assoc _ _ _))⟩); have p630 : 0 ≤ (0 : Int) := (by omega); have q630 : 0 < (x0_1.length : Int) := of_decide_eq_true (by first | (with_reducible assumption) | assumption); obtain ⟨ad630, e630, hx630_0⟩ := Kd.at_string (Kd.V_reads' HO_0.out).2.2 0 p630 q630; cases e630; have qi630 : (0 < x0_1.length) = True := eq_true (by omega); (try rw [show ((0 : Int)).toNat = 0 from rfl] at hx630_0); (try rw [Addr.add_zero'] at hx630_0); replace p630 := eq_true p630; replace q630 := eq_true q630) | (go_at_call 73; (with_reducible refine (padlockref03_Within.calls (wrap64 (x10_3 - a2_1)) 0 (wrap64 (((rdOf ByteArray.empty x0_1 0).size : Int) - 1)) false _ A17.out).mono ?_); rintro e w' ⟨rfl, ⟨nd, rfl⟩⟩; (try first | exact ⟨rfl, _, World.drewN_drewN _ _ _⟩ | exact ⟨rfl, _, Eq.trans (World.drewN_drewN _ _ _) (congrArg (World.drewN _) (Nat.add_assoc _ _ _))⟩)))
              repeat (go_quiet (first | (go_at_call 73; (with_reducible refine (padlockref03_Within.calls (wrap64 (x9_2 - a2_2)) 0 (wrap64 ((x0_1.length : Int) - 1)) true _ A14.out).mono ?_); rintro e w' ⟨rfl, ⟨nd, rfl⟩⟩; (try first | exact ⟨rfl, _, World.drewN_drewN _ _ _⟩ | exact ⟨rfl, _, Eq.trans (World.drewN_drewN _ _ _) (congrArg (World.drewN _) (Nat.add_assoc _ _ _))⟩); have p630 : 0 ≤ (0 : Int) := (by omega); have q630 : 0 < (x0_1.length : Int) := of_decide_eq_true (by first | (with_reducible assumption) | assumption); obtain ⟨ad630, e630, hx630_0⟩ := Kd.at_string (Kd.V_reads' HO_0.out).2.2 0 p630 q630; cases e630; have qi630 : (0 < x0_1.length) = True := eq_true (by omega); (try rw [show ((0 : Int)).toNat = 0 from rfl] at hx630_0); (try rw [Addr.add_zero'] at hx630_0); replace p630 := eq_true p630; replace q630 := eq_true q630) | (go_at_call 73; (with_reducible refine (padlockref03_Within.calls (wrap64 (x10_3 - a2_1)) 0 (wrap64 (((rdOf ByteArray.empty x0_1 0).size : Int) - 1)) false _ A17.out).mono ?_); rintro e w' ⟨rfl, ⟨nd, rfl⟩⟩; (try first | exact ⟨rfl, _, World.drewN_drewN _ _ _⟩ | exact ⟨rfl, _, Eq.trans (World.drewN_drewN _ _ _) (congrArg (World.drewN _) (Nat.add_assoc _ _ _))⟩))); try go_wp2_with (first | (go_at_call 73; (with_reducible refine (padlockref03_Within.calls (wrap64 (x9_2 - a2_2)) 0 (wrap64 ((x0_1.length : Int) - 1)) true _ A14.out).mono ?_); rintro e w' ⟨rfl, ⟨nd, rfl⟩⟩; (try first | exact ⟨rfl, _, World.drewN_drewN _ _ _⟩ | exact ⟨rfl, _, Eq.trans (World.drewN_drewN _ _ _) (congrArg (World.drewN _) (Nat.add_assoc _ _ _))⟩); have p630 : 0 ≤ (0 : Int) := (by omega); have q630 : 0 < (x0_1.length : Int) := of_decide_eq_true (by first | (with_reducible assumption) | assumption); obtain ⟨ad630, e630, hx630_0⟩ := Kd.at_string (Kd.V_reads' HO_0.out).2.2 0 p630 q630; cases e630; have qi630 : (0 < x0_1.length) = True := eq_true (by omega); (try rw [show ((0 : Int)).toNat = 0 from rfl] at hx630_0); (try rw [Addr.add_zero'] at hx630_0); replace p630 := eq_true p630; replace q630 := eq_true q630) | (go_at_call 73; (with_reducible refine (padlockref03_Within.calls (wrap64 (x10_3 - a2_1)) 0 (wrap64 (((rdOf ByteArray.empty x0_1 0).size : Int) - 1)) false _ A17.out).mono ?_); rintro e w' ⟨rfl, ⟨nd, rfl⟩⟩; (try first | exact ⟨rfl, _, World.drewN_drewN _ _ _⟩ | exact ⟨rfl, _, Eq.trans (World.drewN_drewN _ _ _) (congrArg (World.drewN _) (Nat.add_assoc _ _ _))⟩))))
              go_roundg k3
              case measure => have := HK1.out; have := HK2.out; have := HK3.out; omega
              case rel => exact ⟨(x8_3), (wrap64 (x10_3 + 1)), (by first | rfl | (simp; done) | (simp [*]; done)), (by first | rfl | (simp; done) | (simp [*]; done)), H', ⟨by have := HK1.out; have := HK2.out; have := HK3.out; omega⟩, ⟨by (with_reducible repeat (first | apply Kd.V_alloc | apply Kd.V_drewN | apply Kd.V_drew)); exact HO_0.out⟩, ⟨by (with_reducible repeat (first | refine blk_drewN ?_ _ | refine blk_drew ?_ | refine blk_alloc ?_ _)); exact BK624.out⟩, ⟨by repeat (first | (with_reducible first | exact HB.out | apply below_alloc | apply pw_below_drewN | apply below_drew1 | refine below_set ?_ GE624.out) | exact HB.out)⟩⟩
            ·rw [if_neg c16] at H
             exact absurd H (by simp)
           ·replace c15 := Bool.eq_false_iff.mpr c15
            subst c15
            have H1 : (padlockref03_see.l2 k3 x0_1 l1 x8_3 x9_2 (wrap64 (x10_3 + 1)) a2_0 a2_1 a2_2) = some r := by rw [if_neg (show ¬ (false = true) by decide)] at H; exact H
            clear H
            have H := H1
            clear H1
            have H' := Aside0.mk H
            clear H
            have p628 : 0 ≤ (0 : Int) := (by omega)
            have q628 : 0 < (l1.length : Int) := of_decide_eq_true (by first | (with_reducible assumption) | assumption)
            obtain ⟨ad628, e628, hx628_0⟩ := Kd.at_string HR1.out 0 p628 q628
            cases e628
            have qi628 : (0 < l1.length) = True := eq_true (by omega)
            (try rw [show ((0 : Int)).toNat = 0 from rfl] at hx628_0)
            (try rw [Addr.add_zero'] at hx628_0)
            replace hx628_0 := (HB.out.cell (World.block_lt_of_cell? w _ hx628_0)).trans hx628_0
            replace p628 := eq_true p628
            replace q628 := eq_true q628
            have hcz45_0 : wr.cell? ⟨gb624, 0, none⟩ = some (.int .i64 a2_0) := (blk_cell BK624.out 0).trans rfl
            have hcz45_1 : wr.cell? ⟨gb624, 1, none⟩ = some (.int .i64 a2_1) := (blk_cell BK624.out 1).trans rfl
            have hcz45_2 : wr.cell? ⟨gb624, 2, none⟩ = some (.int .i64 a2_2) := (blk_cell BK624.out 2).trans rfl
            have hfz45_0 := blk_frozen BK624.out 0
            have hfz45_1 := blk_frozen BK624.out 1
            have hfz45_2 := blk_frozen BK624.out 2
            obtain ⟨Ao46, co46, eo46⟩ := Kd.V_slice HO_0.out
            subst eo46
            go_wp2_with (first | (go_at_call 73; (with_reducible refine (padlockref03_Within.calls (wrap64 (x9_2 - a2_2)) 0 (wrap64 ((x0_1.length : Int) - 1)) false _ A14.out).mono ?_); rintro e w' ⟨rfl, ⟨nd, rfl⟩⟩; (try first | exact ⟨rfl, _, World.drewN_drewN _ _ _⟩ | exact ⟨rfl, _, Eq.trans (World.drewN_drewN _ _ _) (congrArg (World.drewN _) (Nat.add_assoc _ _ _))⟩)))
            repeat (go_quiet (first | (go_at_call 73; (with_reducible refine (padlockref03_Within.calls (wrap64 (x9_2 - a2_2)) 0 (wrap64 ((x0_1.length : Int) - 1)) false _ A14.out).mono ?_); rintro e w' ⟨rfl, ⟨nd, rfl⟩⟩; (try first | exact ⟨rfl, _, World.drewN_drewN _ _ _⟩ | exact ⟨rfl, _, Eq.trans (World.drewN_drewN _ _ _) (congrArg (World.drewN _) (Nat.add_assoc _ _ _))⟩))); try go_wp2_with (first | (go_at_call 73; (with_reducible refine (padlockref03_Within.calls (wrap64 (x9_2 - a2_2)) 0 (wrap64 ((x0_1.length : Int) - 1)) false _ A14.out).mono ?_); rintro e w' ⟨rfl, ⟨nd, rfl⟩⟩; (try first | exact ⟨rfl, _, World.drewN_drewN _ _ _⟩ | exact ⟨rfl, _, Eq.trans (World.drewN_drewN _ _ _) (congrArg (World.drewN _) (Nat.add_assoc _ _ _))⟩))))
            go_roundg k3
            case measure => have := HK1.out; have := HK2.out; have := HK3.out; omega
            case rel => exact ⟨(x8_3), (wrap64 (x10_3 + 1)), (by first | rfl | (simp; done) | (simp [*]; done)), (by first | rfl | (simp; done) | (simp [*]; done)), H', ⟨by have := HK1.out; have := HK2.out; have := HK3.out; omega⟩, ⟨by (with_reducible repeat (first | apply Kd.V_alloc | apply Kd.V_drewN | apply Kd.V_drew)); exact HO_0.out⟩, ⟨by (with_reducible repeat (first | refine blk_drewN ?_ _ | refine blk_drew ?_ | refine blk_alloc ?_ _)); exact BK624.out⟩, ⟨by repeat (first | (with_reducible first | exact HB.out | apply below_alloc | apply pw_below_drewN | apply below_drew1 | refine below_set ?_ GE624.out) | exact HB.out)⟩⟩
          ·rw [if_neg c13] at H
           have c13b0 : decide (x10_3 < ((rdOf ByteArray.empty l1 0).size : Int)) = false := decide_eq_false c13
           clear c13
           have H' := Aside0.mk H
           clear H
           have p628 : 0 ≤ (0 : Int) := (by omega)
           have q628 : 0 < (l1.length : Int) := of_decide_eq_true (by first | (with_reducible assumption) | assumption)
           obtain ⟨ad628, e628, hx628_0⟩ := Kd.at_string HR1.out 0 p628 q628
           cases e628
           have qi628 : (0 < l1.length) = True := eq_true (by omega)
           (try rw [show ((0 : Int)).toNat = 0 from rfl] at hx628_0)
           (try rw [Addr.add_zero'] at hx628_0)
           replace hx628_0 := (HB.out.cell (World.block_lt_of_cell? w _ hx628_0)).trans hx628_0
           replace p628 := eq_true p628
           replace q628 := eq_true q628
           go_wp2
           repeat (go_quiet (fail); try go_wp2)
           go_roundg k3
           case measure => have := HK1.out; have := HK2.out; have := HK3.out; omega
           case rel => exact ⟨(x8_3), (wrap64 (x9_2 + 1)), (by first | rfl | (simp; done) | (simp [*]; done)), (by first | rfl | (simp; done) | (simp [*]; done)), H', ⟨by have := HK1.out; have := HK2.out; have := HK3.out; omega⟩, ⟨by (with_reducible repeat (first | apply Kd.V_alloc | apply Kd.V_drewN | apply Kd.V_drew)); exact HO_0.out⟩, ⟨by (with_reducible repeat (first | refine blk_drewN ?_ _ | refine blk_drew ?_ | refine blk_alloc ?_ _)); exact BK624.out⟩, ⟨by repeat (first | (with_reducible first | exact HB.out | apply below_alloc | apply pw_below_drewN | apply below_drew1 | refine below_set ?_ GE624.out) | exact HB.out)⟩⟩
         ·rw [if_neg c12] at H
          exact absurd H (by simp)
      ·rw [if_neg c11] at H
       have c11b0 : decide (x9_2 < (l1.length : Int)) = false := decide_eq_false c11
       clear c11
       obtain rfl := Option.some.inj H
       go_wp2
       repeat (go_quiet (fail); try go_wp2)
       go_ret
       exact ⟨by first | rfl | (simp [errW_none, errW_some] <;> rfl) | (simp [*, errW_none, errW_some] <;> rfl), by repeat (first | (with_reducible first | exact HB.out | apply below_alloc | apply pw_below_drewN | apply below_drew1 | refine below_set ?_ GE624.out) | exact HB.out)⟩

/-! ### padlockref03_See: function 50 -/
def padlockref03_See.f (k : Nat) (l0 : List ByteArray) (l1 : List ByteArray) (a2_0 : Int) (a2_1 : Int) (a2_2 : Int) : Option (ByteArray × Int) := (padlockref03_checkSheets.f k l0 l1).bind fun t636 => (if t636 = 0 then ((padlockref03_Within.f a2_0 0 3).bind fun t637 => (if t637 = true then ((padlockref03_Within.f a2_1 (-8) 8).bind fun t638 => (if t638 = true then ((padlockref03_Within.f a2_2 (-8) 8).bind fun t639 => (if t639 = true then ((padlockref03_see.f k l0 l1 a2_0 a2_1 a2_2).bind fun t640 => (some (t640, 0))) else (some ((⟨#[]⟩ : ByteArray), 1)))) else (some ((⟨#[]⟩ : ByteArray), 1)))) else (some ((⟨#[]⟩ : ByteArray), 1)))) else (some ((⟨#[]⟩ : ByteArray), t636)))
theorem padlockref03_See.mono : ∀ a0 a1 a2 a3 a4 k, LeO (padlockref03_See.f k a0 a1 a2 a3 a4) (padlockref03_See.f (k + 1) a0 a1 a2 a3 a4) := by
 intro a0 a1 a2 a3 a4 k
 unfold padlockref03_See.f
 repeat' first
   | (with_reducible exact padlockref03_checkSheets.mono _ _ _)
   | (with_reducible exact padlockref03_see.mono _ _ _ _ _ _)
   | (with_reducible exact LeO.refl _)
   | (with_reducible exact LeO.none _)
   | (with_reducible refine LeO.ite ?_ ?_)
   | (with_reducible refine LeO.bind ?_ (fun _ => ?_))
   | exact padlockref03_checkSheets.mono _ _ _
   | exact padlockref03_see.mono _ _ _ _ _ _
   | exact LeO.none _
   | refine LeO.ite ?_ ?_
   | refine LeO.bind ?_ (fun _ => ?_)
set_option maxHeartbeats 8000000 in
set_option maxRecDepth 100000 in
theorem padlockref03_See.calls (k : Nat) (A0 : Option Addr) (c0 : Nat) (l0 : List ByteArray) (A1 : Option Addr) (c1 : Nat) (l1 : List ByteArray) (a2_0 : Int) (a2_1 : Int) (a2_2 : Int) (r1 : ByteArray) (r2 : Int) (w : World) (hr0 : Kd.C Kd.string w A0 l0.length l0) (hc0 : l0.length ≤ c0) (hr1 : Kd.C Kd.string w A1 l1.length l1) (hc1 : l1.length ≤ c1) (h : padlockref03_See.f k l0 l1 a2_0 a2_1 a2_2 = some (r1, r2)) :
  Calls Try.prog 50 #[.slice A0 l0.length c0, .slice A1 l1.length c1, .agg #[.int .i64 a2_0, .int .i64 a2_1, .int .i64 a2_2]] w fun e w' => e = .returned (.tuple #[.string r1, .int .i64 r2]) ∧ Below w.heap.size w w' := by
 have hu60 := Try.underlying60
 have HR0 := Aside0.mk hr0
 have HC0 := Aside0.mk hc0
 clear hr0 hc0
 have HR1 := Aside0.mk hr1
 have HC1 := Aside0.mk hc1
 clear hr1 hc1
 have HB := Aside0.mk (Below.refl w.heap.size w)
 have H : ((padlockref03_checkSheets.f k l0 l1).bind fun t636 => (if t636 = 0 then ((padlockref03_Within.f a2_0 0 3).bind fun t637 => (if t637 = true then ((padlockref03_Within.f a2_1 (-8) 8).bind fun t638 => (if t638 = true then ((padlockref03_Within.f a2_2 (-8) 8).bind fun t639 => (if t639 = true then ((padlockref03_see.f k l0 l1 a2_0 a2_1 a2_2).bind fun t640 => (some (t640, 0))) else (some ((⟨#[]⟩ : ByteArray), 1)))) else (some ((⟨#[]⟩ : ByteArray), 1)))) else (some ((⟨#[]⟩ : ByteArray), 1)))) else (some ((⟨#[]⟩ : ByteArray), t636)))) = some (r1, r2) := h
 clear h
 replace H := Option.bind_eq_some_iff.mp H
 obtain ⟨t636, A40, H⟩ := H
 replace H : (if t636 = 0 then ((padlockref03_Within.f a2_0 0 3).bind fun t637 => (if t637 = true then ((padlockref03_Within.f a2_1 (-8) 8).bind fun t638 => (if t638 = true then ((padlockref03_Within.f a2_2 (-8) 8).bind fun t639 => (if t639 = true then ((padlockref03_see.f k l0 l1 a2_0 a2_1 a2_2).bind fun t640 => (some (t640, 0))) else (some ((⟨#[]⟩ : ByteArray), 1)))) else (some ((⟨#[]⟩ : ByteArray), 1)))) else (some ((⟨#[]⟩ : ByteArray), 1)))) else (some ((⟨#[]⟩ : ByteArray), t636))) = some (r1, r2) := H
 have A4 := Aside0.mk A40
 clear A40
 by_cases c5 : t636 = 0
 ·rw [if_pos c5] at H
  have c5b0 : (t636 == 0) = true := beq_iff_eq.mpr c5
  have c5b1 : (t636 != 0) = false := bne_eq_false_iff_eq.mpr c5
  clear c5
  replace H := Option.bind_eq_some_iff.mp H
  obtain ⟨t637, A60, H⟩ := H
  replace H : (if t637 = true then ((padlockref03_Within.f a2_1 (-8) 8).bind fun t638 => (if t638 = true then ((padlockref03_Within.f a2_2 (-8) 8).bind fun t639 => (if t639 = true then ((padlockref03_see.f k l0 l1 a2_0 a2_1 a2_2).bind fun t640 => (some (t640, 0))) else (some ((⟨#[]⟩ : ByteArray), 1)))) else (some ((⟨#[]⟩ : ByteArray), 1)))) else (some ((⟨#[]⟩ : ByteArray), 1))) = some (r1, r2) := H
  have A6 := Aside0.mk A60
  clear A60
  by_cases c7 : t637 = true
  ·subst c7
   have H1 : ((padlockref03_Within.f a2_1 (-8) 8).bind fun t638 => (if t638 = true then ((padlockref03_Within.f a2_2 (-8) 8).bind fun t639 => (if t639 = true then ((padlockref03_see.f k l0 l1 a2_0 a2_1 a2_2).bind fun t640 => (some (t640, 0))) else (some ((⟨#[]⟩ : ByteArray), 1)))) else (some ((⟨#[]⟩ : ByteArray), 1)))) = some (r1, r2) := by rw [if_pos rfl] at H; exact H
   clear H
   have H := H1
   clear H1
   replace H := Option.bind_eq_some_iff.mp H
   obtain ⟨t638, A80, H⟩ := H
   replace H : (if t638 = true then ((padlockref03_Within.f a2_2 (-8) 8).bind fun t639 => (if t639 = true then ((padlockref03_see.f k l0 l1 a2_0 a2_1 a2_2).bind fun t640 => (some (t640, 0))) else (some ((⟨#[]⟩ : ByteArray), 1)))) else (some ((⟨#[]⟩ : ByteArray), 1))) = some (r1, r2) := H
   have A8 := Aside0.mk A80
   clear A80
   by_cases c9 : t638 = true
   ·subst c9
    have H1 : ((padlockref03_Within.f a2_2 (-8) 8).bind fun t639 => (if t639 = true then ((padlockref03_see.f k l0 l1 a2_0 a2_1 a2_2).bind fun t640 => (some (t640, 0))) else (some ((⟨#[]⟩ : ByteArray), 1)))) = some (r1, r2) := by rw [if_pos rfl] at H; exact H
    clear H
    have H := H1
    clear H1
    replace H := Option.bind_eq_some_iff.mp H
    obtain ⟨t639, A100, H⟩ := H
    replace H : (if t639 = true then ((padlockref03_see.f k l0 l1 a2_0 a2_1 a2_2).bind fun t640 => (some (t640, 0))) else (some ((⟨#[]⟩ : ByteArray), 1))) = some (r1, r2) := H
    have A10 := Aside0.mk A100
    clear A100
    by_cases c11 : t639 = true
    ·subst c11
     have H1 : ((padlockref03_see.f k l0 l1 a2_0 a2_1 a2_2).bind fun t640 => (some (t640, 0))) = some (r1, r2) := by rw [if_pos rfl] at H; exact H
     clear H
     have H := H1
     clear H1
     replace H := Option.bind_eq_some_iff.mp H
     obtain ⟨t640, A120, H⟩ := H
     replace H : (some (t640, 0)) = some (r1, r2) := H
     have A12 := Aside0.mk A120
     clear A120
     simp only [Option.some.injEq, Prod.mk.injEq] at H
     obtain ⟨rfl, rfl⟩ := H
     go_enter Try.func50, Try.ntmps50
     go_wp2_with (first | ((with_reducible refine gate_dst (N := 5) rfl ?_); refine box_event ?hg (N := 5) ?hd (cs := #[.int .i64 a2_0, .int .i64 a2_1, .int .i64 a2_2]) (t := 60) ?hr ?_; (case hd => rfl); (case hg => rfl); (case hr => first | (go_simp; done) | (go_simp; rfl)); intro gb635 hg w13 hbox hb; have n0_ := Aside0.mk (below_step (by repeat (first | (with_reducible first | exact HB.out | apply below_alloc | apply pw_below_drewN | apply below_drew1) | exact HB.out)) hb); have n1_ := Aside0.mk (hbox); have n2_ := Aside0.mk ((by rw [hg]; exact (below_size (by repeat (first | (with_reducible first | exact HB.out | apply below_alloc | apply pw_below_drewN | apply below_drew1) | exact HB.out))) : w.heap.size ≤ gb635)); have n3_ := Aside0.mk ((by rw [hg]; exact (below_size (by repeat (first | (with_reducible first | exact HB.out | apply below_alloc | apply pw_below_drewN | apply below_drew1) | exact HB.out))) : w.heap.size ≤ gb635)); clear HB; have HB := n0_; have BK635 := n1_; have GW635 := n2_; have GE635 := n3_; clear n0_ n1_ n2_ n3_; clear hb hbox hg) | ((with_reducible refine gate_callee (f := 107) rfl ?_); refine goesL_ (some 11) rfl rfl Try.func107 (by kernel_rfl) rfl #[.slice A0 l0.length c0, .slice A1 l1.length c1] rfl (by (try simp only [List.map_toArray, List.map_cons, List.map_nil]); first | done | rfl | (simp only [List.length_drop, List.length_take]; rfl)) ?_; (with_reducible refine (padlockref03_checkSheets.calls k _ _ l0 _ _ l1 t636 _ ?side1 ?side2 ?side3 ?side4 A4.out).mono ?_); (case side1 => repeat (first | exact (Kd.C_below HR0.out HB.out) | (with_reducible refine Kd.C_alloc ?_ _) | (with_reducible refine Kd.C_drewN ?_ _) | (with_reducible refine Kd.C_drew ?_))); (case side2 => exact HC0.out); (case side3 => repeat (first | exact (Kd.C_below HR1.out HB.out) | (with_reducible refine Kd.C_alloc ?_ _) | (with_reducible refine Kd.C_drewN ?_ _) | (with_reducible refine Kd.C_drew ?_))); (case side4 => exact HC1.out); rintro e w' ⟨rfl, ⟨nd, rfl⟩⟩; refine ⟨_, rfl, ?_⟩; have hcz14_0 : w13.cell? ⟨gb635, 0, none⟩ = some (.int .i64 a2_0) := (blk_cell BK635.out 0).trans rfl; have hcz14_1 : w13.cell? ⟨gb635, 1, none⟩ = some (.int .i64 a2_1) := (blk_cell BK635.out 1).trans rfl; have hcz14_2 : w13.cell? ⟨gb635, 2, none⟩ = some (.int .i64 a2_2) := (blk_cell BK635.out 2).trans rfl; have hfz14_0 := blk_frozen BK635.out 0; have hfz14_1 := blk_frozen BK635.out 1; have hfz14_2 := blk_frozen BK635.out 2) | ((with_reducible refine gate_callee (f := 73) rfl ?_); refine goesL_ (some 17) rfl rfl Try.func73 (by kernel_rfl) rfl #[.int .i64 a2_0, .int .i64 0, .int .i64 3] rfl (by (try simp only [List.map_toArray, List.map_cons, List.map_nil]); first | done | rfl | (simp only [List.length_drop, List.length_take]; rfl)) ?_; (with_reducible refine (padlockref03_Within.calls a2_0 0 3 true _ A6.out).mono ?_); rintro e w' ⟨rfl, ⟨nd, rfl⟩⟩; refine ⟨_, rfl, ?_⟩) | (go_at_call 73; (with_reducible refine (padlockref03_Within.calls a2_1 (-8) 8 true _ A8.out).mono ?_); rintro e w' ⟨rfl, ⟨nd, rfl⟩⟩) | (go_at_call 73; (with_reducible refine (padlockref03_Within.calls a2_2 (-8) 8 true _ A10.out).mono ?_); rintro e w' ⟨rfl, ⟨nd, rfl⟩⟩) | ((with_reducible refine gate_callee (f := 108) rfl ?_); refine goesL_ (some 34) rfl rfl Try.func108 (by kernel_rfl) rfl #[.slice A0 l0.length c0, .slice A1 l1.length c1, .agg #[.int .i64 a2_0, .int .i64 a2_1, .int .i64 a2_2]] rfl (by (try simp only [List.map_toArray, List.map_cons, List.map_nil]); first | done | rfl | (simp only [List.length_drop, List.length_take]; rfl)) ?_; (with_reducible refine (padlockref03_see.calls k (fun k_ => k_ < w.heap.size) _ _ l0 _ _ l1 a2_0 a2_1 a2_2 t640 _ ?side1 ?side2 ?side3 A12.out).mono ?_); (case side1 => exact Kd.V_mk HC0.out (Kd.F_below (Kd.C_F Kd.heap_string HR0.out) (by repeat (first | (with_reducible first | exact HB.out | apply below_alloc | apply pw_below_drewN | apply below_drew1 | refine below_set ?_ GE635.out) | exact HB.out)))); (case side2 => repeat (first | exact (Kd.C_below HR1.out (by repeat (first | (with_reducible first | exact HB.out | apply below_alloc | apply pw_below_drewN | apply below_drew1 | refine below_set ?_ GE635.out) | exact HB.out))) | (with_reducible refine Kd.C_alloc ?_ _) | (with_reducible refine Kd.C_drewN ?_ _) | (with_reducible refine Kd.C_drew ?_))); (case side3 => exact HC1.out); rintro e w15 ⟨rfl, hb⟩; refine ⟨_, rfl, ?_⟩; have n0_ := Aside0.mk (blk_below (g := gb635) (o := .cells #[.int .i64 a2_0, .int .i64 a2_1, .int .i64 a2_2] 60 (0, 0)) (by (with_reducible repeat (first | refine blk_drewN ?_ _ | refine blk_drew ?_ | refine blk_alloc ?_ _)); exact BK635.out) hb); have n1_ := Aside0.mk (below_step (by repeat (first | (with_reducible first | exact HB.out | apply below_alloc | apply pw_below_drewN | apply below_drew1 | refine below_set ?_ GE635.out) | exact HB.out)) hb); clear BK635; clear HB; have BK635 := n0_; have HB := n1_; clear n0_ n1_; (try clear hb); (try clear hb2); (try clear hk); (try clear hi)))
     go_ret2
     exact ⟨by first | rfl | (simp [errW_none, errW_some] <;> rfl) | (simp [*, errW_none, errW_some] <;> rfl), by repeat (first | (with_reducible first | exact HB.out | apply below_alloc | apply pw_below_drewN | apply below_drew1 | refine below_set ?_ GE635.out) | exact HB.out)⟩
    ·replace c11 := Bool.eq_false_iff.mpr c11
     subst c11
     have H1 : (some ((⟨#[]⟩ : ByteArray), 1)) = some (r1, r2) := by rw [if_neg (show ¬ (false = true) by decide)] at H; exact H
     clear H
     have H := H1
     clear H1
     simp only [Option.some.injEq, Prod.mk.injEq] at H
     obtain ⟨rfl, rfl⟩ := H
     go_enter Try.func50, Try.ntmps50
     go_wp2_with (first | ((with_reducible refine gate_dst (N := 5) rfl ?_); refine box_event ?hg (N := 5) ?hd (cs := #[.int .i64 a2_0, .int .i64 a2_1, .int .i64 a2_2]) (t := 60) ?hr ?_; (case hd => rfl); (case hg => rfl); (case hr => first | (go_simp; done) | (go_simp; rfl)); intro gb635 hg w16 hbox hb; have n0_ := Aside0.mk (below_step (by repeat (first | (with_reducible first | exact HB.out | apply below_alloc | apply pw_below_drewN | apply below_drew1) | exact HB.out)) hb); have n1_ := Aside0.mk (hbox); have n2_ := Aside0.mk ((by rw [hg]; exact (below_size (by repeat (first | (with_reducible first | exact HB.out | apply below_alloc | apply pw_below_drewN | apply below_drew1) | exact HB.out))) : w.heap.size ≤ gb635)); have n3_ := Aside0.mk ((by rw [hg]; exact (below_size (by repeat (first | (with_reducible first | exact HB.out | apply below_alloc | apply pw_below_drewN | apply below_drew1) | exact HB.out))) : w.heap.size ≤ gb635)); clear HB; have HB := n0_; have BK635 := n1_; have GW635 := n2_; have GE635 := n3_; clear n0_ n1_ n2_ n3_; clear hb hbox hg) | ((with_reducible refine gate_callee (f := 107) rfl ?_); refine goesL_ (some 11) rfl rfl Try.func107 (by kernel_rfl) rfl #[.slice A0 l0.length c0, .slice A1 l1.length c1] rfl (by (try simp only [List.map_toArray, List.map_cons, List.map_nil]); first | done | rfl | (simp only [List.length_drop, List.length_take]; rfl)) ?_; (with_reducible refine (padlockref03_checkSheets.calls k _ _ l0 _ _ l1 t636 _ ?side1 ?side2 ?side3 ?side4 A4.out).mono ?_); (case side1 => repeat (first | exact (Kd.C_below HR0.out HB.out) | (with_reducible refine Kd.C_alloc ?_ _) | (with_reducible refine Kd.C_drewN ?_ _) | (with_reducible refine Kd.C_drew ?_))); (case side2 => exact HC0.out); (case side3 => repeat (first | exact (Kd.C_below HR1.out HB.out) | (with_reducible refine Kd.C_alloc ?_ _) | (with_reducible refine Kd.C_drewN ?_ _) | (with_reducible refine Kd.C_drew ?_))); (case side4 => exact HC1.out); rintro e w' ⟨rfl, ⟨nd, rfl⟩⟩; refine ⟨_, rfl, ?_⟩; have hcz17_0 : w16.cell? ⟨gb635, 0, none⟩ = some (.int .i64 a2_0) := (blk_cell BK635.out 0).trans rfl; have hcz17_1 : w16.cell? ⟨gb635, 1, none⟩ = some (.int .i64 a2_1) := (blk_cell BK635.out 1).trans rfl; have hcz17_2 : w16.cell? ⟨gb635, 2, none⟩ = some (.int .i64 a2_2) := (blk_cell BK635.out 2).trans rfl; have hfz17_0 := blk_frozen BK635.out 0; have hfz17_1 := blk_frozen BK635.out 1; have hfz17_2 := blk_frozen BK635.out 2) | ((with_reducible refine gate_callee (f := 73) rfl ?_); refine goesL_ (some 17) rfl rfl Try.func73 (by kernel_rfl) rfl #[.int .i64 a2_0, .int .i64 0, .int .i64 3] rfl (by (try simp only [List.map_toArray, List.map_cons, List.map_nil]); first | done | rfl | (simp only [List.length_drop, List.length_take]; rfl)) ?_; (with_reducible refine (padlockref03_Within.calls a2_0 0 3 true _ A6.out).mono ?_); rintro e w' ⟨rfl, ⟨nd, rfl⟩⟩; refine ⟨_, rfl, ?_⟩) | (go_at_call 73; (with_reducible refine (padlockref03_Within.calls a2_1 (-8) 8 true _ A8.out).mono ?_); rintro e w' ⟨rfl, ⟨nd, rfl⟩⟩) | (go_at_call 73; (with_reducible refine (padlockref03_Within.calls a2_2 (-8) 8 false _ A10.out).mono ?_); rintro e w' ⟨rfl, ⟨nd, rfl⟩⟩))
     go_ret2
     exact ⟨by first | rfl | (simp [errW_none, errW_some] <;> rfl) | (simp [*, errW_none, errW_some] <;> rfl), by repeat (first | (with_reducible first | exact HB.out | apply below_alloc | apply pw_below_drewN | apply below_drew1 | refine below_set ?_ GE635.out) | exact HB.out)⟩
   ·replace c9 := Bool.eq_false_iff.mpr c9
    subst c9
    have H1 : (some ((⟨#[]⟩ : ByteArray), 1)) = some (r1, r2) := by rw [if_neg (show ¬ (false = true) by decide)] at H; exact H
    clear H
    have H := H1
    clear H1
    simp only [Option.some.injEq, Prod.mk.injEq] at H
    obtain ⟨rfl, rfl⟩ := H
    go_enter Try.func50, Try.ntmps50
    go_wp2_with (first | ((with_reducible refine gate_dst (N := 5) rfl ?_); refine box_event ?hg (N := 5) ?hd (cs := #[.int .i64 a2_0, .int .i64 a2_1, .int .i64 a2_2]) (t := 60) ?hr ?_; (case hd => rfl); (case hg => rfl); (case hr => first | (go_simp; done) | (go_simp; rfl)); intro gb635 hg w18 hbox hb; have n0_ := Aside0.mk (below_step (by repeat (first | (with_reducible first | exact HB.out | apply below_alloc | apply pw_below_drewN | apply below_drew1) | exact HB.out)) hb); have n1_ := Aside0.mk (hbox); have n2_ := Aside0.mk ((by rw [hg]; exact (below_size (by repeat (first | (with_reducible first | exact HB.out | apply below_alloc | apply pw_below_drewN | apply below_drew1) | exact HB.out))) : w.heap.size ≤ gb635)); have n3_ := Aside0.mk ((by rw [hg]; exact (below_size (by repeat (first | (with_reducible first | exact HB.out | apply below_alloc | apply pw_below_drewN | apply below_drew1) | exact HB.out))) : w.heap.size ≤ gb635)); clear HB; have HB := n0_; have BK635 := n1_; have GW635 := n2_; have GE635 := n3_; clear n0_ n1_ n2_ n3_; clear hb hbox hg) | ((with_reducible refine gate_callee (f := 107) rfl ?_); refine goesL_ (some 11) rfl rfl Try.func107 (by kernel_rfl) rfl #[.slice A0 l0.length c0, .slice A1 l1.length c1] rfl (by (try simp only [List.map_toArray, List.map_cons, List.map_nil]); first | done | rfl | (simp only [List.length_drop, List.length_take]; rfl)) ?_; (with_reducible refine (padlockref03_checkSheets.calls k _ _ l0 _ _ l1 t636 _ ?side1 ?side2 ?side3 ?side4 A4.out).mono ?_); (case side1 => repeat (first | exact (Kd.C_below HR0.out HB.out) | (with_reducible refine Kd.C_alloc ?_ _) | (with_reducible refine Kd.C_drewN ?_ _) | (with_reducible refine Kd.C_drew ?_))); (case side2 => exact HC0.out); (case side3 => repeat (first | exact (Kd.C_below HR1.out HB.out) | (with_reducible refine Kd.C_alloc ?_ _) | (with_reducible refine Kd.C_drewN ?_ _) | (with_reducible refine Kd.C_drew ?_))); (case side4 => exact HC1.out); rintro e w' ⟨rfl, ⟨nd, rfl⟩⟩; refine ⟨_, rfl, ?_⟩; have hcz19_0 : w18.cell? ⟨gb635, 0, none⟩ = some (.int .i64 a2_0) := (blk_cell BK635.out 0).trans rfl; have hcz19_1 : w18.cell? ⟨gb635, 1, none⟩ = some (.int .i64 a2_1) := (blk_cell BK635.out 1).trans rfl; have hcz19_2 : w18.cell? ⟨gb635, 2, none⟩ = some (.int .i64 a2_2) := (blk_cell BK635.out 2).trans rfl; have hfz19_0 := blk_frozen BK635.out 0; have hfz19_1 := blk_frozen BK635.out 1; have hfz19_2 := blk_frozen BK635.out 2) | ((with_reducible refine gate_callee (f := 73) rfl ?_); refine goesL_ (some 17) rfl rfl Try.func73 (by kernel_rfl) rfl #[.int .i64 a2_0, .int .i64 0, .int .i64 3] rfl (by (try simp only [List.map_toArray, List.map_cons, List.map_nil]); first | done | rfl | (simp only [List.length_drop, List.length_take]; rfl)) ?_; (with_reducible refine (padlockref03_Within.calls a2_0 0 3 true _ A6.out).mono ?_); rintro e w' ⟨rfl, ⟨nd, rfl⟩⟩; refine ⟨_, rfl, ?_⟩) | (go_at_call 73; (with_reducible refine (padlockref03_Within.calls a2_1 (-8) 8 false _ A8.out).mono ?_); rintro e w' ⟨rfl, ⟨nd, rfl⟩⟩))
    go_ret2
    exact ⟨by first | rfl | (simp [errW_none, errW_some] <;> rfl) | (simp [*, errW_none, errW_some] <;> rfl), by repeat (first | (with_reducible first | exact HB.out | apply below_alloc | apply pw_below_drewN | apply below_drew1 | refine below_set ?_ GE635.out) | exact HB.out)⟩
  ·replace c7 := Bool.eq_false_iff.mpr c7
   subst c7
   have H1 : (some ((⟨#[]⟩ : ByteArray), 1)) = some (r1, r2) := by rw [if_neg (show ¬ (false = true) by decide)] at H; exact H
   clear H
   have H := H1
   clear H1
   simp only [Option.some.injEq, Prod.mk.injEq] at H
   obtain ⟨rfl, rfl⟩ := H
   go_enter Try.func50, Try.ntmps50
   go_wp2_with (first | ((with_reducible refine gate_dst (N := 5) rfl ?_); refine box_event ?hg (N := 5) ?hd (cs := #[.int .i64 a2_0, .int .i64 a2_1, .int .i64 a2_2]) (t := 60) ?hr ?_; (case hd => rfl); (case hg => rfl); (case hr => first | (go_simp; done) | (go_simp; rfl)); intro gb635 hg w20 hbox hb; have n0_ := Aside0.mk (below_step (by repeat (first | (with_reducible first | exact HB.out | apply below_alloc | apply pw_below_drewN | apply below_drew1) | exact HB.out)) hb); have n1_ := Aside0.mk (hbox); have n2_ := Aside0.mk ((by rw [hg]; exact (below_size (by repeat (first | (with_reducible first | exact HB.out | apply below_alloc | apply pw_below_drewN | apply below_drew1) | exact HB.out))) : w.heap.size ≤ gb635)); have n3_ := Aside0.mk ((by rw [hg]; exact (below_size (by repeat (first | (with_reducible first | exact HB.out | apply below_alloc | apply pw_below_drewN | apply below_drew1) | exact HB.out))) : w.heap.size ≤ gb635)); clear HB; have HB := n0_; have BK635 := n1_; have GW635 := n2_; have GE635 := n3_; clear n0_ n1_ n2_ n3_; clear hb hbox hg) | ((with_reducible refine gate_callee (f := 107) rfl ?_); refine goesL_ (some 11) rfl rfl Try.func107 (by kernel_rfl) rfl #[.slice A0 l0.length c0, .slice A1 l1.length c1] rfl (by (try simp only [List.map_toArray, List.map_cons, List.map_nil]); first | done | rfl | (simp only [List.length_drop, List.length_take]; rfl)) ?_; (with_reducible refine (padlockref03_checkSheets.calls k _ _ l0 _ _ l1 t636 _ ?side1 ?side2 ?side3 ?side4 A4.out).mono ?_); (case side1 => repeat (first | exact (Kd.C_below HR0.out HB.out) | (with_reducible refine Kd.C_alloc ?_ _) | (with_reducible refine Kd.C_drewN ?_ _) | (with_reducible refine Kd.C_drew ?_))); (case side2 => exact HC0.out); (case side3 => repeat (first | exact (Kd.C_below HR1.out HB.out) | (with_reducible refine Kd.C_alloc ?_ _) | (with_reducible refine Kd.C_drewN ?_ _) | (with_reducible refine Kd.C_drew ?_))); (case side4 => exact HC1.out); rintro e w' ⟨rfl, ⟨nd, rfl⟩⟩; refine ⟨_, rfl, ?_⟩; have hcz21_0 : w20.cell? ⟨gb635, 0, none⟩ = some (.int .i64 a2_0) := (blk_cell BK635.out 0).trans rfl; have hcz21_1 : w20.cell? ⟨gb635, 1, none⟩ = some (.int .i64 a2_1) := (blk_cell BK635.out 1).trans rfl; have hcz21_2 : w20.cell? ⟨gb635, 2, none⟩ = some (.int .i64 a2_2) := (blk_cell BK635.out 2).trans rfl; have hfz21_0 := blk_frozen BK635.out 0; have hfz21_1 := blk_frozen BK635.out 1; have hfz21_2 := blk_frozen BK635.out 2) | ((with_reducible refine gate_callee (f := 73) rfl ?_); refine goesL_ (some 17) rfl rfl Try.func73 (by kernel_rfl) rfl #[.int .i64 a2_0, .int .i64 0, .int .i64 3] rfl (by (try simp only [List.map_toArray, List.map_cons, List.map_nil]); first | done | rfl | (simp only [List.length_drop, List.length_take]; rfl)) ?_; (with_reducible refine (padlockref03_Within.calls a2_0 0 3 false _ A6.out).mono ?_); rintro e w' ⟨rfl, ⟨nd, rfl⟩⟩; refine ⟨_, rfl, ?_⟩))
   go_ret2
   exact ⟨by first | rfl | (simp [errW_none, errW_some] <;> rfl) | (simp [*, errW_none, errW_some] <;> rfl), by repeat (first | (with_reducible first | exact HB.out | apply below_alloc | apply pw_below_drewN | apply below_drew1 | refine below_set ?_ GE635.out) | exact HB.out)⟩
 ·rw [if_neg c5] at H
  have c5b0 : (t636 == 0) = false := beq_eq_false_iff_ne.mpr c5
  have c5b1 : (t636 != 0) = true := bne_iff_ne.mpr c5
  simp only [Option.some.injEq, Prod.mk.injEq] at H
  obtain ⟨rfl, rfl⟩ := H
  go_enter Try.func50, Try.ntmps50
  go_wp2_with (first | ((with_reducible refine gate_dst (N := 5) rfl ?_); refine box_event ?hg (N := 5) ?hd (cs := #[.int .i64 a2_0, .int .i64 a2_1, .int .i64 a2_2]) (t := 60) ?hr ?_; (case hd => rfl); (case hg => rfl); (case hr => first | (go_simp; done) | (go_simp; rfl)); intro gb635 hg w22 hbox hb; have n0_ := Aside0.mk (below_step (by repeat (first | (with_reducible first | exact HB.out | apply below_alloc | apply pw_below_drewN | apply below_drew1) | exact HB.out)) hb); have n1_ := Aside0.mk (hbox); have n2_ := Aside0.mk ((by rw [hg]; exact (below_size (by repeat (first | (with_reducible first | exact HB.out | apply below_alloc | apply pw_below_drewN | apply below_drew1) | exact HB.out))) : w.heap.size ≤ gb635)); have n3_ := Aside0.mk ((by rw [hg]; exact (below_size (by repeat (first | (with_reducible first | exact HB.out | apply below_alloc | apply pw_below_drewN | apply below_drew1) | exact HB.out))) : w.heap.size ≤ gb635)); clear HB; have HB := n0_; have BK635 := n1_; have GW635 := n2_; have GE635 := n3_; clear n0_ n1_ n2_ n3_; clear hb hbox hg) | ((with_reducible refine gate_callee (f := 107) rfl ?_); refine goesL_ (some 11) rfl rfl Try.func107 (by kernel_rfl) rfl #[.slice A0 l0.length c0, .slice A1 l1.length c1] rfl (by (try simp only [List.map_toArray, List.map_cons, List.map_nil]); first | done | rfl | (simp only [List.length_drop, List.length_take]; rfl)) ?_; (with_reducible refine (padlockref03_checkSheets.calls k _ _ l0 _ _ l1 t636 _ ?side1 ?side2 ?side3 ?side4 A4.out).mono ?_); (case side1 => repeat (first | exact (Kd.C_below HR0.out HB.out) | (with_reducible refine Kd.C_alloc ?_ _) | (with_reducible refine Kd.C_drewN ?_ _) | (with_reducible refine Kd.C_drew ?_))); (case side2 => exact HC0.out); (case side3 => repeat (first | exact (Kd.C_below HR1.out HB.out) | (with_reducible refine Kd.C_alloc ?_ _) | (with_reducible refine Kd.C_drewN ?_ _) | (with_reducible refine Kd.C_drew ?_))); (case side4 => exact HC1.out); rintro e w' ⟨rfl, ⟨nd, rfl⟩⟩; refine ⟨_, rfl, ?_⟩))
  go_ret2
  exact ⟨by first | rfl | (simp [errW_none, errW_some] <;> rfl) | (simp [*, errW_none, errW_some] <;> rfl), by repeat (first | (with_reducible first | exact HB.out | apply below_alloc | apply pw_below_drewN | apply below_drew1 | refine below_set ?_ GE635.out) | exact HB.out)⟩

end Go.Proofs.Ytdhiijleafcfcaa.T
