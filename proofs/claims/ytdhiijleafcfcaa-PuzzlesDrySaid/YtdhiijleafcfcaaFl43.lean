/- Flows: the cells to which water comes. -/
import Derived.Test.YtdhiijleafcfcaaT0
import Derived.Test.YtdhiijleafcfcaaNp
import Derived.Test.YtdhiijleafcfcaaTp
namespace Go.Proofs.Ytdhiijleafcfcaa.T
open Go.RowKit Go.Proofs.YtdhiijleafcfcaaW.PrintWords Go.Proofs.YtdhiijleafcfcaaW.PrintLast Go.Proofs.YtdhiijleafcfcaaW.PrintMore
attribute [local go_sem] max2_int min2_int max_two min_two max_three min_three max_four min_four
set_option linter.unusedVariables false
set_option linter.unusedSimpArgs false

def wetIdx : List Bool → Nat → List Int
 | [], _ => []
 | b :: t, i => (if b = true then [(i : Int)] else []) ++ wetIdx t (i + 1)
def puzzles_Flows.f (k : Nat) (a0 a1 : Int) (l : List Int) (a3 a4 : Int) (tn : List Int) : Option (List Int × Int × Int) :=
 if plumbB a0 a1 l a3 a4 = true then (if (tn.length : Int) = (l.length : Int) then (cf98.f tn).bind fun b => if b = true then some ([], 0, 1) else (puzzles_plumbing_flows.f k a0 a1 a0 a1 l a3 a4 tn).bind fun bt => if bt.1.length < 17592186044416 then some (wetIdx bt.1 0, bt.2, 0) else none else some ([], 0, 1)) else some ([], 0, 30)
theorem box_below {w V V' : World} {o : Obj} (h : V = w.alloc o) (hb : Below V.heap.size V V') : Below w.heap.size w V' := by
 subst h
 exact Below.trans (below_alloc (Below.refl _ _) _) (hb.mono (by simp))
set_option maxHeartbeats 2000000 in
set_option maxRecDepth 100000 in
theorem puzzles_Flows.calls (k : Nat) (a0 a1 : Int) (A : Option Addr) (c : Nat) (l : List Int) (a3 a4 : Int) (B : Option Addr) (cm : Nat) (tn : List Int) (r1 : List Int) (r2 r3 : Int) (w : World) (hr : Kd.C (Kd.int .i64) w A l.length l) (hc : l.length ≤ c) (hm : Kd.C (Kd.int .i64) w B tn.length tn) (hcm : tn.length ≤ cm)
  (h : puzzles_Flows.f k a0 a1 l a3 a4 tn = some (r1, r2, r3)) :
  Calls Try.prog 43 #[.agg #[.int .i64 a0, .int .i64 a1, .slice A l.length c, .int .i64 a3, .int .i64 a4], .slice B tn.length cm] w fun e w' => ∃ v0_ : Value, e = .returned (.tuple #[v0_, .int .i64 r2, .int .i64 r3]) ∧ Kd.R (Kd.int .i64) 3 w' w.heap.size (fun _ => True) v0_ r1 ∧ Below w.heap.size w w' := by
 have hu50 := Try.underlying50
 have hu115 := Try.underlying115
 have HM := Aside0.mk (fun V => newPlumbing_calls A c l a0 a1 a3 a4 V)
 have HC := Aside0.mk hc
 have HR := Aside0.mk hr
 have HMV := Aside0.mk hm
 have HCM := Aside0.mk hcm
 unfold puzzles_Flows.f at h
 obtain ⟨bm, hbm⟩ : ∃ bm, plumbB a0 a1 l a3 a4 = bm := ⟨_, rfl⟩
 rw [hbm] at h HM
 clear hbm hr hc hm hcm
 cases bm with
 | false =>
  rw [if_neg (by decide)] at h
  cases h
  go_enter Try.func43, Try.ntmps43
  go_wp2_with (first | (go_at_call 97; refine Calls.mono (HM.out _ (Kd.C_alloc HR.out _) HC.out) ?_; rintro e w1 ⟨rfl, hb⟩))
  go_ret3
  exact ⟨_, rfl, Kd.R_nil _ _ _ _ _, below_alloc (Below.trans (below_alloc (Below.refl _ _) _) (hb.mono (by simp))) _⟩
 | true =>
  rw [if_pos rfl] at h
  by_cases hlen : (tn.length : Int) = (l.length : Int)
  ·rw [if_pos hlen] at h
   have elen : ((tn.length : Int) != (l.length : Int)) = false := by rw [hlen]; simp
   obtain ⟨b98, h98, h⟩ := Option.bind_eq_some_iff.mp h
   have H98 := Aside0.mk h98
   clear h98 hlen
   cases b98 with
   | true =>
    rw [if_pos rfl] at h
    cases h
    go_enter Try.func43, Try.ntmps43
    go_wp2_with (first | (go_at_call 97; refine Calls.mono (HM.out _ (Kd.C_alloc HR.out _) HC.out) ?_; rintro e w1 ⟨rfl, hb⟩; have HB := Aside0.mk hb; have hn0 := (hb.block w.heap.size (by simp)).trans (World.alloc_heap_new w _); have hc0 := blk_cell hn0 2; have hlt0 := blk_lt hn0; simp only [List.getElem?_toArray, List.getElem?_cons_zero, List.getElem?_cons_succ] at hc0; clear hb hn0) | (go_at_call 68; refine Calls.mono (cf98.calls B cm tn true _ (Kd.C_alloc (Kd.C_below (Kd.C_alloc HMV.out _) HB.out) _) HCM.out H98.out) ?_; rintro e w2 ⟨rfl, ⟨q, rfl⟩⟩))
    go_ret3
    exact ⟨_, rfl, Kd.R_nil _ _ _ _ _, pw_below_drewN (below_alloc (Below.trans (below_alloc (Below.refl _ _) _) (HB.out.mono (by simp))) _) q⟩
   | false =>
    rw [if_neg (by decide)] at h
    obtain ⟨⟨wet, lk⟩, hfl, h'⟩ := Option.bind_eq_some_iff.mp h
    clear h
    replace h := h'
    clear h'
    simp only at h
    by_cases hwl : wet.length < 17592186044416
    ·rw [if_pos hwl] at h
     have h3 := Option.some.inj h
     rw [Prod.mk.injEq, Prod.mk.injEq] at h3
     obtain ⟨hR, rfl, rfl⟩ := h3
     have HR0 := Aside0.mk hR
     clear hR h
     have HFL := Aside0.mk hfl
     have HWL := Aside0.mk hwl
     clear hfl hwl
     go_enter Try.func43, Try.ntmps43
     go_wp2_with (first | (go_at_call 97; refine Calls.mono (HM.out _ (Kd.C_alloc HR.out _) HC.out) ?_; rintro e w1 ⟨rfl, hb⟩; have HB := Aside0.mk hb; have hn0 := (hb.block w.heap.size (by simp)).trans (World.alloc_heap_new w _); have hc0 := blk_cell hn0 2; have hlt0 := blk_lt hn0; simp only [List.getElem?_toArray, List.getElem?_cons_zero, List.getElem?_cons_succ] at hc0; clear hb hn0) | (go_at_call 68; refine Calls.mono (cf98.calls B cm tn false _ (Kd.C_alloc (Kd.C_below (Kd.C_alloc HMV.out _) HB.out) _) HCM.out H98.out) ?_; rintro e w2 ⟨rfl, ⟨q, rfl⟩⟩) | (go_at_call 99; refine Calls.mono (puzzles_plumbing_flows.calls k a0 a1 a0 a1 A c l a3 a4 B cm tn wet lk _ (Kd.C_drewN (Kd.C_alloc (Kd.C_below (Kd.C_alloc HR.out _) HB.out) _) _) HC.out (Kd.C_drewN (Kd.C_alloc (Kd.C_below (Kd.C_alloc HMV.out _) HB.out) _) _) HCM.out HFL.out) ?_; rintro e w3 ⟨vw, rfl, hRw, hb3⟩; have HB3 := Aside0.mk hb3; obtain ⟨Aw, cw, rfl⟩ := Kd.R_slice hRw; have HRW := Aside0.mk hRw; clear hb3 hRw))
     have hB3 : Below w.heap.size w w3 := Below.trans (pw_below_drewN (below_alloc (Below.trans (below_alloc (Below.refl _ _) _) (HB.out.mono (by simp))) _) q) (HB3.out.mono (by have := HB.out.size; simp at this ⊢; omega))
     have hRW : Kd.R Kd.bool 4 w3 w.heap.size (fun _ => True) (.slice Aw wet.length cw) wet := Kd.R_mono (Kd.R_lower (Kd.R_bound HRW.out) (by have := HB.out.size; simp at this ⊢; omega)) (fun _ _ => trivial)
     have HB4 := Aside0.mk hB3
     have HW4 := Aside0.mk hRW
     clear hB3 hRW HRW HB3 HB hc0 hlt0 HFL H98 HM HC HR HMV HCM hu50 hu115
     go_loopg [4, 37] (wet.length + 1) (fun gg v4 v37 wr => ∃ (i : Nat) (x : List Int), i ≤ wet.length ∧ wet.length - i < gg ∧ v37 = .int .i64 (i : Int) ∧ x.length ≤ i ∧ Aside0 (x ++ wetIdx (wet.drop i) i = r1) ∧ Aside0 (Kd.R Kd.bool 4 wr w.heap.size (fun _ => True) (.slice Aw wet.length cw) wet) ∧ Aside0 (Kd.R (Kd.int .i64) 3 wr w.heap.size (fun _ => True) v4 x) ∧ Aside0 (Below w.heap.size w wr))
     case atStart => exact ⟨0, [], by omega, by omega, rfl, by simp, ⟨by simpa using HR0.out⟩, HW4, ⟨Kd.R_nil _ _ _ _ _⟩, HB4⟩
     case round =>
      clear HB4 HW4 HR0
      obtain ⟨i, x, hi, hg, rfl, hxl, HX, HW, HO, HB⟩ := hrel
      have hwl := HWL.out
      by_cases hlt : i < wet.length
      ·have hilt : (i : Int) < (wet.length : Int) := by omega
       have w1' : IntKind.i64.wrap ((i : Int) + 1) = (i : Int) + 1 := IntWalk.i64_in _ (by omega)
       have hi1 : i + 1 ≤ wet.length := by omega
       have hg1 : wet.length - (i + 1) < gk - 1 := by omega
       have hg2 : gk - 1 < gk := by omega
       have HCA := Aside0.mk (show ((i + 1 : Nat) : Int) = (i : Int) + 1 by omega)
       obtain ⟨ad, ea, hca⟩ := Kd.at_bool (Kd.R_reads' HW.out).2.2 (i : Int) (by omega) hilt
       have hx0 := HX.out
       rw [List.drop_eq_getElem_cons hlt] at hx0
       have hrd : rdOf false wet (i : Int) = wet[i] := by unfold rdOf; rw [Int.toNat_natCast, List.getD_eq_getElem?_getD, List.getElem?_eq_getElem hlt]; rfl
       rw [hrd] at hca
       obtain ⟨s, hs⟩ : ∃ s, wet[i] = s := ⟨_, rfl⟩
       rw [hs] at hca hx0
       subst ea
       rw [Int.toNat_natCast] at hca
       unfold wetIdx at hx0
       rw [← List.append_assoc] at hx0
       have HLX := Aside0.mk (show x.length < 17592186044416 by omega)
       have HXL1 := Aside0.mk (show (x ++ [(i : Int)]).length ≤ i + 1 by simp; omega)
       have HXL2 := Aside0.mk (show x.length ≤ i + 1 by omega)
       clear hxl hwl
       cases s with
       | true =>
        rw [if_pos rfl] at hx0
        have HX1 := Aside0.mk hx0
        clear hx0 HX hs hrd
        go_wp2_with (first | ((with_reducible refine gate_builtin (b := .append) (xs := #[.tmp 43, .tmp 45]) rfl ?_); at_builtin; refine Kd.R_append (Kd.int .i64) (w0 := w) w.heap.size rfl (.tmp 43) (.tmp 45) 22 3 (.int .i64 0) 8 rfl Try.underlying22 info3 rfl (by decide) (by omega) u4 x (i : Int) [.int .i64 (i : Int)] (fun _ => True) (fun _ => False) rfl rfl ?aP (fun _ hk => hk.elim) ?aF ?aO ?aB ?aS ?aL ?_; (case aP => exact rfl); (case aB => exact HB.out); (case aF => exact (fun _ _ => trivial)); (case aO => exact HO.out); (case aS => exact (below_size HB.out)); (case aL => have := HLX.out; omega); intro v510 w23 ho hb hg hat; have n0_ := Aside0.mk (Kd.R_over' HW.out (Kd.R_typed HO.out) (by decide) hg); have HO2 := Aside0.mk ho; have HB2 := Aside0.mk hb; clear ho hb hg hat))
        go_roundg (gk - 1)
        case measure => exact hg2
        case rel => exact ⟨i + 1, x ++ [(i : Int)], hi1, hg1, by rw [HCA.out], HXL1.out, HX1, n0_, HO2, HB2⟩
       | false =>
        rw [if_neg (by decide), List.append_nil] at hx0
        have HX1 := Aside0.mk hx0
        clear hx0 HX hs hrd
        go_wp2
        go_roundg (gk - 1)
        case measure => exact hg2
        case rel => exact ⟨i + 1, x, hi1, hg1, by rw [HCA.out], HXL2.out, HX1, HW, HO, HB⟩
      ·have hnlt : ¬ (i : Int) < (wet.length : Int) := by omega
       have hdrop : wet.drop i = [] := List.drop_of_length_le (by omega)
       have hx0 := HX.out
       rw [hdrop, wetIdx, List.append_nil] at hx0
       have HX1 := Aside0.mk hx0
       clear hx0 HX hdrop
       obtain ⟨Ao, co, rfl⟩ := Kd.R_slice HO.out
       go_wp2
       go_ret3
       exact ⟨_, rfl, by rw [← HX1.out]; exact HO.out, HB.out⟩
    ·rw [if_neg hwl] at h
     cases h
  ·rw [if_neg hlen] at h
   cases h
   have elen : ((tn.length : Int) != (l.length : Int)) = true := bne_iff_ne.mpr hlen
   clear hlen
   go_enter Try.func43, Try.ntmps43
   go_wp2_with (first | (go_at_call 97; refine Calls.mono (HM.out _ (Kd.C_alloc HR.out _) HC.out) ?_; rintro e w1 ⟨rfl, hb⟩; have HB := Aside0.mk hb; have hn0 := (hb.block w.heap.size (by simp)).trans (World.alloc_heap_new w _); have hc0 := blk_cell hn0 2; have hlt0 := blk_lt hn0; simp only [List.getElem?_toArray, List.getElem?_cons_zero, List.getElem?_cons_succ] at hc0; clear hb hn0))
   go_ret3
   exact ⟨_, rfl, Kd.R_nil _ _ _ _ _, below_alloc (Below.trans (below_alloc (Below.refl _ _) _) (HB.out.mono (by simp))) _⟩
theorem puzzles_Flows.mono : ∀ a0 a1 l a3 a4 tn k, LeO (puzzles_Flows.f k a0 a1 l a3 a4 tn) (puzzles_Flows.f (k + 1) a0 a1 l a3 a4 tn) := by
 intro a0 a1 l a3 a4 tn k
 unfold puzzles_Flows.f
 refine LeO.ite (LeO.ite (LeO.bind (LeO.refl _) (fun _ => LeO.ite (LeO.refl _) (LeO.bind (puzzles_plumbing_flows.mono _ _ _ _ _ _ _ _ _) (fun _ => LeO.refl _)))) (LeO.refl _)) (LeO.refl _)

end Go.Proofs.Ytdhiijleafcfcaa.T
