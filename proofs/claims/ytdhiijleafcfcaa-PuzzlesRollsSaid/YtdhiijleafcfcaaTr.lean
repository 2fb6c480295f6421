/- Traps: what it returns. -/
import Derived.Test.YtdhiijleafcfcaaT0
import Derived.Test.YtdhiijleafcfcaaEs
namespace Go.Proofs.Ytdhiijleafcfcaa.T
open Go.RowKit Go.Proofs.YtdhiijleafcfcaaW.PrintWords Go.Proofs.YtdhiijleafcfcaaW.PrintLast Go.Proofs.YtdhiijleafcfcaaW.PrintMore
attribute [local go_sem] max2_int min2_int max_two min_two max_three min_three max_four min_four
set_option linter.unusedVariables false
set_option linter.unusedSimpArgs false

open Mz
def trapsIn (k : Nat) (a0 a1 : Int) (l : List Bool) (a3 a4 : Int) : List Int → Option (List Int)
 | [] => some []
 | c :: t => (reachedF k a0 a1 l a3 a4 c).bind fun S => (trapsIn k a0 a1 l a3 a4 t).bind fun o => some (if (S.any fun e => e.1 == a4) = true then o else c :: o)
def puzzles_Traps.f (k : Nat) (a0 a1 : Int) (l : List Bool) (a3 a4 : Int) : Option (List Int × Int) :=
 if mazeB a0 a1 l a3 a4 = true then (if 0 ≤ a4 ∧ a4 < 1000 then (reachedF k a0 a1 l a3 a4 a3).bind fun R => if R.length < 10000 then (trapsIn k a0 a1 l a3 a4 (R.map (·.1))).bind fun o => some (o.mergeSort fun x y => decide (x ≤ y), 0) else none else none) else some ([], 30)
theorem trapsIn_mono (k : Nat) (a0 a1 : Int) (l : List Bool) (a3 a4 : Int) : ∀ cs, LeO (trapsIn k a0 a1 l a3 a4 cs) (trapsIn (k + 1) a0 a1 l a3 a4 cs)
 | [] => LeO.refl _
 | c :: t => by
  unfold trapsIn
  exact LeO.bind (reachedF_mono _ _ _ _ _ _ _) (fun _ => LeO.bind (trapsIn_mono k a0 a1 l a3 a4 t) (fun _ => LeO.refl _))
theorem puzzles_Traps.mono : ∀ a0 a1 l a3 a4 k, LeO (puzzles_Traps.f k a0 a1 l a3 a4) (puzzles_Traps.f (k + 1) a0 a1 l a3 a4) := by
 intro a0 a1 l a3 a4 k
 unfold puzzles_Traps.f
 exact LeO.ite (LeO.ite (LeO.bind (reachedF_mono _ _ _ _ _ _ _) (fun _ => LeO.ite (LeO.bind (trapsIn_mono _ _ _ _ _ _ _) (fun _ => LeO.refl _)) (LeO.refl _))) (LeO.refl _)) (LeO.refl _)
theorem has_calls (B : Nat) (z : Int) (b : Bool) (V : World) (v : Value) (h : (Instr.lookup 105 (.map (some B)) (.int .i64 z) true).run Try.prog V = .ok (.tuple #[v, .bool b]) V) :
  Calls Try.prog 90 #[.map (some B), .int .i64 z] V fun e w' => e = .returned (.bool b) ∧ V = w' := by
 go_enter Try.func90, Try.ntmps90
 go_wp2
 go_ret
 exact ⟨rfl, rfl⟩
theorem rdl {l : List Int} {i : Nat} (h : i < l.length) : rd l (i : Int) = l[i] := by
 unfold rd
 rw [Int.toNat_natCast, List.getD_eq_getElem?_getD, List.getElem?_eq_getElem h]
 rfl
/-- What the loop keeps. -/
structure TrS (w : World) (b2 : Nat) (A : Option Addr) (c : Nat) (l : List Bool) (a0 a1 a3 a4 : Int) (cs : List Int) (vc : Value) (x : List Int) (vx : Value) (V : World) : Prop where
 n1 : V.heap[w.heap.size]? = some (.cells #[.int .i64 a0, .int .i64 a1, .slice A l.length c, .int .i64 a3, .int .i64 a4] 39 (0, 0))
 n2 : V.heap[b2]? = some (.cells #[.int .i64 a0, .int .i64 a1, .int .i64 a0, .int .i64 a1, .slice A l.length c, .int .i64 a3, .int .i64 a4] 99 (0, 0))
 hc : Kd.R (Kd.int .i64) 3 V w.heap.size (fun k => some k ≠ vx.ownBlock) vc cs
 hx : Kd.R (Kd.int .i64) 3 V w.heap.size (fun _ => True) vx x
 hb : Below w.heap.size w V
section
variable {w : World} {b2 : Nat} {A : Option Addr} {c : Nat} {l : List Bool} {a0 a1 a3 a4 : Int} {cs x : List Int} {vc vx : Value} {V V' : World}
theorem TrS.below (h : TrS w b2 A c l a0 a1 a3 a4 cs vc x vx V) (hb : Below V.heap.size V V') : TrS w b2 A c l a0 a1 a3 a4 cs vc x vx V' :=
 ⟨(hb.block _ (blk_lt h.n1)).trans h.n1, (hb.block _ (blk_lt h.n2)).trans h.n2, Kd.R_below h.hc hb, Kd.R_below h.hx hb, h.hb.trans (hb.mono h.hb.size)⟩
theorem TrS.app (h : TrS w b2 A c l a0 a1 a3 a4 cs vc x vx V) {v' : Value} {x' : List Int} (ho : Kd.R (Kd.int .i64) 3 V' w.heap.size (fun _ => True) v' x') (hb : Below w.heap.size w V') (hg : V.grownBy V' vx.ownBlock) (hat : v'.ownBlock = vx.ownBlock ∨ ∃ b, v'.ownBlock = some b ∧ V.heap.size ≤ b) : TrS w b2 A c l a0 a1 a3 a4 cs vc x' v' V' :=
 ⟨(hg.block _ (blk_lt h.n1) (Kd.R_ne h.hx h.n1 (by decide))).trans h.n1, (hg.block _ (blk_lt h.n2) (Kd.R_ne h.hx h.n2 (by decide))).trans h.n2,
  Kd.R_mono (Kd.R_grown (Kd.R_bound h.hc) hg (fun k hk => hk.1)) (fun k hk => by
   rcases hat with e | ⟨b, e, hb⟩
   ·rw [e]; exact hk.1
   ·rw [e]
    have := hk.2.2.1
    intro e2
    cases e2
    omega), ho, hb⟩
end
set_option maxHeartbeats 8000000 in
set_option maxRecDepth 100000 in
theorem puzzles_Traps.calls (k : Nat) (a0 a1 : Int) (A : Option Addr) (c : Nat) (l : List Bool) (a3 a4 : Int) (r1 : List Int) (r2 : Int) (w : World) (hr : Kd.C Kd.bool w A l.length l) (hc : l.length ≤ c) (h : puzzles_Traps.f k a0 a1 l a3 a4 = some (r1, r2)) :
  Calls Try.prog 34 #[.agg #[.int .i64 a0, .int .i64 a1, .slice A l.length c, .int .i64 a3, .int .i64 a4]] w fun e w' => ∃ v0_ : Value, e = .returned (.tuple #[v0_, .int .i64 r2]) ∧ Kd.R (Kd.int .i64) 3 w' w.heap.size (fun _ => True) v0_ r1 ∧ Below w.heap.size w w' := by
 have hu39 := Try.underlying39
 have hu99 := Try.underlying99
 have HM := Aside0.mk (fun V => newMaze_calls A c l a0 a1 a3 a4 V)
 have HC := Aside0.mk hc
 have HR := Aside0.mk hr
 unfold puzzles_Traps.f at h
 obtain ⟨bm, hbm⟩ : ∃ bm, mazeB a0 a1 l a3 a4 = bm := ⟨_, rfl⟩
 rw [hbm] at h HM
 clear hbm hr hc
 cases bm with
 | false =>
  rw [if_neg (by decide)] at h
  cases h
  go_enter Try.func34, Try.ntmps34
  go_wp2_with (go_at_call 83; refine Calls.mono (HM.out _ (Kd.C_alloc HR.out _) HC.out) ?_; rintro e w1 ⟨rfl, hb⟩)
  go_ret2
  exact ⟨_, rfl, Kd.R_nil _ _ _ _ _, below_alloc (Below.trans (below_alloc (Below.refl _ _) _) (hb.mono (by simp))) _⟩
 | true =>
  rw [if_pos rfl] at h
  by_cases hz : 0 ≤ a4 ∧ a4 < 1000
  ·rw [if_pos hz] at h
   obtain ⟨R, hR, h⟩ := Option.bind_eq_some_iff.mp h
   by_cases hRl : R.length < 10000
   ·rw [if_pos hRl] at h
    obtain ⟨o, ho, h⟩ := Option.bind_eq_some_iff.mp h
    have h3 := Option.some.inj h
    rw [Prod.mk.injEq] at h3
    obtain ⟨hr1, rfl⟩ := h3
    have HR1 := Aside0.mk hr1
    have HRR := Aside0.mk hR
    have HRL := Aside0.mk hRl
    have HO := Aside0.mk ho
    have HZ := Aside0.mk hz
    clear hR h hz hRl ho hr1
    go_enter Try.func34, Try.ntmps34
    go_wp2_with (first
     | (go_at_call 83; refine Calls.mono (HM.out _ (Kd.C_alloc HR.out _) HC.out) ?_; rintro e w1 ⟨rfl, hb⟩; have hn0 := (hb.block w.heap.size (by simp)).trans (World.alloc_heap_new w _); have hc3 := blk_cell hn0 3; have hlt0 := blk_lt hn0; simp only [List.getElem?_toArray, List.getElem?_cons_zero, List.getElem?_cons_succ] at hc3; have HB := Aside0.mk hb; have HN := Aside0.mk hn0; clear hb hn0)
     | (go_at_call 88; refine Calls.mono (reached_calls k a0 a1 A c l a3 a4 a3 R _ (Kd.C_alloc (Kd.C_below (Kd.C_alloc HR.out _) HB.out) _) HC.out HRR.out) ?_; rintro e w2 ⟨v2, B, rfl, hv2, hm2, hap, hrg, hb2⟩; obtain ⟨Av, cv, e2⟩ := Kd.R_slice hv2; rw [List.length_map] at e2; subst e2; have HV2 := Aside0.mk hv2; have HRG := Aside0.mk hrg; have HB2 := Aside0.mk hb2; clear hm2 hap hrg hb2 hv2))
    have hS : TrS w w1.heap.size A c l a0 a1 a3 a4 (R.map (·.1)) (.slice Av R.length cv) [] (.slice none 0 0) w2 :=
     ⟨(HB2.out.block _ (by simp; omega)).trans ((heap_alloc_old w1 _ w.heap.size hlt0).trans HN.out), (HB2.out.block _ (by simp)).trans (World.alloc_heap_new w1 _), Kd.R_mono (Kd.R_lower HV2.out (by have := HB.out.size; simp at this ⊢; omega)) (fun k _ => by simp [Value.ownBlock]), Kd.R_nil _ _ _ _ _,
      Below.trans (below_alloc (Below.trans (below_alloc (Below.refl _ _) _) (HB.out.mono (by simp))) _) (HB2.out.mono (by have := HB.out.size; simp at this ⊢; omega))⟩
    have HS0 := Aside0.mk hS
    clear hS HV2 HN HB2 HB HM hc3 hlt0
    go_loopg [2, 28] (R.length + 1) (fun gg v2 v28 wr => ∃ (i : Nat) (x : List Int), i ≤ R.length ∧ R.length - i < gg ∧ v28 = .int .i64 (i : Int) ∧ x.length ≤ i ∧ Aside0 (∃ o', trapsIn k a0 a1 l a3 a4 ((R.map (·.1)).drop i) = some o' ∧ x ++ o' = o) ∧ Aside0 (TrS w w1.heap.size A c l a0 a1 a3 a4 (R.map (·.1)) (.slice Av R.length cv) x v2 wr))
    case atStart => exact ⟨0, [], by omega, by omega, rfl, by simp, ⟨o, by rw [List.drop_zero]; exact HO.out, rfl⟩, HS0⟩
    case round =>
     clear HS0 HO
     obtain ⟨i, x, hi, hg, rfl, hxl, HT, HS⟩ := hrel
     have hRl := HRL.out
     obtain ⟨Ax, cx, ex⟩ := Kd.R_slice HS.out.hx
     subst ex
     by_cases hlt : i < R.length
     ·have hilt : (i : Int) < (R.length : Int) := by omega
      have w1' : IntKind.i64.wrap ((i : Int) + 1) = (i : Int) + 1 := IntWalk.i64_in _ (by omega)
      have hi1 : i + 1 ≤ R.length := by omega
      have hg1 : R.length - (i + 1) < gk - 1 := by omega
      have hg2 : gk - 1 < gk := by omega
      have HCA := Aside0.mk (show ((i + 1 : Nat) : Int) = (i : Int) + 1 by omega)
      obtain ⟨o', ht, hxo⟩ := HT.out
      have hltm : i < (R.map (·.1)).length := by rw [List.length_map]; exact hlt
      rw [List.drop_eq_getElem_cons hltm, trapsIn] at ht
      obtain ⟨S, hS, ht⟩ := Option.bind_eq_some_iff.mp ht
      obtain ⟨o2, ho2, ht⟩ := Option.bind_eq_some_iff.mp ht
      obtain ⟨ad, ea, hca⟩ := Kd.at_int (Kd.R_reads' HS.out.hc).2.2 (i : Int) (by omega) (by omega)
      have hrd : rd (R.map (·.1)) (i : Int) = (R.map (·.1))[i] := rdl hltm
      rw [hrd] at hca
      obtain ⟨z, hz⟩ : ∃ z, (R.map (·.1))[i] = z := ⟨_, rfl⟩
      rw [hz] at hca hS ht
      have HSS := Aside0.mk hS
      have HO2 := Aside0.mk ho2
      have HT2 := Aside0.mk (Option.some.inj ht)
      have HXO := Aside0.mk hxo
      have HLX := Aside0.mk (show x.length < 17592186044416 by omega)
      have HXL1 := Aside0.mk (show (x ++ [z]).length ≤ i + 1 by simp; omega)
      have HXL2 := Aside0.mk (show x.length ≤ i + 1 by omega)
      have hlt0 : w.heap.size < wr.heap.size := blk_lt HS.out.n1
      have hc4 := blk_cell HS.out.n1 4
      have hcell := fun j => blk_cell HS.out.n2 j
      have x0 := hcell 0
      have x1 := hcell 1
      have x2 := hcell 2
      have x3 := hcell 3
      have x4 := hcell 4
      have x5 := hcell 5
      have x6 := hcell 6
      simp only [List.getElem?_toArray, List.getElem?_cons_zero, List.getElem?_cons_succ] at x0 x1 x2 x3 x4 x5 x6 hc4
      rw [Int.toNat_natCast] at hca
      subst ea
      obtain ⟨b, hb⟩ : ∃ b, (S.any fun e => e.1 == a4) = b := ⟨_, rfl⟩
      rw [hb] at HT2
      have HBB := Aside0.mk hb
      clear hS ho2 ht hxo hcell hrd hz hb HT hxl hi
      cases b with
      | true =>
       have HN2 := Aside0.mk (show ∃ o', trapsIn k a0 a1 l a3 a4 ((R.map (·.1)).drop (i + 1)) = some o' ∧ x ++ o' = o from ⟨o2, HO2.out, by rw [← HXO.out, ← HT2.out]; rfl⟩)
       go_wp2_with (first
        | (go_at_call 88; refine Calls.mono (reached_calls k a0 a1 A c l a3 a4 z S _ (Kd.C_below HR.out HS.out.hb) HC.out HSS.out) ?_; rintro e3 w3 ⟨v3, B3, rfl, hv3, hm3, hap, hrg, hb3⟩; have hc4 := (hb3.cell (p := ⟨w.heap.size, 4, none⟩) hlt0).trans hc4; have HS3 := Aside0.mk (HS.out.below hb3); have hlk := (rep_find hm3 hap a4 HZ.out).resolve_left (fun ⟨_, q, _⟩ => by rw [HBB.out] at q; cases q); obtain ⟨Am, m', cm, _, _, hlk, _⟩ := hlk; have HLK := Aside0.mk hlk; clear hv3 hm3 hap hrg hb3 hlk)
        | (go_at_call 90; refine Calls.mono (has_calls B3 a4 true _ _ HLK.out) ?_; rintro e4 w4 ⟨rfl, rfl⟩))
       go_roundg (gk - 1)
       case measure => exact hg2
       case rel => exact ⟨i + 1, x, hi1, hg1, by rw [HCA.out], HXL2.out, HN2, HS3⟩
      | false =>
       have HN2 := Aside0.mk (show ∃ o', trapsIn k a0 a1 l a3 a4 ((R.map (·.1)).drop (i + 1)) = some o' ∧ (x ++ [z]) ++ o' = o from ⟨o2, HO2.out, by rw [← HXO.out, ← HT2.out]; simp⟩)
       go_wp2_with (first
        | (go_at_call 88; refine Calls.mono (reached_calls k a0 a1 A c l a3 a4 z S _ (Kd.C_below HR.out HS.out.hb) HC.out HSS.out) ?_; rintro e3 w3 ⟨v3, B3, rfl, hv3, hm3, hap, hrg, hb3⟩; have hc4 := (hb3.cell (p := ⟨w.heap.size, 4, none⟩) hlt0).trans hc4; have HS3 := Aside0.mk (HS.out.below hb3); have hlk := (rep_find hm3 hap a4 HZ.out).resolve_right (fun ⟨_, _, _, _, q, _⟩ => by rw [HBB.out] at q; cases q); obtain ⟨_, _, hlk⟩ := hlk; have HLK := Aside0.mk hlk; clear hv3 hm3 hap hrg hb3 hlk)
        | (go_at_call 90; refine Calls.mono (has_calls B3 a4 false _ _ HLK.out) ?_; rintro e4 w4 ⟨rfl, rfl⟩)
        | ((with_reducible refine gate_builtin (b := .append) (xs := #[.tmp 43, .tmp 45]) rfl ?_); at_builtin; refine Kd.R_append (Kd.int .i64) (w0 := w) w.heap.size rfl (.tmp 43) (.tmp 45) 22 3 (.int .i64 0) 8 rfl Try.underlying22 info3 rfl (by decide) (by omega) (.slice Ax x.length cx) x z [.int .i64 z] (fun _ => True) (fun _ => False) rfl rfl ?aP (fun _ hk => hk.elim) ?aF ?aO ?aB ?aS ?aL ?_; (case aP => exact rfl); (case aB => exact HS3.out.hb); (case aF => exact (fun _ _ => trivial)); (case aO => exact HS3.out.hx); (case aS => exact below_size HS3.out.hb); (case aL => have := HLX.out; omega); intro v5 w5 ho hb hg hat; have HS5 := Aside0.mk (HS3.out.app ho hb hg hat); clear ho hb hg hat))
       go_roundg (gk - 1)
       case measure => exact hg2
       case rel => exact ⟨i + 1, x ++ [z], hi1, hg1, by rw [HCA.out], HXL1.out, HN2, HS5⟩
     ·have hnlt : ¬ (i : Int) < (R.length : Int) := by omega
      have hdrop : (R.map (·.1)).drop i = [] := List.drop_of_length_le (by rw [List.length_map]; omega)
      obtain ⟨o', ht, hxo⟩ := HT.out
      rw [hdrop, trapsIn] at ht
      cases ht
      rw [List.append_nil] at hxo
      subst hxo
      have HXB := Aside0.mk (show x.length < 4611686018427387904 by omega)
      clear HT hdrop hxl hi
      go_wp2_with (go_at_call 91; refine Calls.mono (sort_calls HS.out.hx HXB.out) ?_; rintro e4 w4 ⟨rfl, hR4, hb4⟩; have HR4 := Aside0.mk hR4; have HB4 := Aside0.mk hb4; clear hR4 hb4)
      go_ret2
      exact ⟨_, rfl, by rw [← HR1.out]; exact HR4.out, HS.out.hb.trans HB4.out⟩
   ·rw [if_neg hRl] at h
    cases h
  ·rw [if_neg hz] at h
   cases h

end Go.Proofs.Ytdhiijleafcfcaa.T
