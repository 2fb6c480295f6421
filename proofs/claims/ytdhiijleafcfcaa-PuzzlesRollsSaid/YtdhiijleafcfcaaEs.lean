/- Escape and Traps: what they return. -/
import Derived.Test.YtdhiijleafcfcaaT0
import Derived.Test.YtdhiijleafcfcaaRe
import Derived.Test.YtdhiijleafcfcaaNm
import Derived.Test.YtdhiijleafcfcaaSo
namespace Go.Proofs.Ytdhiijleafcfcaa.T
open Go.RowKit Go.Proofs.YtdhiijleafcfcaaW.PrintWords Go.Proofs.YtdhiijleafcfcaaW.PrintLast Go.Proofs.YtdhiijleafcfcaaW.PrintMore
attribute [local go_sem] max2_int min2_int max_two min_two max_three min_three max_four min_four
set_option linter.unusedVariables false
set_option linter.unusedSimpArgs false

open Mz
/-- slices.Sort at a row of the call's own. -/
theorem sort_calls {v : Value} {xs : List Int} {V : World} {base : Nat} (hv : Kd.R (Kd.int .i64) 3 V base (fun _ => True) v xs) (hl : xs.length < 4611686018427387904) :
  Calls Try.prog 91 #[v] V fun e w' => e = .returned (.tuple #[]) ∧ Kd.R (Kd.int .i64) 3 w' base (fun _ => True) v (xs.mergeSort fun x y => decide (x ≤ y)) ∧ Below base V w' := by
 have hv0 := hv
 obtain ⟨_, inner, ⟨hlen, hown⟩, _⟩ := hv
 rcases hown with ⟨rfl, h0⟩ | ⟨g, cap, cur, rfl, hg, hb, hn, hcap, hsz, htk⟩
 ·obtain rfl := List.eq_nil_of_length_eq_zero h0
  exact (Try.slices_Sort_int_none none 0 V).mono fun e w' ⟨h1, h2⟩ => ⟨h1, by rw [h2]; simpa using hv0, by rw [h2]; exact Below.refl _ _⟩
 ·have hglt : g < V.heap.size := blk_lt hb
  have hsz' : cur.size = cap * 1 := hsz
  have hH : Go.Sort.Holds (Value.int .i64) V g 0 xs.toArray := by
   intro j hj
   simp only [List.size_toArray] at hj
   refine ⟨?_, blk_frozen hb _⟩
   obtain ⟨ad, ea, hca⟩ := Kd.at_int (Kd.R_reads' hv0).2.2 (j : Int) (by omega) (by omega)
   cases ea
   rw [Int.toNat_natCast] at hca
   have : (⟨g, 0, none⟩ : Addr).add j = ⟨g, 0 + j, none⟩ := by simp [Addr.add]; omega
   rw [this] at hca
   rw [hca]
   unfold rd
   rw [Int.toNat_natCast, List.getD_eq_getElem?_getD, List.getElem?_eq_getElem hj, getElem!_pos xs.toArray j (by simpa using hj)]
   rfl
  refine (Try.slices_Sort_int g 0 cap xs V hH hglt hl).mono fun e w' ⟨h1, n, os, h2⟩ => ⟨h1, ?_, ?_⟩
  ·have hms : (xs.mergeSort fun x y => decide (x ≤ y)).length = xs.length := List.length_mergeSort xs
   generalize (xs.mergeSort fun x y => decide (x ≤ y)) = ys at h2 hms ⊢
   have hw : w'.heap[g]? = some (.cells (Go.Sort.putCells (Value.int .i64) 0 ys.toArray cur) 3 (0, 0)) := by
    have hglt2 : g < (Go.Sort.ahead V n).heap.size := hglt
    have hb2 : (Go.Sort.ahead V n).heap[g]? = some (.cells cur 3 (0, 0)) := hb
    rw [h2]
    unfold Go.Sort.grow
    rw [Array.getElem?_append_left (by simp; exact hglt2)]
    simp [Go.Sort.putRow, Go.Sort.mapBlock, Array.getElem?_modify, Go.Sort.onCells]
    exact ⟨_, hb, rfl⟩
   rw [← hms] at hn ⊢
   refine Kd.R_of_own ⟨by simp [encs], .inr ⟨g, cap, _, rfl, hg, hw, hn, hcap, by simp [Go.Sort.putCells, hsz'], ?_⟩⟩ (fun _ _ => trivial)
   apply List.ext_getElem?
   intro k
   rw [Nat.mul_one, List.getElem?_take]
   by_cases hk : k < ys.length
   ·rw [if_pos hk]
    simp only [Go.Sort.putCells, Array.getElem?_toList, Array.getElem?_mapIdx, encs, List.getElem?_map]
    rw [List.getElem?_eq_getElem hk, Array.getElem?_eq_getElem (by omega)]
    simp only [Option.map_some, List.size_toArray, Nat.zero_add, Nat.zero_le, true_and, if_pos hk, Nat.sub_zero]
    rw [getElem!_pos ys.toArray k (by simpa using hk)]
    rfl
   ·rw [if_neg hk, List.getElem?_eq_none (by simp [encs]; omega)]
  ·rw [h2]
   refine ⟨rfl, rfl, rfl, by simp [Go.Sort.grow], fun i hi => ?_⟩
   have hne : g ≠ i := by omega
   unfold Go.Sort.grow
   by_cases q : i < V.heap.size
   ·rw [Array.getElem?_append_left (by simp; exact q)]
    simp [Go.Sort.putRow, Go.Sort.mapBlock, Array.getElem?_modify, hne]
    try rfl
   ·exact absurd (show i < V.heap.size by omega) q
/-- The moves to a cell, if the search has come to it. -/
def movesTo (R : List En) (z : Int) : Option (List Int) := (R.find? fun e => e.1 == z).map (·.2)
def puzzles_Escape.f (k : Nat) (a0 a1 : Int) (l : List Bool) (a3 a4 : Int) : Option (List Int × Int) :=
 if mazeB a0 a1 l a3 a4 = true then (if 0 ≤ a4 ∧ a4 < 1000 then (reachedF k a0 a1 l a3 a4 a3).bind fun R => some (match movesTo R a4 with | some m => (m, 0) | none => ([], 3)) else none) else some ([], 30)
theorem puzzles_Escape.mono_roll (rl rl' : Int → Int → Option Int) (h : ∀ c d, LeO (rl c d) (rl' c d)) (c : Int) (wy : List Int) : ∀ (t : List Int) (L : List En), LeO (rchIn rl c wy t L) (rchIn rl' c wy t L)
 | [], _ => LeO.refl _
 | d :: t, L => by
  unfold rchIn
  exact LeO.bind (h _ _) (fun _ => LeO.ite (puzzles_Escape.mono_roll rl rl' h c wy t _) (LeO.ite (puzzles_Escape.mono_roll rl rl' h c wy t _) (LeO.refl _)))
theorem puzzles_Escape.mono_out (rl rl' : Int → Int → Option Int) (h : ∀ c d, LeO (rl c d) (rl' c d)) : ∀ (k : Nat) (L : List En) (i : Nat), LeO (rchOut rl k L i) (rchOut rl' (k + 1) L i)
 | 0, _, _ => LeO.none _
 | k + 1, L, i => by
  rw [rchOut, rchOut]
  cases L[i]? with
  | none => exact LeO.refl _
  | some e => exact LeO.bind (puzzles_Escape.mono_roll rl rl' h _ _ _ _) (fun _ => puzzles_Escape.mono_out rl rl' h k _ _)
theorem reachedF_mono (a0 a1 : Int) (l : List Bool) (a3 a4 c : Int) (k : Nat) : LeO (reachedF k a0 a1 l a3 a4 c) (reachedF (k + 1) a0 a1 l a3 a4 c) :=
 LeO.ite (puzzles_Escape.mono_out _ _ (fun c d => puzzles_maze_roll.mono _ _ _ _ _ _ _ _ _ _) _ _ _) (LeO.refl _)
theorem puzzles_Escape.mono : ∀ a0 a1 l a3 a4 k, LeO (puzzles_Escape.f k a0 a1 l a3 a4) (puzzles_Escape.f (k + 1) a0 a1 l a3 a4) := by
 intro a0 a1 l a3 a4 k
 unfold puzzles_Escape.f
 exact LeO.ite (LeO.ite (LeO.bind (reachedF_mono _ _ _ _ _ _ _) (fun _ => LeO.refl _)) (LeO.refl _)) (LeO.refl _)
/-- A look-up among what reached has returned. -/
theorem rep_find {V : World} {base : Nat} {ok : Nat → Prop} {B : Nat} {R : List En} (hm : MapIs V base ok B R) (ap : R.Pairwise fun a b => a.1 ≠ b.1) (z : Int) (hz : 0 ≤ z ∧ z < 1000) :
  (movesTo R z = none ∧ (R.any fun e => e.1 == z) = false ∧ (Instr.lookup 105 (.map (some B)) (.int .i64 z) true).run Try.prog V = .ok (.tuple #[.slice none 0 0, .bool false]) V) ∨
  ∃ A m c, movesTo R z = some m ∧ (R.any fun e => e.1 == z) = true ∧ (Instr.lookup 105 (.map (some B)) (.int .i64 z) true).run Try.prog V = .ok (.tuple #[.slice A m.length c, .bool true]) V ∧ Kd.R (Kd.int .i64) 3 V base ok (.slice A m.length c) m := by
 rcases ma_find hm ap z (wf_small hz) true with ⟨h1, h2⟩ | ⟨e, v, h1, h2, h3, h4⟩
 ·refine .inl ⟨?_, ?_, h1⟩
  ·unfold movesTo
   rw [List.find?_eq_none.2 (fun e he => by simpa using h2 e he)]
   rfl
  ·rw [List.any_eq_false]
   intro e he
   simpa using h2 e he
 ·obtain ⟨A, c, rfl⟩ := Kd.R_slice h4
  refine .inr ⟨A, e.2, c, ?_, List.any_eq_true.2 ⟨e, h1, by simpa using h2⟩, h3, h4⟩
  unfold movesTo
  cases hf : R.find? (fun e => e.1 == z) with
  | none => exact absurd h2 (by simpa using List.find?_eq_none.1 hf e h1)
  | some e' =>
   have m1 := List.mem_of_find?_eq_some hf
   have m2 := List.find?_some hf
   simp only [beq_iff_eq] at m2
   have : e' = e := by
    obtain ⟨i, hi, rfl⟩ := List.getElem_of_mem m1
    obtain ⟨j, hj, rfl⟩ := List.getElem_of_mem h1
    rcases Nat.lt_trichotomy i j with q | q | q
    ·exact absurd (m2.trans h2.symm) (List.pairwise_iff_getElem.1 ap i j hi hj q)
    ·subst q; rfl
    ·exact absurd (h2.trans m2.symm) (List.pairwise_iff_getElem.1 ap j i hj hi q)
   rw [this]
   rfl
set_option maxHeartbeats 4000000 in
set_option maxRecDepth 100000 in
theorem puzzles_Escape.calls (k : Nat) (a0 a1 : Int) (A : Option Addr) (c : Nat) (l : List Bool) (a3 a4 : Int) (r1 : List Int) (r2 : Int) (w : World) (hr : Kd.C Kd.bool w A l.length l) (hc : l.length ≤ c) (h : puzzles_Escape.f k a0 a1 l a3 a4 = some (r1, r2)) :
  Calls Try.prog 32 #[.agg #[.int .i64 a0, .int .i64 a1, .slice A l.length c, .int .i64 a3, .int .i64 a4]] w fun e w' => ∃ v0_ : Value, e = .returned (.tuple #[v0_, .int .i64 r2]) ∧ Kd.R (Kd.int .i64) 3 w' w.heap.size (fun _ => True) v0_ r1 ∧ Below w.heap.size w w' := by
 have hu39 := Try.underlying39
 have hu99 := Try.underlying99
 have HM := Aside0.mk (fun V => newMaze_calls A c l a0 a1 a3 a4 V)
 have HC := Aside0.mk hc
 have HR := Aside0.mk hr
 unfold puzzles_Escape.f at h
 obtain ⟨bm, hbm⟩ : ∃ bm, mazeB a0 a1 l a3 a4 = bm := ⟨_, rfl⟩
 rw [hbm] at h HM
 clear hbm hr hc
 cases bm with
 | false =>
  rw [if_neg (by decide)] at h
  cases h
  go_enter Try.func32, Try.ntmps32
  go_wp2_with (go_at_call 83; refine Calls.mono (HM.out _ (Kd.C_alloc HR.out _) HC.out) ?_; rintro e w1 ⟨rfl, hb⟩)
  go_ret2
  exact ⟨_, rfl, Kd.R_nil _ _ _ _ _, below_alloc (Below.trans (below_alloc (Below.refl _ _) _) (hb.mono (by simp))) _⟩
 | true =>
  rw [if_pos rfl] at h
  by_cases hz : 0 ≤ a4 ∧ a4 < 1000
  ·rw [if_pos hz] at h
   obtain ⟨R, hR, h⟩ := Option.bind_eq_some_iff.mp h
   have HRR := Aside0.mk hR
   have HO := Aside0.mk (Option.some.inj h)
   have HZ := Aside0.mk hz
   clear hR h hz
   obtain ⟨mv, hmv⟩ : ∃ mv, movesTo R a4 = mv := ⟨_, rfl⟩
   rw [hmv] at HO
   have HMV := Aside0.mk hmv
   clear hmv
   cases mv with
   | none =>
    go_enter Try.func32, Try.ntmps32
    go_wp2_with (first
     | (go_at_call 83; refine Calls.mono (HM.out _ (Kd.C_alloc HR.out _) HC.out) ?_; rintro e w1 ⟨rfl, hb⟩; have hn0 := (hb.block w.heap.size (by simp)).trans (World.alloc_heap_new w _); have hc3 := blk_cell hn0 3; have hc4 := blk_cell hn0 4; have hlt0 := blk_lt hn0; simp only [List.getElem?_toArray, List.getElem?_cons_zero, List.getElem?_cons_succ] at hc3 hc4; have HB := Aside0.mk hb; have HN := Aside0.mk hn0; clear hb hn0)
     | (go_at_call 88; refine Calls.mono (reached_calls k a0 a1 A c l a3 a4 a3 R _ (Kd.C_alloc (Kd.C_below (Kd.C_alloc HR.out _) HB.out) _) HC.out HRR.out) ?_; rintro e w2 ⟨v2, B, rfl, hv2, hm2, hap, hrg, hb2⟩; have hc4 := (hb2.cell (p := ⟨w.heap.size, 4, none⟩) (by simp; omega)).trans ((World.cell?_of_block (heap_alloc_old w1 _ w.heap.size hlt0)).trans hc4); have hlk := (rep_find hm2 hap a4 HZ.out).resolve_right (fun ⟨_, _, _, q, _⟩ => by rw [HMV.out] at q; cases q); obtain ⟨_, _, hlk⟩ := hlk; have HB2 := Aside0.mk hb2; clear hv2 hm2 hap hrg hb2))
    go_ret2
    have hO := HO.out
    cases hO
    exact ⟨_, rfl, Kd.R_nil _ _ _ _ _, Below.trans (below_alloc (Below.trans (below_alloc (Below.refl _ _) _) (HB.out.mono (by simp))) _) (HB2.out.mono (by have := HB.out.size; simp at this ⊢; omega))⟩
   | some m =>
    go_enter Try.func32, Try.ntmps32
    go_wp2_with (first
     | (go_at_call 83; refine Calls.mono (HM.out _ (Kd.C_alloc HR.out _) HC.out) ?_; rintro e w1 ⟨rfl, hb⟩; have hn0 := (hb.block w.heap.size (by simp)).trans (World.alloc_heap_new w _); have hc3 := blk_cell hn0 3; have hc4 := blk_cell hn0 4; have hlt0 := blk_lt hn0; simp only [List.getElem?_toArray, List.getElem?_cons_zero, List.getElem?_cons_succ] at hc3 hc4; have HB := Aside0.mk hb; have HN := Aside0.mk hn0; clear hb hn0)
     | (go_at_call 88; refine Calls.mono (reached_calls k a0 a1 A c l a3 a4 a3 R _ (Kd.C_alloc (Kd.C_below (Kd.C_alloc HR.out _) HB.out) _) HC.out HRR.out) ?_; rintro e w2 ⟨v2, B, rfl, hv2, hm2, hap, hrg, hb2⟩; have hc4 := (hb2.cell (p := ⟨w.heap.size, 4, none⟩) (by simp; omega)).trans ((World.cell?_of_block (heap_alloc_old w1 _ w.heap.size hlt0)).trans hc4); have hlk := (rep_find hm2 hap a4 HZ.out).resolve_left (fun ⟨q, _⟩ => by rw [HMV.out] at q; cases q); obtain ⟨Am, m', cm, hmm, _, hlk, hRm⟩ := hlk; have HMM := Aside0.mk hmm; have HRM := Aside0.mk hRm; have HB2 := Aside0.mk hb2; clear hv2 hm2 hap hrg hb2 hmm hRm))
    go_ret2
    have hO := HO.out
    have hmm := HMM.out
    rw [HMV.out] at hmm
    cases hmm
    cases hO
    exact ⟨_, rfl, Kd.R_mono (Kd.R_lower HRM.out (by have := HB.out.size; simp at this ⊢; omega)) (fun _ _ => trivial), Below.trans (below_alloc (Below.trans (below_alloc (Below.refl _ _) _) (HB.out.mono (by simp))) _) (HB2.out.mono (by have := HB.out.size; simp at this ⊢; omega))⟩
  ·rw [if_neg hz] at h
   cases h

end Go.Proofs.Ytdhiijleafcfcaa.T
