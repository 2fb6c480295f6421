/- Weigh: the first of the weighings with the fewest weights. -/
import Derived.Test.YtdhiijleafcfcaaT0
import Derived.Test.YtdhiijleafcfcaaWn
namespace Go.Proofs.Ytdhiijleafcfcaa.T
open Go.RowKit Go.Proofs.YtdhiijleafcfcaaW.PrintWords Go.Proofs.YtdhiijleafcfcaaW.PrintLast Go.Proofs.YtdhiijleafcfcaaW.PrintMore
attribute [local go_sem] max2_int min2_int max_two min_two max_three min_three max_four min_four
set_option linter.unusedVariables false
set_option linter.unusedSimpArgs false

def bestO (l : List (List Int × Int)) : List Int × Int := l.foldl (fun b x => if b.2 < 0 ∨ x.2 < b.2 then x else b) ([], -1)
theorem bestO_snoc (l : List (List Int × Int)) (x : List Int × Int) : bestO (l ++ [x]) = if (bestO l).2 < 0 ∨ x.2 < (bestO l).2 then x else bestO l := by
 unfold bestO
 rw [List.foldl_append]
 rfl
def bestW (pre : List WX) : List Int × Int := bestO (pre.map fun x => (x.2.1, x.2.2))
theorem bestW_snoc (pre : List WX) (x : WX) : bestW (pre ++ [x]) = if (bestW pre).2 < 0 ∨ x.2.2 < (bestW pre).2 then (x.2.1, x.2.2) else bestW pre := by
 unfold bestW
 rw [List.map_append, List.map_singleton, bestO_snoc]
theorem bestW_tag (g : Nat) (l : List (List Int × Int)) : bestW (wTag g l) = bestO l := by
 unfold bestW wTag
 rw [List.map_map]
 congr 1
 exact List.map_id' _
/-- The caller's word, while it keeps the best. -/
def WgOk (D : Nat → Prop) (bS bL x y : Nat) (k : Nat) : Prop := ¬ D k ∧ k ≠ bS ∧ k ≠ bL ∧ k ≠ x ∧ k ≠ y
def WgI (bS bL x y : Nat) (w0 : World) (pre : List WX) (D : Nat → Prop) (W : World) : Prop :=
 ∃ v, W.heap[bS]? = some (.cells #[v] 22 (0, 0)) ∧ W.heap[bL]? = some (.cells #[.int .i64 (bestW pre).2] 3 (0, 0)) ∧ (∀ k, D k → bS < k ∧ bL < k) ∧ Below bS w0 W ∧
  Kd.R (Kd.int .i64) 3 W w0.heap.size (WgOk D bS bL x y) v (bestW pre).1
theorem WgI_law (bS bL x y : Nat) (w0 : World) (hx : bS < x ∧ bL < x) (hy : bS < y ∧ bL < y) (hSL : bS < bL) : Ilaw x y (WgI bS bL x y w0) := by
 rintro s D D' A B ⟨v, h1, h2, h3, h4, h5⟩ hAB hD
 have hltS := blk_lt h1
 have hltL := blk_lt h2
 have hD3 : ∀ k, D' k → bS < k ∧ bL < k := fun k hk => by rcases hD k hk with h | h; exact h3 k h; omega
 refine ⟨v, hAB.at_ ⟨fun h => by have := h3 _ h; omega, by omega, by omega⟩ h1, hAB.at_ ⟨fun h => by have := h3 _ h; omega, by omega, by omega⟩ h2, hD3,
  h4.trans (hAB.below (by omega) fun k hk => ⟨fun h => by have := h3 k h; omega, by omega, by omega⟩), ?_⟩
 refine Kd.R_mono (Kd.R_step (Kd.R_bound h5) (fun k ho hlt => ?_)) (fun k hk => ?_)
 ·exact hAB.block k hlt ⟨ho.1.1, ho.1.2.2.2.1, ho.1.2.2.2.2⟩
 ·exact ⟨fun hd => by rcases hD k hd with h | h; exact hk.1.1 h; omega, hk.1.2⟩
theorem below_le {B B' : Nat} {a b : World} (h : Below B a b) (hB : B' ≤ B) : Below B' a b := ⟨h.os, h.tape, h.output, h.size, fun i hi => h.block i (by omega)⟩
/-- A better one is laid up. -/
theorem WgI_step (bS bL x y : Nat) (w0 : World) (pre : List WX) (z : WX) (D : Nat → Prop) (W W' : World) (v' : Value) (h : WgI bS bL x y w0 pre D W) (hSL : bS < bL) (hx : x < W.heap.size) (hy : y < W.heap.size) (hw : w0.heap.size ≤ W.heap.size)
  (hD : ∀ k, D k → k < W.heap.size) (hb : Below W.heap.size W W') (hR : Kd.R (Kd.int .i64) 3 W' W.heap.size (fun _ => True) v' z.2.1) (hbet : (bestW pre).2 < 0 ∨ z.2.2 < (bestW pre).2) :
  WgI bS bL x y w0 (pre ++ [z]) D ((W'.setCell ⟨bS, 0, none⟩ v').setCell ⟨bL, 0, none⟩ (.int .i64 z.2.2)) := by
 obtain ⟨v, h1, h2, h3, h4, h5⟩ := h
 have hltS := blk_lt h1
 have hltL := blk_lt h2
 have h1' := (hb.block _ hltS).trans h1
 have h2' := (hb.block _ hltL).trans h2
 have hs := hb.size
 refine ⟨v', ?_, ?_, h3, ?_, ?_⟩
 ·exact (blk_far (by simpa using blk_set h1' 0 v') (by simp; omega) _)
 ·rw [bestW_snoc, if_pos hbet]
  simpa using blk_set (blk_far h2' (p := ⟨bS, 0, none⟩) (by simp; omega) v') 0 (.int .i64 z.2.2)
 ·exact (h4.trans (below_le hb (by omega))).trans ((((Same.refl (fun k => k < bS) W').setCell ⟨bS, 0, none⟩ (by simp) _).setCell ⟨bL, 0, none⟩ (by simp; omega) _).below (by omega) (fun k hk => hk))
 ·rw [bestW_snoc, if_pos hbet]
  have h6 : Kd.R (Kd.int .i64) 3 W' w0.heap.size (WgOk D bS bL x y) v' z.2.1 := Kd.R_mono (Kd.R_lower (Kd.R_bound hR) hw) (fun k hk => ⟨fun hd => by have := hD k hd; omega, by omega, by omega, by omega, by omega⟩)
  exact Kd.R_far (Kd.R_far h6 (p := ⟨bS, 0, none⟩) (fun k hk => hk.2.1) _) (p := ⟨bL, 0, none⟩) (fun k hk => hk.2.2.1) _
theorem WgI_keep (bS bL x y : Nat) (w0 : World) (pre : List WX) (z : WX) (D : Nat → Prop) (W : World) (h : WgI bS bL x y w0 pre D W) (hbet : ¬ ((bestW pre).2 < 0 ∨ z.2.2 < (bestW pre).2)) : WgI bS bL x y w0 (pre ++ [z]) D W := by
 unfold WgI at *
 rw [bestW_snoc, if_neg hbet]
 exact h
/-- At the end: the box is written once more, the mark is shut. -/
theorem WgI_end (bS bL x y : Nat) (w0 : World) (pre : List WX) (D : Nat → Prop) (W : World) (u : Value) (h : WgI bS bL x y w0 pre D W) (hx : bS < x) (hw : w0.heap.size = bS) :
  ((W.setCell ⟨bS, 0, none⟩ u).putObj x (.deferred none)).cell? ⟨bS, 0, none⟩ = some u ∧ Below w0.heap.size w0 ((W.setCell ⟨bS, 0, none⟩ u).putObj x (.deferred none)) ∧
   (∀ v, W.cell? ⟨bS, 0, none⟩ = some v → Kd.R (Kd.int .i64) 3 ((W.setCell ⟨bS, 0, none⟩ u).putObj x (.deferred none)) w0.heap.size (fun _ => True) v (bestW pre).1) := by
 obtain ⟨v, h1, h2, h3, h4, h5⟩ := h
 have hlt := blk_lt h1
 refine ⟨?_, hw ▸ h4.trans (((((Same.refl (fun k => k < bS) W).setCell ⟨bS, 0, none⟩ (by simp) _).putObj (by omega) _)).below (by omega) (fun k hk => hk)), fun v' hv' => ?_⟩
 ·refine (World.cell?_of_block (World.putObj_heap_other (k := bS) (by omega))).trans ?_
  have := blk_cell (blk_set (u := u) (i := 0) h1) 0
  simpa using this
 ·have := blk_cell h1 0
  simp only [List.getElem?_toArray, List.getElem?_cons_zero] at this
  rw [this] at hv'
  obtain rfl := Option.some.inj hv'
  refine Kd.R_mono (Kd.R_step (Kd.R_far h5 (p := ⟨bS, 0, none⟩) (fun k hk => hk.2.1) u) (fun k hk _ => ?_)) (fun _ _ => trivial)
  exact World.putObj_heap_other (fun e => hk.2.2.2.1 e)
theorem wRd_C (x : WX) (W : World) (h : wRd x W) : Kd.C (Kd.int .i64) W (some ⟨x.1, 0, none⟩) x.2.1.length x.2.1 := by
 refine Kd.C_of_reads (d := (0 : Int)) ⟨rfl, by have := h.2; omega, fun hn => ⟨_, rfl, fun j hj => ?_⟩⟩
 have := blk_cell h.1 j
 rw [show (Addr.add ⟨x.1, 0, none⟩ j) = ⟨x.1, j, none⟩ from by unfold Addr.add; split <;> simp_all]
 rw [this]
 simp [List.getElem?_eq_getElem hj, List.getD_eq_getElem?_getD]
theorem four_newq (w : World) (q : Nat) (a b c d : Obj) : (((((w.alloc a).drewN q).alloc b).alloc c).alloc d).heap[w.heap.size]? = some a ∧ (((((w.alloc a).drewN q).alloc b).alloc c).alloc d).heap[w.heap.size + 1]? = some b ∧
  (((((w.alloc a).drewN q).alloc b).alloc c).alloc d).heap[w.heap.size + 1 + 1]? = some c ∧ (((((w.alloc a).drewN q).alloc b).alloc c).alloc d).heap[w.heap.size + 1 + 1 + 1]? = some d := by
 obtain ⟨n1, n2, n3⟩ := three_new w q a b c
 have n4 := World.alloc_heap_new ((((w.alloc a).drewN q).alloc b).alloc c) d
 simp only [World.size_alloc, World.drewN] at n4
 refine ⟨?_, ?_, ?_, n4⟩
 ·rw [heap_alloc_old _ _ _ (blk_lt n1)]; exact n1
 ·rw [heap_alloc_old _ _ _ (blk_lt n2)]; exact n2
 ·rw [heap_alloc_old _ _ _ (blk_lt n3)]; exact n3
attribute [local go_sem] Oper.semAt_some
set_option maxHeartbeats 4000000 in
set_option maxRecDepth 100000 in
theorem Weigh_in (A : Option Addr) (c : Nat) (ws : List Int) (load : Int) (w : World) (hr : Kd.C (Kd.int .i64) w A ws.length ws) (hc : ws.length ≤ c) (hB : weighedB ws load = true)
  (hws : ∀ j, j < ws.length → 1 ≤ ws.getD j 0 ∧ ws.getD j 0 ≤ 10000) (hn : ws.length ≤ 10) (hload : 0 ≤ load ∧ load ≤ 10000) (r1 : List Int) (r2 : Int)
  (hres : (if (bestO (wOuts ws [] (-load) 0)).2 < 0 then (([] : List Int), (3 : Int)) else ((bestO (wOuts ws [] (-load) 0)).1, 0)) = (r1, r2)) :
  CallsIn Fence.wide 9 Try.prog 24 #[.slice A ws.length c, .int .i64 load] w fun e w' => ∃ v0_ : Value, e = .returned (.tuple #[v0_, .int .i64 r2]) ∧ Kd.R (Kd.int .i64) 3 w' w.heap.size (fun _ => True) v0_ r1 ∧ Below w.heap.size w w' := by
 refine callsIn_of_wp_marks Try.func24 rfl trivial ?_ rfl
 simp only [Try.ntmps24, List.size_toArray, List.length_cons, List.length_nil, Nat.reduceAdd, Nat.reduceSub, Array.replicate_succ, Array.replicate_zero, List.push_toArray, List.append_toArray, List.nil_append, List.cons_append]
 gi_wp2_with (first | (refine ⟨trivial, ?_⟩; gi_at_call 77; refine (callsIn_wide.2 (puzzles_weighed.calls A c ws load true _ (Kd.C_alloc hr _) hc ((weighed_val ws load).trans (by rw [hB])))).mono ?_; rintro e w' ⟨rfl, ⟨q, rfl⟩⟩) | (refine ⟨trivial, ?_⟩; gi_at_call 81; refine (callsIn_wide.2 (weighings_calls A c ws.length load _)).mono ?_; rintro e w' ⟨rfl, rfl⟩))
 rename_i Q0 K1 hK1
 obtain ⟨W, hW⟩ : ∃ W, (((((w.alloc (Obj.cells #[Value.slice none 0 0] 22)).drewN q).alloc (Obj.cells #[Value.int IntKind.i64 (-1)] 3)).alloc (Obj.cells #[Value.slice A ws.length c] 22)).alloc (Obj.cells #[Value.int IntKind.i64 load] 3)) = W := ⟨_, rfl⟩
 have hz : W.heap.size = w.heap.size + 4 := by rw [← hW]; simp
 have hbel : Below w.heap.size w W := by rw [← hW]; exact ((Same.refl (fun _ => True) w).alloc _ |>.drewN q |>.alloc _ |>.alloc _ |>.alloc _).below (Nat.le_refl _) (fun _ _ => trivial)
 have hcS : W.heap[w.heap.size]? = some (.cells #[.slice none 0 0] 22 (0, 0)) := by rw [← hW]; exact (four_newq w q _ _ _ _).1
 have hcL : W.heap[w.heap.size + 1]? = some (.cells #[.int .i64 (-1)] 3 (0, 0)) := by rw [← hW]; exact (four_newq w q _ _ _ _).2.1
 have hc1 : W.cell? ⟨w.heap.size + 1 + 1, 0, none⟩ = some (.slice A ws.length c) := by rw [← hW]; exact blk_cell (four_newq w q _ _ _ _).2.2.1 0
 have hc2 : W.cell? ⟨w.heap.size + 1 + 1 + 1, 0, none⟩ = some (.int .i64 load) := by rw [← hW]; exact blk_cell (four_newq w q _ _ _ _).2.2.2 0
 have hseq := weigh_seq ws A c load (w.heap.size + 1 + 1) (w.heap.size + 1 + 1 + 1) W (fun k => k ≠ w.heap.size ∧ k ≠ w.heap.size + 1) hc1 (Kd.C_below hr hbel) hc2 (by omega) (fun ad e hp => by have := row_lt hr ad e hp; omega) hws hn hload
 rw [hW]
 have hb0 : Below w.heap.size w W := hbel
 clear hW hr hc1 hc2
 refine wpIn_rangeT (a₁ := fun x => { tmps := #[Value.slice A ws.length c, Value.int IntKind.i64 load, undef, undef,
     Value.pointer (some { block := w.heap.size, off := 0 }), Value.int IntKind.i64 0,
     Value.pointer (some { block := w.heap.size + 1, off := 0 }), .slice (some ⟨x.1, 0, none⟩) x.2.1.length x.2.1.length, .int .i64 x.2.2, Value.slice A ws.length c,
     Value.int IntKind.i64 load, Value.bool true, Value.bool false, Value.slice A ws.length c,
     Value.int IntKind.i64 load,
     Value.func (Fn.func 127) #[]
      #[Value.pointer (some { block := w.heap.size + 1 + 1, off := 0 }),
       Value.pointer (some { block := w.heap.size + 1 + 1 + 1, off := 0 })],
     .slice (some ⟨x.1, 0, none⟩) x.2.1.length x.2.1.length, .int .i64 x.2.2, undef, undef, undef, undef, undef, undef, undef, undef, undef, undef, undef, undef, undef], defers := [] }) (by simp [Act.eval]) (fun _ _ => by simp [go_sem]) hseq (fun _ => rfl) ?_ (WgI w.heap.size (w.heap.size + 1) W.heap.size (W.heap.size + 1) w) (fun _ _ _ _ => False) (WgI_law _ _ _ _ _ (by omega) (by omega) (by omega)) (fun _ _ _ _ _ _ h _ _ => h)
     ⟨_, hcS, hcL, fun _ h => h.elim, hbel, Kd.R_nil _ _ _ _ _⟩ ?_ ?_ ?_ ?_
 ·rintro x A' B o h ho hoc hS
  refine ⟨hS.at_ (fun e => ?_) h.1, h.2⟩
  have h := h.1
  rw [e, ho] at h
  cases h
  cases hoc
 ·intro l x W1 K2 h
  clear hseq hK1
  have ez : (#[16, 17] : Array Tmp).zip (wY x) = #[(16, .slice (some ⟨x.1, 0, none⟩) x.2.1.length x.2.1.length), (17, .int .i64 x.2.2)] := by simp [wY]
  rw [ez]
  gi_wp2
  exact h
 ·rintro l pre x D W1 hI hrd hD hle
  have hI0 := hI
  obtain ⟨v, h1, h2, h3, h4, h5⟩ := hI
  have hfS := blk_frozen h1 0
  have hfL := blk_frozen h2 0
  have hcS1 := blk_cell h1 0
  have hcL1 := blk_cell h2 0
  have hltS : w.heap.size < W1.heap.size := blk_lt h1
  have hltL : w.heap.size + 1 < W1.heap.size := blk_lt h2
  simp only [List.getElem?_toArray, List.getElem?_cons_zero] at hcS1 hcL1
  have HI := Aside0.mk hI0
  have HRD := Aside0.mk (wRd_C x W1 hrd)
  have HD := Aside0.mk hD
  clear hI0 hD h1 h2 h3 h4 h5 hseq hcS hcL hbel hK1
  have HL := Aside0.mk (show x.2.1.length < 17592186044416 from by have := hrd.2; omega)
  by_cases q1 : (bestW pre).2 < 0
  ·gi_wp2_with (refine ⟨trivial, ?_⟩; gi_at_call 70; refine (CallsIn.inRound l (callsIn_wide.2 (slices_Clone_int_int.calls _ _ _ x.2.1 _ HRD.out (Nat.le_refl _) (if_pos HL.out)))).mono ?_; rintro e w' ⟨v', rfl, hR, hb⟩; obtain ⟨A', c', rfl⟩ := Kd.R_slice hR; have hfS := (hb.frozen (p := ⟨w.heap.size, 0, none⟩) hltS).trans hfS; have hfL := (hb.frozen (p := ⟨w.heap.size + 1, 0, none⟩) hltL).trans hfL; have hcS1 := (hb.cell (p := ⟨w.heap.size, 0, none⟩) hltS).trans hcS1; have hcL1 := (hb.cell (p := ⟨w.heap.size + 1, 0, none⟩) hltL).trans hcL1; have HR := Aside0.mk hR; have HB := Aside0.mk hb; clear hR hb)
   have hs := HB.out.size
   refine ⟨Same.trans (Same.of_below HB.out (fun k hk _ => hk)) (((Same.refl _ _).setCell ⟨w.heap.size, 0, none⟩ ?_ _).setCell ⟨w.heap.size + 1, 0, none⟩ ?_ _), WgI_step _ _ _ _ w pre x D W1 _ _ HI.out (by omega) (by omega) (by omega) (by omega) (fun k hk => (HD.out k hk).2) HB.out HR.out (by omega)⟩
   ·rintro (h | h | h | ⟨h1, h2, h3⟩) <;> simp only at *
    ·have := HD.out _ h; omega
    ·omega
    ·omega
    ·exact h2 rfl
   ·rintro (h | h | h | ⟨h1, h2, h3⟩) <;> simp only at *
    ·have := HD.out _ h; omega
    ·omega
    ·omega
    ·exact h3 rfl
  ·by_cases q2 : x.2.2 < (bestW pre).2
   ·gi_wp2_with (refine ⟨trivial, ?_⟩; gi_at_call 70; refine (CallsIn.inRound l (callsIn_wide.2 (slices_Clone_int_int.calls _ _ _ x.2.1 _ HRD.out (Nat.le_refl _) (if_pos HL.out)))).mono ?_; rintro e w' ⟨v', rfl, hR, hb⟩; obtain ⟨A', c', rfl⟩ := Kd.R_slice hR; have hfS := (hb.frozen (p := ⟨w.heap.size, 0, none⟩) hltS).trans hfS; have hfL := (hb.frozen (p := ⟨w.heap.size + 1, 0, none⟩) hltL).trans hfL; have hcS1 := (hb.cell (p := ⟨w.heap.size, 0, none⟩) hltS).trans hcS1; have hcL1 := (hb.cell (p := ⟨w.heap.size + 1, 0, none⟩) hltL).trans hcL1; have HR := Aside0.mk hR; have HB := Aside0.mk hb; clear hR hb)
    have hs := HB.out.size
    refine ⟨Same.trans (Same.of_below HB.out (fun k hk _ => hk)) (((Same.refl _ _).setCell ⟨w.heap.size, 0, none⟩ ?_ _).setCell ⟨w.heap.size + 1, 0, none⟩ ?_ _), WgI_step _ _ _ _ w pre x D W1 _ _ HI.out (by omega) (by omega) (by omega) (by omega) (fun k hk => (HD.out k hk).2) HB.out HR.out (by omega)⟩
    ·rintro (h | h | h | ⟨h1, h2, h3⟩) <;> simp only at *
     ·have := HD.out _ h; omega
     ·omega
     ·omega
     ·exact h2 rfl
    ·rintro (h | h | h | ⟨h1, h2, h3⟩) <;> simp only at *
     ·have := HD.out _ h; omega
     ·omega
     ·omega
     ·exact h3 rfl
   ·gi_wp2
    rw [← hz]
    exact ⟨Same.refl _ _, WgI_keep _ _ _ _ w pre x D W1 HI.out (by omega)⟩
 ·rintro D xs W1 hxs hI hK
  refine hK1 _ _ ?_
  have hI0 := hI
  obtain ⟨v, h1, h2, h3, h4, h5⟩ := hI
  obtain ⟨Av, cv, rfl⟩ := Kd.R_slice h5
  have hfS := blk_frozen h1 0
  have hcS1 := blk_cell h1 0
  have hcL1 := blk_cell h2 0
  simp only [List.getElem?_toArray, List.getElem?_cons_zero] at hcS1 hcL1
  have HE := Aside0.mk (fun u => WgI_end _ _ _ _ w xs D W1 u hI0 (show w.heap.size < W.heap.size by omega) rfl)
  have hbest : bestW xs = bestO (wOuts ws [] (-load) 0) := by
   obtain ⟨g, rfl⟩ := hxs
   exact bestW_tag _ _
  rw [← hbest] at hres
  have HS := Aside0.mk hres
  have HK := Aside0.mk hK
  have HZ := Aside0.mk hz
  clear hI0 h1 h2 h3 h4 h5 hseq hcS hcL hbel hK1 hbest hres hK hz hxs hb0
  by_cases q1 : (bestW xs).2 < 0
  ·gi_wp2
   have hK2 : (W1.setCell ⟨w.heap.size, 0, none⟩ (.slice none 0 0)).heap[W.heap.size]? = some (.deferred (some [])) := (Below.heap_setCell W1 ⟨w.heap.size, 0, none⟩ _ _ (by show W.heap.size ≠ w.heap.size; have := HZ.out; omega)).trans HK.out
   refine ⟨by simp, .inl ⟨_, _, rfl, run_takeDeferred hK2, ?_⟩⟩
   obtain ⟨hc5, hb5, hr5⟩ := HE.out (.slice none 0 0)
   have hS := HS.out
   rw [if_pos q1] at hS
   cases hS
   exact ⟨.tuple #[.slice none 0 0, .int .i64 3], by simp [results, Try.f24, go_sem, hc5], _, rfl, Kd.R_nil _ _ _ _ _, hb5⟩
  ·gi_wp2
   have hK2 : (W1.setCell ⟨w.heap.size, 0, none⟩ (.slice Av (bestW xs).1.length cv)).heap[W.heap.size]? = some (.deferred (some [])) := (Below.heap_setCell W1 ⟨w.heap.size, 0, none⟩ _ _ (by show W.heap.size ≠ w.heap.size; have := HZ.out; omega)).trans HK.out
   refine ⟨by simp, .inl ⟨_, _, rfl, run_takeDeferred hK2, ?_⟩⟩
   obtain ⟨hc5, hb5, hr5⟩ := HE.out (.slice Av (bestW xs).1.length cv)
   have hS := HS.out
   rw [if_neg (by omega)] at hS
   cases hS
   exact ⟨.tuple #[.slice Av (bestW xs).1.length cv, .int .i64 0], by simp [results, Try.f24, go_sem, hc5], _, rfl, hr5 _ hcS1, hb5⟩
 ·rintro D c' pre W1 _ h
  exact h.elim

theorem weighedB_facts (ws : List Int) (load : Int) (h : weighedB ws load = true) : ws.length ≤ 10 ∧ (0 ≤ load ∧ load ≤ 10000) ∧ ∀ j, j < ws.length → 1 ≤ ws.getD j 0 ∧ ws.getD j 0 ≤ 10000 := by
 unfold weighedB inR at h
 simp only [Bool.and_eq_true, decide_eq_true_eq, Bool.not_eq_true', List.any_eq_false, Bool.not_eq_eq_eq_not, Bool.not_true, Bool.not_eq_false'] at h
 obtain ⟨⟨h1, h2⟩, h3⟩ := h
 refine ⟨h1, h2, fun j hj => ?_⟩
 have := h3 (ws.getD j 0) (by rw [List.getD_eq_getElem?_getD, List.getElem?_eq_getElem hj]; exact List.getElem_mem hj)
 simpa using this
/-- What Weighings returns. -/
def puzzles_Weighings.f (l0 : List Int) (a1 : Int) : Option (Int × Int) := some (if weighedB l0 a1 then (((wOuts l0 [] (-a1) 0).length : Int), 0) else (0, 1))
/-- What Weigh returns. -/
def puzzles_Weigh.f (l0 : List Int) (a1 : Int) : Option (List Int × Int) :=
 some (if weighedB l0 a1 then (if (bestO (wOuts l0 [] (-a1) 0)).2 < 0 then (([] : List Int), (3 : Int)) else ((bestO (wOuts l0 [] (-a1) 0)).1, 0)) else ([], 1))
set_option maxRecDepth 100000 in
set_option maxHeartbeats 2000000 in
theorem puzzles_Weighings.calls (A0 : Option Addr) (c0 : Nat) (l0 : List Int) (a1 : Int) (r1 : Int) (r2 : Int) (w : World) (hr0 : Kd.C (Kd.int .i64) w A0 l0.length l0) (hc0 : l0.length ≤ c0) (h : puzzles_Weighings.f l0 a1 = some (r1, r2)) :
  Calls Try.prog 27 #[.slice A0 l0.length c0, .int .i64 a1] w fun e w' => e = .returned (.tuple #[.int .i64 r1, .int .i64 r2]) ∧ Below w.heap.size w w' := by
 unfold puzzles_Weighings.f at h
 by_cases hB : weighedB l0 a1 = true
 ·rw [if_pos hB] at h
  cases h
  obtain ⟨h1, h2, h3⟩ := weighedB_facts l0 a1 hB
  exact callsIn_wide.1 (Weighings_in A0 c0 l0 a1 w hr0 hc0 hB h3 h1 h2)
 ·rw [if_neg hB] at h
  cases h
  have H := Aside0.mk (fun m : Nat => puzzles_weighed.calls A0 c0 l0 a1 false ((w.alloc (.cells #[.int .i64 0] 3)).drewN m) (Kd.C_drewN (Kd.C_alloc hr0 _) m) hc0 ((weighed_val l0 a1).trans (by rw [Bool.not_eq_true] at hB; rw [hB])))
  clear hr0 hc0 hB
  go_enter Try.func27, Try.ntmps27
  go_wp2_with (go_at_call 77; refine (H.out 0).mono ?_; rintro e w' ⟨rfl, ⟨q, rfl⟩⟩)
  have hn : ((w.alloc (.cells #[.int .i64 0] 3)).drewN q).heap[w.heap.size]? = some (.cells #[.int .i64 0] 3 (0, 0)) := World.alloc_heap_new w _
  have hc := blk_cell (blk_set (u := Value.int .i64 0) (i := 0) hn) 0
  simp only [List.size_toArray, List.length_cons, List.length_nil, Array.setIfInBounds, Nat.zero_add, Nat.lt_add_one, dif_pos, List.getElem?_toArray] at hc
  refine ⟨rfl, .tuple #[.int .i64 0, .int .i64 1], by simp [results, Try.f27, go_sem, hc], rfl, ?_⟩
  exact ((Same.refl (fun k => k < w.heap.size) w).alloc _ |>.drewN q |>.setCell _ (by simp) _).below (Nat.le_refl _) (fun k hk => hk)
set_option maxRecDepth 100000 in
set_option maxHeartbeats 2000000 in
theorem puzzles_Weigh.calls (A0 : Option Addr) (c0 : Nat) (l0 : List Int) (a1 : Int) (r1 : List Int) (r2 : Int) (w : World) (hr0 : Kd.C (Kd.int .i64) w A0 l0.length l0) (hc0 : l0.length ≤ c0) (h : puzzles_Weigh.f l0 a1 = some (r1, r2)) :
  Calls Try.prog 24 #[.slice A0 l0.length c0, .int .i64 a1] w fun e w' => ∃ v0_ : Value, e = .returned (.tuple #[v0_, .int .i64 r2]) ∧ Kd.R (Kd.int .i64) 3 w' w.heap.size (fun _ => True) v0_ r1 ∧ Below w.heap.size w w' := by
 unfold puzzles_Weigh.f at h
 by_cases hB : weighedB l0 a1 = true
 ·rw [if_pos hB] at h
  obtain ⟨h1, h2, h3⟩ := weighedB_facts l0 a1 hB
  exact callsIn_wide.1 (Weigh_in A0 c0 l0 a1 w hr0 hc0 hB h3 h1 h2 r1 r2 (Option.some.inj h))
 ·rw [if_neg hB] at h
  cases h
  have H := Aside0.mk (fun m : Nat => puzzles_weighed.calls A0 c0 l0 a1 false ((w.alloc (.cells #[.slice none 0 0] 22)).drewN m) (Kd.C_drewN (Kd.C_alloc hr0 _) m) hc0 ((weighed_val l0 a1).trans (by rw [Bool.not_eq_true] at hB; rw [hB])))
  clear hr0 hc0 hB
  go_enter Try.func24, Try.ntmps24
  go_wp2_with (go_at_call 77; refine (H.out 0).mono ?_; rintro e w' ⟨rfl, ⟨q, rfl⟩⟩)
  have hn : ((w.alloc (.cells #[.slice none 0 0] 22)).drewN q).heap[w.heap.size]? = some (.cells #[.slice none 0 0] 22 (0, 0)) := World.alloc_heap_new w _
  have hc := blk_cell (blk_set (u := Value.slice none 0 0) (i := 0) hn) 0
  simp only [List.size_toArray, List.length_cons, List.length_nil, Array.setIfInBounds, Nat.zero_add, Nat.lt_add_one, dif_pos, List.getElem?_toArray] at hc
  refine ⟨rfl, .tuple #[.slice none 0 0, .int .i64 1], by simp [results, Try.f24, go_sem, hc], _, rfl, Kd.R_nil _ _ _ _ _, ?_⟩
  exact ((Same.refl (fun k => k < w.heap.size) w).alloc _ |>.drewN q |>.setCell _ (by simp) _).below (Nat.le_refl _) (fun k hk => hk)

end Go.Proofs.Ytdhiijleafcfcaa.T
