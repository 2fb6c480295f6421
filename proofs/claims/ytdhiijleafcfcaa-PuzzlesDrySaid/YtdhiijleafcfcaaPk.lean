/- Plumbings and Plumb: what they return. -/
import Derived.Test.YtdhiijleafcfcaaT0
import Derived.Test.YtdhiijleafcfcaaPj
import Derived.Test.YtdhiijleafcfcaaNp
namespace Go.Proofs.Ytdhiijleafcfcaa.T
open Go.RowKit Go.Proofs.YtdhiijleafcfcaaW.PrintWords Go.Proofs.YtdhiijleafcfcaaW.PrintLast Go.Proofs.YtdhiijleafcfcaaW.PrintMore
attribute [local go_sem] max2_int min2_int max_two min_two max_three min_three max_four min_four
set_option linter.unusedVariables false
set_option linter.unusedSimpArgs false

theorem pOuts_len (F : List Int → Bool) : ∀ (m : Nat) (p : List Int) (s : Int), (pOuts F m p s).length ≤ 4 ^ m
 | 0, p, s => by unfold pOuts; split <;> simp
 | m + 1, p, s => by
  have h0 := pOuts_len F m (p ++ [0]) (s + 0)
  have h1 := pOuts_len F m (p ++ [1]) (s + 1)
  have h2 := pOuts_len F m (p ++ [2]) (s + 2)
  have h3 := pOuts_len F m (p ++ [3]) (s + 3)
  unfold pOuts
  simp only [List.length_append, Nat.pow_succ]
  omega
theorem PS_len (F : List Int → Bool) (n : Nat) (xs : List WX) (hn : n ≤ 9) (h : PS F n xs) : wrap64 (xs.length : Int) = ((pOuts F n [] 0).length : Int) := by
 obtain ⟨g, rfl⟩ := h
 have h1 := pOuts_len F n [] 0
 have h2 : 4 ^ n ≤ 4 ^ 9 := Nat.pow_le_pow_right (by omega) hn
 have h3 : (wTag g (pOuts F n [] 0)).length = (pOuts F n [] 0).length := by simp [wTag]
 rw [h3]
 unfold wrap64
 omega
attribute [local go_sem] Oper.semAt_some
set_option maxHeartbeats 4000000 in
set_option maxRecDepth 100000 in
theorem Plumbings_in (A : Option Addr) (c : Nat) (a0 a1 : Int) (pc : List Int) (a3 a4 : Int) (F : List Int → Bool) (w : World) (hr : Kd.C (Kd.int .i64) w A pc.length pc) (hc : pc.length ≤ c) (hB : plumbB a0 a1 pc a3 a4 = true)
  (hF : Solv F a0 a1 pc a3 a4) (hn : pc.length ≤ 9) (h4 : 0 ≤ a4 ∧ a4 < pc.length) :
  CallsIn Fence.wide 9 Try.prog 47 #[.agg #[.int .i64 a0, .int .i64 a1, .slice A pc.length c, .int .i64 a3, .int .i64 a4]] w fun e w' => e = .returned (.tuple #[.int .i64 ((pOuts F pc.length [] 0).length : Int), .int .i64 0]) ∧ Below w.heap.size w w' := by
 have hu50 := Try.underlying50
 have hu115 := Try.underlying115
 have HM := Aside0.mk (fun V => newPlumbing_calls A c pc a0 a1 a3 a4 V)
 rw [hB] at HM
 have HC := Aside0.mk hc
 have HR := Aside0.mk hr
 clear hr hc
 refine callsIn_of_wp_marks Try.func47 rfl trivial ?_ rfl
 simp only [Try.ntmps47, List.size_toArray, List.length_cons, List.length_nil, Nat.reduceAdd, Nat.reduceSub, Array.replicate_succ, Array.replicate_zero, List.push_toArray, List.append_toArray, List.nil_append, List.cons_append]
 gi_wp2_with (refine ⟨trivial, ?_⟩; gi_at_call 97; refine (callsIn_wide.2 (HM.out _ (Kd.C_alloc (Kd.C_alloc HR.out _) _) HC.out)).mono ?_; rintro e w1 ⟨rfl, hb⟩; have HB := Aside0.mk hb; clear hb)
 rename_i Q0 K1 hK1
 obtain ⟨w0, hw0⟩ : ∃ w0, w.alloc (Obj.cells #[Value.int IntKind.i64 a0, Value.int IntKind.i64 a1, Value.slice A pc.length c, Value.int IntKind.i64 a3, Value.int IntKind.i64 a4] 50) = w0 := ⟨_, rfl⟩
 have hz0 : w0.heap.size = w.heap.size + 1 := by rw [← hw0]; simp
 have hbw0 : Below w.heap.size w w0 := by rw [← hw0]; exact below_alloc (Below.refl _ _) _
 rw [hw0] at HB
 obtain ⟨W, hW⟩ : ∃ W, w1.alloc (Obj.cells #[Value.int IntKind.i64 a0, Value.int IntKind.i64 a1, Value.int IntKind.i64 a0, Value.int IntKind.i64 a1, Value.slice A pc.length c, Value.int IntKind.i64 a3, Value.int IntKind.i64 a4] 115) = W := ⟨_, rfl⟩
 have hs1 := HB.out.size
 simp only [World.size_alloc] at hs1
 have hz : W.heap.size = w1.heap.size + 1 := by rw [← hW]; simp
 have hbel : Below w0.heap.size w0 W := by rw [← hW]; exact below_alloc (Below.trans (below_alloc (Below.refl _ _) _) (HB.out.mono (by simp))) _
 have hc0 : W.heap[w.heap.size + 1]? = some (.cells #[.int .i64 0] 3 (0, 0)) := by
  rw [← hW, heap_alloc_old _ _ _ (by omega), ← hz0]
  exact (HB.out.block _ (by simp)).trans (World.alloc_heap_new w0 _)
 have hrW := Kd.C_below (Kd.C_below HR.out hbw0) hbel
 have hseq := plumb_seq a0 a1 pc a3 a4 A c F W (fun k => k ≠ w.heap.size + 1) (Kd.C_below (Kd.C_below HR.out (hbw0)) (hbel)) (fun ad e hp => by have := row_lt HR.out ad e hp; omega) hF HC.out (by omega) h4
 rw [hW]
 clear HM hrW
 refine wpIn_rangeT (a₁ := fun x => { tmps := #[Value.agg #[Value.int IntKind.i64 a0, Value.int IntKind.i64 a1, Value.slice A pc.length c, Value.int IntKind.i64 a3, Value.int IntKind.i64 a4],
     Value.pointer (some { block := w.heap.size, off := 0 }),
     Value.pointer (some { block := w.heap.size + 1, off := 0 }), Value.int IntKind.i64 0,
     Value.pointer (some { block := w1.heap.size, off := 0 }), Value.bool true,
     Value.tuple #[Value.agg #[Value.int IntKind.i64 a0, Value.int IntKind.i64 a1, Value.int IntKind.i64 a0, Value.int IntKind.i64 a1, Value.slice A pc.length c, Value.int IntKind.i64 a3, Value.int IntKind.i64 a4], Value.bool true], Value.agg #[Value.int IntKind.i64 a0, Value.int IntKind.i64 a1, Value.slice A pc.length c, Value.int IntKind.i64 a3, Value.int IntKind.i64 a4], Value.tuple #[Value.agg #[Value.int IntKind.i64 a0, Value.int IntKind.i64 a1, Value.int IntKind.i64 a0, Value.int IntKind.i64 a1, Value.slice A pc.length c, Value.int IntKind.i64 a3, Value.int IntKind.i64 a4], Value.bool true], Value.agg #[Value.int IntKind.i64 a0, Value.int IntKind.i64 a1, Value.int IntKind.i64 a0, Value.int IntKind.i64 a1, Value.slice A pc.length c, Value.int IntKind.i64 a3, Value.int IntKind.i64 a4],
     Value.bool true, Value.bool true, Value.bool false, Value.agg #[Value.int IntKind.i64 a0, Value.int IntKind.i64 a1, Value.int IntKind.i64 a0, Value.int IntKind.i64 a1, Value.slice A pc.length c, Value.int IntKind.i64 a3, Value.int IntKind.i64 a4], Value.func (Fn.func 102) #[Value.agg #[Value.int IntKind.i64 a0, Value.int IntKind.i64 a1, Value.int IntKind.i64 a0, Value.int IntKind.i64 a1, Value.slice A pc.length c, Value.int IntKind.i64 a3, Value.int IntKind.i64 a4]] #[],
     .slice (some ⟨x.1, 0, none⟩) x.2.1.length x.2.1.length, .int .i64 x.2.2, undef, undef, undef], defers := [] }) (by simp [Act.eval]) (fun _ _ => by simp [go_sem]) hseq (fun _ => rfl) ?_ (WnI (w.heap.size + 1) w0) (fun _ _ _ _ => False) (WnI_law _ _ _ _ (by omega) (by omega)) (fun _ _ _ _ _ _ h _ _ => h) ⟨by simpa [wrap64] using hc0, fun _ h => h.elim, by rw [← hz0]; exact hbel⟩ ?_ ?_ ?_ ?_
 ·rintro x A' B o h ho hoc hS
  refine ⟨hS.at_ (fun e => ?_) h.1, h.2⟩
  have h := h.1
  rw [e, ho] at h
  cases h
  cases hoc
 ·intro l x W1 K2 h
  exact wpIn_skip (by simpa [Exit.then, wY] using h)
 ·rintro l pre x D W1 ⟨h1, h2, h3⟩ hrd hD _
  have HI := Aside0.mk (WnI_step _ _ _ x _ _ ⟨h1, h2, h3⟩)
  have HD := Aside0.mk h2
  have hf := blk_frozen h1 0
  have hc := blk_cell h1 0
  have hb : w.heap.size + 1 < W1.heap.size := blk_lt h1
  simp only [List.getElem?_toArray, List.getElem?_cons_zero] at hc
  clear hrd hD h1 h2 h3 hseq hc0 hbel hW hK1 HR HB hbw0
  gi_wp2
  refine ⟨(Same.refl _ W1).setCell ⟨w.heap.size + 1, 0, none⟩ ?_ _, HI.out⟩
  rintro (h | h | h | ⟨h1, h2⟩) <;> simp only at *
  ·have := HD.out _ h; omega
  ·omega
  ·omega
  ·exact h2 rfl
 ·rintro D xs W1 hxs ⟨h1, h2, h3⟩ hK
  refine hK1 _ _ ?_
  have HX := Aside0.mk hxs
  have HK := Aside0.mk hK
  have hf := blk_frozen h1 0
  have hc := blk_cell h1 0
  simp only [List.getElem?_toArray, List.getElem?_cons_zero] at hc
  have hlt := blk_lt h1
  have HE := Aside0.mk (WnI_end _ _ _ _ _ W.heap.size ⟨h1, h2, h3⟩ (by omega))
  have HBW := Aside0.mk hbw0
  have HZ := Aside0.mk (show w.heap.size + 1 < W.heap.size by omega)
  clear h1 h2 h3 hseq hc0 hbel hW hK1 hxs hK HR HB hbw0 hz hz0 hs1
  gi_wp2
  have hK2 : (W1.setCell ⟨w.heap.size + 1, 0, none⟩ (.int .i64 (wrap64 (xs.length : Int)))).heap[W.heap.size]? = some (.deferred (some [])) := (Below.heap_setCell W1 ⟨w.heap.size + 1, 0, none⟩ _ _ (by show W.heap.size ≠ w.heap.size + 1; have := HZ.out; omega)).trans HK.out
  refine ⟨by simp, .inl ⟨_, _, rfl, run_takeDeferred hK2, ?_⟩⟩
  obtain ⟨hc5, hb5⟩ := HE.out
  have hX := PS_len F pc.length xs hn HX.out
  refine ⟨.tuple #[.int .i64 ((pOuts F pc.length [] 0).length : Int), .int .i64 0], ?_, rfl, Below.trans HBW.out (below_le hb5 (by omega))⟩
  rw [← hX]
  simp [results, Try.f47, go_sem, hc5]
 ·rintro D c' pre W1 _ h
  exact h.elim
set_option maxHeartbeats 4000000 in
set_option maxRecDepth 100000 in
theorem Plumb_in (A : Option Addr) (c : Nat) (a0 a1 : Int) (pc : List Int) (a3 a4 : Int) (F : List Int → Bool) (w : World) (hr : Kd.C (Kd.int .i64) w A pc.length pc) (hc : pc.length ≤ c) (hB : plumbB a0 a1 pc a3 a4 = true)
  (hF : Solv F a0 a1 pc a3 a4) (hn : pc.length ≤ 9) (h4 : 0 ≤ a4 ∧ a4 < pc.length) (r1 : List Int) (r2 : Int)
  (hres : (if (bestO (pOuts F pc.length [] 0)).2 < 0 then (([] : List Int), (3 : Int)) else ((bestO (pOuts F pc.length [] 0)).1, 0)) = (r1, r2)) :
  CallsIn Fence.wide 9 Try.prog 45 #[.agg #[.int .i64 a0, .int .i64 a1, .slice A pc.length c, .int .i64 a3, .int .i64 a4]] w fun e w' => ∃ v0_ : Value, e = .returned (.tuple #[v0_, .int .i64 r2]) ∧ Kd.R (Kd.int .i64) 3 w' w.heap.size (fun _ => True) v0_ r1 ∧ Below w.heap.size w w' := by
 have hu50 := Try.underlying50
 have hu115 := Try.underlying115
 have HM := Aside0.mk (fun V => newPlumbing_calls A c pc a0 a1 a3 a4 V)
 rw [hB] at HM
 have HC := Aside0.mk hc
 have HR := Aside0.mk hr
 clear hr hc
 refine callsIn_of_wp_marks Try.func45 rfl trivial ?_ rfl
 simp only [Try.ntmps45, List.size_toArray, List.length_cons, List.length_nil, Nat.reduceAdd, Nat.reduceSub, Array.replicate_succ, Array.replicate_zero, List.push_toArray, List.append_toArray, List.nil_append, List.cons_append]
 gi_wp2_with (refine ⟨trivial, ?_⟩; gi_at_call 97; refine (callsIn_wide.2 (HM.out _ (Kd.C_alloc (Kd.C_alloc HR.out _) _) HC.out)).mono ?_; rintro e w1 ⟨rfl, hb⟩; have HB := Aside0.mk hb; clear hb)
 rename_i Q0 K1 hK1
 obtain ⟨w0, hw0⟩ : ∃ w0, w.alloc (Obj.cells #[Value.int IntKind.i64 a0, Value.int IntKind.i64 a1, Value.slice A pc.length c, Value.int IntKind.i64 a3, Value.int IntKind.i64 a4] 50) = w0 := ⟨_, rfl⟩
 have hz0 : w0.heap.size = w.heap.size + 1 := by rw [← hw0]; simp
 have hbw0 : Below w.heap.size w w0 := by rw [← hw0]; exact below_alloc (Below.refl _ _) _
 rw [hw0] at HB
 obtain ⟨W, hW⟩ : ∃ W, (w1.alloc (Obj.cells #[Value.int IntKind.i64 a0, Value.int IntKind.i64 a1, Value.int IntKind.i64 a0, Value.int IntKind.i64 a1, Value.slice A pc.length c, Value.int IntKind.i64 a3, Value.int IntKind.i64 a4] 115)).alloc (Obj.cells #[Value.int IntKind.i64 (-1)] 3) = W := ⟨_, rfl⟩
 have hs1 := HB.out.size
 simp only [World.size_alloc] at hs1
 have hz : W.heap.size = w1.heap.size + 2 := by rw [← hW]; simp
 have hbel : Below w0.heap.size w0 W := by rw [← hW]; exact below_alloc (below_alloc (Below.trans (below_alloc (Below.refl _ _) _) (HB.out.mono (by simp))) _) _
 have hcS : W.heap[w.heap.size + 1]? = some (.cells #[.slice none 0 0] 22 (0, 0)) := by
  rw [← hW, heap_alloc_old _ _ _ (by simp; omega), heap_alloc_old _ _ _ (by omega), ← hz0]
  exact (HB.out.block _ (by simp)).trans (World.alloc_heap_new w0 _)
 have hcL : W.heap[w1.heap.size + 1]? = some (.cells #[.int .i64 (-1)] 3 (0, 0)) := by
  have := World.alloc_heap_new (w1.alloc (Obj.cells #[Value.int IntKind.i64 a0, Value.int IntKind.i64 a1, Value.int IntKind.i64 a0, Value.int IntKind.i64 a1, Value.slice A pc.length c, Value.int IntKind.i64 a3, Value.int IntKind.i64 a4] 115)) (Obj.cells #[Value.int IntKind.i64 (-1)] 3)
  rw [World.size_alloc, hW] at this
  exact this
 have hseq := plumb_seq a0 a1 pc a3 a4 A c F W (fun k => k ≠ w.heap.size + 1 ∧ k ≠ w1.heap.size + 1) (Kd.C_below (Kd.C_below HR.out hbw0) hbel) (fun ad e hp => by have := row_lt HR.out ad e hp; omega) hF HC.out (by omega) h4
 rw [hW]
 clear HM hW
 refine wpIn_rangeT (a₁ := fun x => { tmps := #[Value.agg #[Value.int IntKind.i64 a0, Value.int IntKind.i64 a1, Value.slice A pc.length c, Value.int IntKind.i64 a3, Value.int IntKind.i64 a4],
     Value.pointer (some { block := w.heap.size, off := 0 }),
     Value.pointer (some { block := w.heap.size + 1, off := 0 }), Value.int IntKind.i64 0,
     Value.pointer (some { block := w1.heap.size, off := 0 }), Value.bool true,
     Value.pointer (some { block := w1.heap.size + 1, off := 0 }), .slice (some ⟨x.1, 0, none⟩) x.2.1.length x.2.1.length, .int .i64 x.2.2,
     Value.tuple #[Value.agg #[Value.int IntKind.i64 a0, Value.int IntKind.i64 a1, Value.int IntKind.i64 a0, Value.int IntKind.i64 a1, Value.slice A pc.length c, Value.int IntKind.i64 a3, Value.int IntKind.i64 a4], Value.bool true], Value.agg #[Value.int IntKind.i64 a0, Value.int IntKind.i64 a1, Value.slice A pc.length c, Value.int IntKind.i64 a3, Value.int IntKind.i64 a4], Value.tuple #[Value.agg #[Value.int IntKind.i64 a0, Value.int IntKind.i64 a1, Value.int IntKind.i64 a0, Value.int IntKind.i64 a1, Value.slice A pc.length c, Value.int IntKind.i64 a3, Value.int IntKind.i64 a4], Value.bool true], Value.agg #[Value.int IntKind.i64 a0, Value.int IntKind.i64 a1, Value.int IntKind.i64 a0, Value.int IntKind.i64 a1, Value.slice A pc.length c, Value.int IntKind.i64 a3, Value.int IntKind.i64 a4],
     Value.bool true, Value.bool true, Value.bool false, Value.agg #[Value.int IntKind.i64 a0, Value.int IntKind.i64 a1, Value.int IntKind.i64 a0, Value.int IntKind.i64 a1, Value.slice A pc.length c, Value.int IntKind.i64 a3, Value.int IntKind.i64 a4], Value.func (Fn.func 102) #[Value.agg #[Value.int IntKind.i64 a0, Value.int IntKind.i64 a1, Value.int IntKind.i64 a0, Value.int IntKind.i64 a1, Value.slice A pc.length c, Value.int IntKind.i64 a3, Value.int IntKind.i64 a4]] #[],
     .slice (some ⟨x.1, 0, none⟩) x.2.1.length x.2.1.length, .int .i64 x.2.2, undef, undef, undef, undef, undef, undef, undef, undef, undef, undef, undef, undef, undef], defers := [] }) (by simp [Act.eval]) (fun _ _ => by simp [go_sem]) hseq (fun _ => rfl) ?_ (WgI (w.heap.size + 1) (w1.heap.size + 1) W.heap.size (W.heap.size + 1) w0) (fun _ _ _ _ => False) (WgI_law _ _ _ _ _ (by omega) (by omega) (by omega)) (fun _ _ _ _ _ _ h _ _ => h)
     ⟨_, hcS, hcL, fun _ h => h.elim, by rw [← hz0]; exact hbel, Kd.R_nil _ _ _ _ _⟩ ?_ ?_ ?_ ?_
 ·rintro x A' B o h ho hoc hS
  refine ⟨hS.at_ (fun e => ?_) h.1, h.2⟩
  have h := h.1
  rw [e, ho] at h
  cases h
  cases hoc
 ·intro l x W1 K2 h
  clear hseq hK1
  have ez : (#[18, 19] : Array Tmp).zip (wY x) = #[(18, .slice (some ⟨x.1, 0, none⟩) x.2.1.length x.2.1.length), (19, .int .i64 x.2.2)] := by simp [wY]
  rw [ez]
  gi_wp2
  exact h
 ·rintro l pre x D W1 hI hrd hD hle
  have hI0 := hI
  obtain ⟨v, h1, h2, h3, h4', h5⟩ := hI
  have hfS := blk_frozen h1 0
  have hfL := blk_frozen h2 0
  have hcS1 := blk_cell h1 0
  have hcL1 := blk_cell h2 0
  have hltS : w.heap.size + 1 < W1.heap.size := blk_lt h1
  have hltL : w1.heap.size + 1 < W1.heap.size := blk_lt h2
  simp only [List.getElem?_toArray, List.getElem?_cons_zero] at hcS1 hcL1
  have HI := Aside0.mk hI0
  have HRD := Aside0.mk (wRd_C x W1 hrd)
  have HD := Aside0.mk hD
  have HL := Aside0.mk (show x.2.1.length < 17592186044416 from by have := hrd.2; omega)
  have HQ := Aside0.mk (show w0.heap.size = w.heap.size + 1 ∧ w0.heap.size + 1 ≤ w1.heap.size ∧ W.heap.size = w1.heap.size + 2 ∧ W.heap.size + 1 < W1.heap.size from ⟨hz0, hs1, hz, hle⟩)
  have hne1 : w.heap.size ≠ w1.heap.size := by omega
  have hne2 : w1.heap.size ≠ w.heap.size := by omega
  clear hI0 hD h1 h2 h3 h4' h5 hseq hcS hcL hbel hK1 hrd hz hz0 hs1 hle hbw0 HB HR
  by_cases q1 : (bestW pre).2 < 0
  ·gi_wp2_with (refine ⟨trivial, ?_⟩; gi_at_call 70; refine (CallsIn.inRound l (callsIn_wide.2 (slices_Clone_int_int.calls _ _ _ x.2.1 _ HRD.out (Nat.le_refl _) (if_pos HL.out)))).mono ?_; rintro e w' ⟨v', rfl, hR, hb⟩; obtain ⟨A', c', rfl⟩ := Kd.R_slice hR; have hfS := (hb.frozen (p := ⟨w.heap.size + 1, 0, none⟩) hltS).trans hfS; have hfL := (hb.frozen (p := ⟨w1.heap.size + 1, 0, none⟩) hltL).trans hfL; have hcS1 := (hb.cell (p := ⟨w.heap.size + 1, 0, none⟩) hltS).trans hcS1; have hcL1 := (hb.cell (p := ⟨w1.heap.size + 1, 0, none⟩) hltL).trans hcL1; have HR := Aside0.mk hR; have HB := Aside0.mk hb; clear hR hb)
   have hs := HB.out.size
   have hq := HQ.out
   refine ⟨Same.trans (Same.of_below HB.out (fun k hk _ => hk)) (((Same.refl _ _).setCell ⟨w.heap.size + 1, 0, none⟩ ?_ _).setCell ⟨w1.heap.size + 1, 0, none⟩ ?_ _), WgI_step _ _ _ _ w0 pre x D W1 _ _ HI.out (by omega) (by omega) (by omega) (by omega) (fun k hk => (HD.out k hk).2) HB.out HR.out (by omega)⟩
   ·rintro (h | h | h | ⟨h1, h2, h3⟩) <;> simp only at *
    ·have := HD.out _ h; omega
    ·omega
    ·omega
    ·exact h2 rfl
   ·rintro (h | h | h | ⟨h1, h2, h3⟩) <;> simp only at *
    ·have := HD.out _ h; omega
    ·omega
    ·omega
    ·exact h3 rfl
  ·by_cases q2 : x.2.2 < (bestW pre).2
   ·gi_wp2_with (refine ⟨trivial, ?_⟩; gi_at_call 70; refine (CallsIn.inRound l (callsIn_wide.2 (slices_Clone_int_int.calls _ _ _ x.2.1 _ HRD.out (Nat.le_refl _) (if_pos HL.out)))).mono ?_; rintro e w' ⟨v', rfl, hR, hb⟩; obtain ⟨A', c', rfl⟩ := Kd.R_slice hR; have hfS := (hb.frozen (p := ⟨w.heap.size + 1, 0, none⟩) hltS).trans hfS; have hfL := (hb.frozen (p := ⟨w1.heap.size + 1, 0, none⟩) hltL).trans hfL; have hcS1 := (hb.cell (p := ⟨w.heap.size + 1, 0, none⟩) hltS).trans hcS1; have hcL1 := (hb.cell (p := ⟨w1.heap.size + 1, 0, none⟩) hltL).trans hcL1; have HR := Aside0.mk hR; have HB := Aside0.mk hb; clear hR hb)
    have hs := HB.out.size
    have hq := HQ.out
    refine ⟨Same.trans (Same.of_below HB.out (fun k hk _ => hk)) (((Same.refl _ _).setCell ⟨w.heap.size + 1, 0, none⟩ ?_ _).setCell ⟨w1.heap.size + 1, 0, none⟩ ?_ _), WgI_step _ _ _ _ w0 pre x D W1 _ _ HI.out (by omega) (by omega) (by omega) (by omega) (fun k hk => (HD.out k hk).2) HB.out HR.out (by omega)⟩
    ·rintro (h | h | h | ⟨h1, h2, h3⟩) <;> simp only at *
     ·have := HD.out _ h; omega
     ·omega
     ·omega
     ·exact h2 rfl
    ·rintro (h | h | h | ⟨h1, h2, h3⟩) <;> simp only at *
     ·have := HD.out _ h; omega
     ·omega
     ·omega
     ·exact h3 rfl
   ·gi_wp2
    exact ⟨Same.refl _ _, WgI_keep _ _ _ _ w0 pre x D W1 HI.out (by omega)⟩
 ·rintro D xs W1 hxs hI hK
  refine hK1 _ _ ?_
  have hI0 := hI
  obtain ⟨v, h1, h2, h3, h4', h5⟩ := hI
  obtain ⟨Av, cv, rfl⟩ := Kd.R_slice h5
  have hfS := blk_frozen h1 0
  have hcS1 := blk_cell h1 0
  have hcL1 := blk_cell h2 0
  simp only [List.getElem?_toArray, List.getElem?_cons_zero] at hcS1 hcL1
  have HE := Aside0.mk (fun u => WgI_end _ _ _ _ w0 xs D W1 u hI0 (show w.heap.size + 1 < W.heap.size by omega) hz0)
  have hbest : bestW xs = bestO (pOuts F pc.length [] 0) := by
   obtain ⟨g, rfl⟩ := hxs
   exact bestW_tag _ _
  rw [← hbest] at hres
  have HS := Aside0.mk hres
  have HK := Aside0.mk hK
  have HBW := Aside0.mk hbw0
  have HQ := Aside0.mk (show w0.heap.size = w.heap.size + 1 ∧ w0.heap.size + 1 ≤ w1.heap.size ∧ W.heap.size = w1.heap.size + 2 from ⟨hz0, hs1, hz⟩)
  clear hI0 h1 h2 h3 h4' h5 hseq hcS hcL hbel hK1 hbest hres hK hz hxs hbw0 hz0 hs1 HB HR
  by_cases q1 : (bestW xs).2 < 0
  ·gi_wp2
   have hK2 : (W1.setCell ⟨w.heap.size + 1, 0, none⟩ (.slice none 0 0)).heap[W.heap.size]? = some (.deferred (some [])) := (Below.heap_setCell W1 ⟨w.heap.size + 1, 0, none⟩ _ _ (by show W.heap.size ≠ w.heap.size + 1; have := HQ.out; omega)).trans HK.out
   refine ⟨by simp, .inl ⟨_, _, rfl, run_takeDeferred hK2, ?_⟩⟩
   obtain ⟨hc5, hb5, hr5⟩ := HE.out (.slice none 0 0)
   have hS := HS.out
   rw [if_pos q1] at hS
   cases hS
   exact ⟨.tuple #[.slice none 0 0, .int .i64 3], by simp [results, Try.f45, go_sem, hc5], _, rfl, Kd.R_nil _ _ _ _ _, Below.trans HBW.out (below_le hb5 (by have := HQ.out; omega))⟩
  ·gi_wp2
   have hK2 : (W1.setCell ⟨w.heap.size + 1, 0, none⟩ (.slice Av (bestW xs).1.length cv)).heap[W.heap.size]? = some (.deferred (some [])) := (Below.heap_setCell W1 ⟨w.heap.size + 1, 0, none⟩ _ _ (by show W.heap.size ≠ w.heap.size + 1; have := HQ.out; omega)).trans HK.out
   refine ⟨by simp, .inl ⟨_, _, rfl, run_takeDeferred hK2, ?_⟩⟩
   obtain ⟨hc5, hb5, hr5⟩ := HE.out (.slice Av (bestW xs).1.length cv)
   have hS := HS.out
   rw [if_neg (by omega)] at hS
   cases hS
   exact ⟨.tuple #[.slice Av (bestW xs).1.length cv, .int .i64 0], by simp [results, Try.f45, go_sem, hc5], _, rfl, Kd.R_lower (hr5 _ hcS1) (by have := HQ.out; omega), Below.trans HBW.out (below_le hb5 (by have := HQ.out; omega))⟩
 ·rintro D c' pre W1 _ h
  exact h.elim

end Go.Proofs.Ytdhiijleafcfcaa.T
