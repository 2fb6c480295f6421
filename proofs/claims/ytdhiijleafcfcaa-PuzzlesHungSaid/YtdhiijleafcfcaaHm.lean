/- Hang: what it returns. -/
import Derived.Test.YtdhiijleafcfcaaT0
import Derived.Test.YtdhiijleafcfcaaHk
import Derived.Test.YtdhiijleafcfcaaRt
namespace Go.Proofs.Ytdhiijleafcfcaa.T
open Go.RowKit Go.Proofs.YtdhiijleafcfcaaW.PrintWords Go.Proofs.YtdhiijleafcfcaaW.PrintLast Go.Proofs.YtdhiijleafcfcaaW.PrintMore
attribute [local go_sem] max2_int min2_int max_two min_two max_three min_three max_four min_four
set_option linter.unusedVariables false
set_option linter.unusedSimpArgs false

/-- The blocks that the rows handed out may be. -/
def HgOk (D : Nat → Prop) (bM bO x y : Nat) (k : Nat) : Prop := ¬ D k ∧ k ≠ bM ∧ k ≠ bO ∧ k ≠ x ∧ k ≠ y
/-- The caller's word, while it writes down the hangings. -/
def HgI (bM bO x y : Nat) (most : Int) (w0 : World) (pre : List HX) (D : Nat → Prop) (W : World) : Prop :=
 ∃ v, W.heap[bO]? = some (.cells #[v] 70 (0, 0)) ∧ W.heap[bM]? = some (.cells #[.int .i64 most] 3 (0, 0)) ∧ (∀ k, D k → x ≤ k) ∧ Below bM w0 W ∧
  Kd.S (Kd.slice 3 (Kd.int .i64)) 22 W x (HgOk D bM bO x y) v (pre.map fun x => x.2.2) ∧ x ≤ W.heap.size
theorem HgI_law (bM bO x y : Nat) (most : Int) (w0 : World) (hMO : bM < bO) (hx : bO < x) (hy : x < y) : Ilaw x y (HgI bM bO x y most w0) := by
 rintro s D D' A B ⟨v, h1, h2, h3, h4, h5, h6⟩ hAB hD
 have hltO := blk_lt h1
 have hltM := blk_lt h2
 have hD3 : ∀ k, D' k → x ≤ k := fun k hk => by rcases hD k hk with h | h; exact h3 k h; omega
 have lo : ∀ k, k < x → ¬ D k ∧ k ≠ x ∧ k ≠ y := fun k hk => ⟨fun h => by have := h3 k h; omega, by omega, by omega⟩
 refine ⟨v, hAB.at_ (lo _ (by omega)) h1, hAB.at_ (lo _ (by omega)) h2, hD3, h4.trans (hAB.below (by omega) fun k hk => lo k (by omega)), ?_, Nat.le_trans h6 hAB.size⟩
 refine Kd.S_mono (Kd.S_step (Kd.S_bound h5) (fun k ho hlt => ?_)) (fun k hk => ?_)
 ·exact hAB.block k hlt ⟨ho.1.1, ho.1.2.2.2.1, ho.1.2.2.2.2⟩
 ·exact ⟨fun hd => by rcases hD k hd with h | h; exact hk.1.1 h; have := hk.2.2.1; omega, hk.1.2⟩
/-- One more is written down. -/
theorem HgI_step (bM bO x y : Nat) (most : Int) (w0 : World) (pre : List HX) (z : HX) (D : Nat → Prop) (W W1 W2 : World) (v v2 : Value) (hMO : bM < bO) (hx : bO < x) (hy : x < y) (h1 : W.heap[bO]? = some (.cells #[v] 70 (0, 0))) (h2 : W.heap[bM]? = some (.cells #[.int .i64 most] 3 (0, 0)))
  (h3 : ∀ k, D k → x ≤ k) (h4 : Below bM w0 W) (h6 : x ≤ W.heap.size) (hv : ∀ k, v.ownBlock = some k → x ≤ k ∧ ¬ D k ∧ k ≠ x ∧ k ≠ y) (hb : Below W.heap.size W W1) (hg : W1.grownBy W2 v.ownBlock)
  (hS : Kd.S (Kd.slice 3 (Kd.int .i64)) 22 W2 x (HgOk D bM bO x y) v2 (pre.map (fun x => x.2.2) ++ [z.2.2])) :
  HgI bM bO x y most w0 (pre ++ [z]) D (W2.setCell ⟨bO, 0, none⟩ v2) ∧ Same (fun k => D k ∨ k = x ∨ k = y ∨ (k < x ∧ k ≠ bO)) W (W2.setCell ⟨bO, 0, none⟩ v2) := by
 have hltO := blk_lt h1
 have hltM := blk_lt h2
 have hnv : ∀ k, k < x → some k ≠ v.ownBlock := fun k hk e => by have := (hv k e.symm).1; omega
 have S1 : Same (fun _ => True) W W1 := Same.of_below hb (fun k hk _ => hk)
 have S2 : Same (fun k => some k ≠ v.ownBlock) W1 W2 := Same.of_grown hg (fun _ hk => hk)
 have S3 : Same (fun k => k ≠ bO) W2 (W2.setCell ⟨bO, 0, none⟩ v2) := (Same.refl _ W2).setCell ⟨bO, 0, none⟩ (by simp) _
 have S123 : Same (fun k => some k ≠ v.ownBlock ∧ k ≠ bO) W (W2.setCell ⟨bO, 0, none⟩ v2) := ((S1.mono fun _ _ _ => trivial).trans (S2.mono fun _ _ hk => hk.1)).trans (S3.mono fun _ _ hk => hk.2)
 have hO2 : W2.heap[bO]? = some (.cells #[v] 70 (0, 0)) := S2.at_ (hnv bO hx) (S1.at_ trivial h1)
 refine ⟨⟨v2, by simpa using blk_set (u := v2) (i := 0) hO2, S123.at_ ⟨hnv bM (by omega), by omega⟩ h2, h3, h4.trans (S123.below (by omega) fun k hk => ⟨hnv k (by omega), by omega⟩), ?_, Nat.le_trans h6 S123.size⟩, S123.mono fun k _ hk => ?_⟩
 ·rw [List.map_append]
  exact Kd.S_step hS (fun k hk hlt => S3.block k hlt hk.2.2.1)
 ·rcases hk with hk | rfl | rfl | ⟨hk, hk2⟩
  ·exact ⟨fun e => (hv k e.symm).2.1 hk, by have := h3 k hk; omega⟩
  ·exact ⟨fun e => (hv _ e.symm).2.2.1 rfl, by omega⟩
  ·exact ⟨fun e => (hv _ e.symm).2.2.2 rfl, by omega⟩
  ·exact ⟨hnv k hk, hk2⟩
/-- What an append to the hangings asks. -/
theorem hg_app (bM bO x y : Nat) (most : Int) (w0 : World) (pre : List HX) (z : HX) (D : Nat → Prop) (V w2 : World) (v v2 : Value) (hMO : bM < bO) (hx : bO < x) (hy : x < y) (hyV : y < V.heap.size) (g3 : ∀ k, D k → x ≤ k) (hD : ∀ k, D k → k < V.heap.size) (g5 : Kd.S (Kd.slice 3 (Kd.int .i64)) 22 V x (HgOk D bM bO x y) v (pre.map fun x => x.2.2)) (hb : Below V.heap.size V w2)
  (hR : Kd.R (Kd.int .i64) 3 w2 V.heap.size (fun _ => True) v2 z.2.2) :
  (Kd.slice 3 (Kd.int .i64)).M w2 x (fun k => some k = v2.ownBlock) z.2.2 [v2] ∧ (∀ k, some k = v2.ownBlock → HgOk D bM bO x y k ∧ some k ≠ v.ownBlock) ∧ (∀ k, w2.heap.size ≤ k → HgOk D bM bO x y k) ∧
   Kd.S (Kd.slice 3 (Kd.int .i64)) 22 w2 x (fun k => HgOk D bM bO x y k ∧ ¬ some k = v2.ownBlock) v (pre.map fun x => x.2.2) ∧ (∀ k, v.ownBlock = some k → x ≤ k ∧ ¬ D k ∧ k ≠ x ∧ k ≠ y) := by
 have hs := hb.size
 have hlt := Kd.R_lt (Kd.S_R g5)
 have hnew : ∀ k, V.heap.size ≤ k → HgOk D bM bO x y k := fun k hk => ⟨fun hd => by have := hD k hd; omega, by omega, by omega, by omega, by omega⟩
 have hv2 : ∀ k, some k = v2.ownBlock → V.heap.size ≤ k := fun k hk => Kd.R_base hR k hk.symm
 refine ⟨Kd.M_row (Kd.R_mono (Kd.R_tight rfl (Kd.R_lower hR (by omega))) (fun _ h => h)), fun k hk => ⟨hnew k (hv2 k hk), fun e => by have := hlt k e.symm; have := hv2 k hk; omega⟩, fun k hk => hnew k (by omega), ?_, fun k hk => ?_⟩
 ·exact Kd.S_mono (Kd.S_below (Kd.S_bound g5) hb) (fun k hk => ⟨hk.1, fun e => by have := hv2 k e; have := hk.2.2.1; omega⟩)
 ·have h1 := (Kd.S_R g5).1 k hk
  exact ⟨Kd.R_base (Kd.S_R g5) k hk, h1.1, h1.2.2.2.1, h1.2.2.2.2⟩
theorem hO_up {V w2 w5 : World} {b x : Nat} {o : Obj} {v : Value} (h : V.heap[b]? = some o) (hb : Below V.heap.size V w2) (hg : w2.grownBy w5 v.ownBlock) (hv : ∀ k, v.ownBlock = some k → x ≤ k) (hlt : b < x) : w5.heap[b]? = some o :=
 blk_grown ((hb.block b (blk_lt h)).trans h) hg (fun e => by have := hv b e.symm; omega)
theorem HgI_slice {bM bO x y : Nat} {most : Int} {w0 : World} {pre : List HX} {D : Nat → Prop} {W : World} {v : Value} (h : HgI bM bO x y most w0 pre D W) (hc : W.cell? ⟨bO, 0, none⟩ = some v) : ∃ A c, v = .slice A pre.length c := by
 obtain ⟨u, h1, _, _, _, h5, _⟩ := h
 have := blk_cell h1 0
 simp only [List.getElem?_toArray, List.getElem?_cons_zero] at this
 rw [this] at hc
 obtain rfl := Option.some.inj hc
 obtain ⟨A, c, e⟩ := Kd.S_slice h5
 exact ⟨A, c, by rw [e, List.length_map]⟩
/-- At the end: the box is written once more, the mark is shut. -/
theorem HgI_end (bM bO x y : Nat) (most : Int) (w0 : World) (pre : List HX) (D : Nat → Prop) (W : World) (v : Value) (h : HgI bM bO x y most w0 pre D W) (hc : W.cell? ⟨bO, 0, none⟩ = some v) (hMO : bM < bO) (hx : bO < x) :
  ((W.setCell ⟨bO, 0, none⟩ v).putObj x (.deferred none)).cell? ⟨bO, 0, none⟩ = some v ∧ Kd.S (Kd.slice 3 (Kd.int .i64)) 22 ((W.setCell ⟨bO, 0, none⟩ v).putObj x (.deferred none)) bM (fun _ => True) v (pre.map fun x => x.2.2) ∧ Below bM w0 ((W.setCell ⟨bO, 0, none⟩ v).putObj x (.deferred none)) := by
 obtain ⟨u, h1, h2, h3, h4, h5, h6⟩ := h
 have := blk_cell h1 0
 simp only [List.getElem?_toArray, List.getElem?_cons_zero] at this
 rw [this] at hc
 obtain rfl := Option.some.inj hc
 have hlt := blk_lt h1
 have S1 : Same (fun k => k ≠ bO ∧ k ≠ x) W ((W.setCell ⟨bO, 0, none⟩ u).putObj x (.deferred none)) := ((Same.refl _ W).setCell ⟨bO, 0, none⟩ (by simp) _).putObj (by simp) _
 refine ⟨?_, Kd.S_mono (Kd.S_lower (Kd.S_step h5 (fun k hk hlt => S1.block k hlt ⟨hk.2.2.1, hk.2.2.2.1⟩)) (by omega)) (fun _ _ => trivial), h4.trans (S1.below (by omega) (fun k hk => ⟨by omega, by omega⟩))⟩
 refine (World.cell?_of_block (World.putObj_heap_other (k := bO) (by omega))).trans ?_
 have := blk_cell (blk_set (u := u) (i := 0) h1) 0
 simpa using this
attribute [local go_sem] Oper.semAt_some
set_option maxHeartbeats 4000000 in
set_option maxRecDepth 100000 in
theorem Hang_in (N : Nat) (A : Option Addr) (c : Nat) (l : List S76) (most : Int) (w : World) (hr : Kd.C k76 w A l.length l) (hc : l.length ≤ c) (h1 : 1 ≤ N) (h6 : N ≤ 6) (hcp : cpB (N : Int) l = 0) (hs : ∀ s ∈ l, saidB s (N : Int) = true) (hm : inR 1 64 most = true) :
  CallsIn Fence.wide 9 Try.prog 54 #[.int .i64 (N : Int), .slice A l.length c, .int .i64 most] w fun e w' => ∃ v0_ : Value, e = .returned (.tuple #[v0_, .int .i64 0]) ∧ Kd.S (Kd.slice 3 (Kd.int .i64)) 22 w' w.heap.size (fun _ => True) v0_ ((hOuts N (okH N l) N []).take most.toNat) ∧ Below w.heap.size w w' := by
 have hu69 := Try.underlying69
 have hu70 := Try.underlying70
 have hu22 := Try.underlying22
 have HW := Aside0.mk (fun V => within_calls most 1 64 V)
 rw [hm] at HW
 have hm2 : 1 ≤ most ∧ most ≤ 64 := by simpa [inR] using hm
 have HC := Aside0.mk hc
 have HR := Aside0.mk hr
 obtain ⟨w0, hw0⟩ : ∃ w0, (w.alloc (Obj.cells #[Value.int IntKind.i64 most] 3)).alloc (.cells #[.slice none 0 0] 70) = w0 := ⟨_, rfl⟩
 have hz0 : w0.heap.size = w.heap.size + 2 := by rw [← hw0]; simp
 have hbw0 : Below w.heap.size w w0 := by rw [← hw0]; exact below_alloc (below_alloc (Below.refl _ _) _) _
 have HM := Aside0.mk (checkPortraits_calls (N : Int) A c l w0 (Kd.C_below hr hbw0) hc)
 rw [hcp] at HM
 have hnM : w0.heap[w.heap.size]? = some (.cells #[.int .i64 most] 3 (0, 0)) := by
  rw [← hw0, heap_alloc_old _ _ _ (by simp)]
  exact World.alloc_heap_new w _
 have hnO : w0.heap[w.heap.size + 1]? = some (.cells #[.slice none 0 0] 70 (0, 0)) := by
  have := World.alloc_heap_new (w.alloc (Obj.cells #[Value.int IntKind.i64 most] 3)) (.cells #[.slice none 0 0] 70)
  rw [World.size_alloc, hw0] at this
  exact this
 have hcM0 := blk_cell hnM 0
 simp only [List.getElem?_toArray, List.getElem?_cons_zero] at hcM0
 have hlM0 := blk_lt hnM
 clear hr hc hm hcp
 refine callsIn_of_wp_marks Try.func54 rfl trivial ?_ rfl
 simp only [Try.ntmps54, List.size_toArray, List.length_cons, List.length_nil, Nat.reduceAdd, Nat.reduceSub, Array.replicate_succ, Array.replicate_zero, List.push_toArray, List.append_toArray, List.nil_append, List.cons_append]
 gi_wp2_with (first | (refine ⟨trivial, ?_⟩; gi_at_call 112; refine (callsIn_wide.2 HM.out).mono ?_; rintro e w1 ⟨rfl, hb⟩; have hcM1 := (hb.cell (p := ⟨w.heap.size, 0, none⟩) hlM0).trans hcM0; have HB := Aside0.mk hb; clear hb) | (refine ⟨trivial, ?_⟩; gi_at_call 67; refine (callsIn_wide.2 (HW.out _)).mono ?_; rintro e w' ⟨rfl, rfl⟩) | (refine ⟨trivial, ?_⟩; gi_at_call 113; refine (callsIn_wide.2 (hangings_calls A c l.length (N : Int) _)).mono ?_; rintro e w' ⟨rfl, rfl⟩))
 rename_i Q0 K1 hK1
 obtain ⟨W, hW⟩ : ∃ W, (w1.alloc (Obj.cells #[Value.int IntKind.i64 (N : Int)] 3)).alloc (Obj.cells #[Value.slice A l.length c] 69) = W := ⟨_, rfl⟩
 have hs1 := HB.out.size
 have hz : W.heap.size = w1.heap.size + 2 := by rw [← hW]; simp
 have hb1W : Below w1.heap.size w1 W := by rw [← hW]; exact below_alloc (below_alloc (Below.refl _ _) _) _
 have hbel : Below w0.heap.size w0 W := HB.out.trans (hb1W.mono hs1)
 have hbwW : Below w.heap.size w W := hbw0.trans (hbel.mono (by omega))
 have hcM : W.heap[w.heap.size]? = some (.cells #[.int .i64 most] 3 (0, 0)) := (hbel.block _ (by omega)).trans hnM
 have hcO : W.heap[w.heap.size + 1]? = some (.cells #[.slice none 0 0] 70 (0, 0)) := (hbel.block _ (by omega)).trans hnO
 have hcn : W.cell? ⟨w1.heap.size, 0, none⟩ = some (.int .i64 (N : Int)) := by
  rw [← hW]
  refine blk_cell (cs := #[.int .i64 (N : Int)]) (t := 3) ?_ 0
  rw [heap_alloc_old _ _ _ (by simp)]
  exact World.alloc_heap_new w1 _
 have hcl : W.cell? ⟨w1.heap.size + 1, 0, none⟩ = some (.slice A l.length c) := by
  have := World.alloc_heap_new (w1.alloc (Obj.cells #[Value.int IntKind.i64 (N : Int)] 3)) (Obj.cells #[Value.slice A l.length c] 69)
  rw [World.size_alloc, hW] at this
  exact blk_cell this 0
 have hseq := hang_seq N l A c w1.heap.size (w1.heap.size + 1) W (fun k => k ≠ w.heap.size + 1) hcn hcl (Kd.C_below HR.out hbwW) (by show w1.heap.size ≠ w.heap.size + 1; omega) (by show w1.heap.size + 1 ≠ w.heap.size + 1; omega)
  (fun ad e hp => by have := row_ltS HR.out ad e hp; exact ⟨by omega, by omega⟩) HC.out h1 h6 hs
 rw [hW]
 clear HM HW hcn hcl hcM0 hcM1 hlM0 hnM hnO
 refine wpIn_rangeT (a₁ := fun x => { tmps := #[Value.int IntKind.i64 ↑N, Value.slice A l.length c, Value.int IntKind.i64 most, undef, undef,
     Value.pointer (some { block := w.heap.size, off := 0 }),
     Value.pointer (some { block := w.heap.size + 1, off := 0 }), Value.int IntKind.i64 0, Value.int IntKind.i64 0,
     .slice (some ⟨x.1, 0, none⟩) x.2.2.length x.2.1, Value.int IntKind.i64 ↑N, Value.slice A l.length c, Value.int IntKind.i64 0, Value.int IntKind.i64 0,
     Value.bool false, undef, Value.int IntKind.i64 most, Value.bool true, Value.bool false,
     Value.int IntKind.i64 ↑N, Value.slice A l.length c,
     Value.func (Fn.func 150) #[]
      #[Value.pointer (some { block := w1.heap.size, off := 0 }),
       Value.pointer (some { block := w1.heap.size + 1, off := 0 })],
     .slice (some ⟨x.1, 0, none⟩) x.2.2.length x.2.1, undef, undef, undef, undef, undef, undef, undef, undef, undef, undef], defers := [] }) (by simp [Act.eval]) (fun _ _ => by simp [go_sem]) hseq (fun _ => rfl) (fun x A B o h ho hoc hS => hRd_far x _ A B o h ho hoc hS)
  (fun pre D V => HgI w.heap.size (w.heap.size + 1) W.heap.size (W.heap.size + 1) most w pre D V ∧ (pre.length : Int) < most) (fun cc pre D V => cc = .exit 0 ∧ HgI w.heap.size (w.heap.size + 1) W.heap.size (W.heap.size + 1) most w pre D V ∧ (pre.length : Int) = most)
  (fun s D D' A B h hAB hD => ⟨HgI_law _ _ _ _ _ _ (by omega) (by omega) (by omega) _ _ _ _ _ h.1 hAB hD, h.2⟩) (fun cc s D D' A B h hAB hD => ⟨h.1, HgI_law _ _ _ _ _ _ (by omega) (by omega) (by omega) _ _ _ _ _ h.2.1 hAB hD, h.2.2⟩)
  ⟨⟨_, hcO, hcM, fun _ h => h.elim, hbwW, Kd.S_nil _ _ _ _ _, Nat.le_refl _⟩, by simp; omega⟩ ?_ ?_ ?_ ?_
 ·intro lp x V K2 h
  clear hseq hK1
  have ez : (#[22] : Array Tmp).zip (hY x) = #[(22, .slice (some ⟨x.1, 0, none⟩) x.2.2.length x.2.1)] := by simp [hY]
  rw [ez]
  gi_wp2
  exact h
 ·rintro lp pre x D V ⟨hI, hlt⟩ hrd hD hle
  obtain ⟨v, hG⟩ := hI
  obtain ⟨Av, cv, rfl⟩ := Kd.S_slice hG.2.2.2.2.1
  rw [List.length_map] at hG
  have hfO := blk_frozen hG.1 0
  have hcO1 := blk_cell hG.1 0
  have hcM1 := blk_cell hG.2.1 0
  have hltO : w.heap.size + 1 < V.heap.size := blk_lt hG.1
  have hltM : w.heap.size < V.heap.size := blk_lt hG.2.1
  simp only [List.getElem?_toArray, List.getElem?_cons_zero] at hcO1 hcM1
  have HG := Aside0.mk hG
  have HRD := Aside0.mk hrd.2.1
  have HLE := Aside0.mk hrd.2.2.1
  have HCLN := Aside0.mk (show slices_Clone_int_int.f x.2.2 = some x.2.2 from if_pos (by have := hrd.2.2.2; omega))
  have HDV := Aside0.mk (fun k hk => (hD k hk).2)
  have HLN := Aside0.mk (show pre.length < 64 from by omega)
  clear hseq hK1 hcO hcM hbel hW HR HC hs hb1W hbwW hG hrd hD
  gi_wp2
  rename_i Q2 K2 hK2
  have FIN : ∀ (q1 q2 q3 q4 : Value) (A5 : Option Addr) (c5 : Nat) (W5 : World), (HgI w.heap.size (w.heap.size + 1) W.heap.size (W.heap.size + 1) most w (pre ++ [x]) D W5 ∧ Same (fun k => D k ∨ k = W.heap.size ∨ k = W.heap.size + 1 ∨ (k < W.heap.size ∧ k ≠ w.heap.size + 1)) V W5) →
    W5.cell? ⟨w.heap.size + 1, 0, none⟩ = some (.slice A5 (pre.length + 1) c5) → W5.cell? ⟨w.heap.size, 0, none⟩ = some (.int .i64 most) →
    K2 { tmps := #[Value.int IntKind.i64 ↑N, Value.slice A l.length c, Value.int IntKind.i64 most, undef, undef,
     Value.pointer (some { block := w.heap.size, off := 0 }),
     Value.pointer (some { block := w.heap.size + 1, off := 0 }), Value.int IntKind.i64 0, Value.int IntKind.i64 0,
     .slice (some ⟨x.1, 0, none⟩) x.2.2.length x.2.1, Value.int IntKind.i64 ↑N, Value.slice A l.length c, Value.int IntKind.i64 0, Value.int IntKind.i64 0,
     Value.bool false, undef, Value.int IntKind.i64 most, Value.bool true, Value.bool false,
     Value.int IntKind.i64 ↑N, Value.slice A l.length c,
     Value.func (Fn.func 150) #[]
      #[Value.pointer (some { block := w1.heap.size, off := 0 }),
       Value.pointer (some { block := w1.heap.size + 1, off := 0 })],
     .slice (some ⟨x.1, 0, none⟩) x.2.2.length x.2.1, q1, q2, q3, q4, .slice A5 (pre.length + 1) c5, undef, undef, undef, undef, undef], defers := [] } W5 := by
   intro q1 q2 q3 q4 A5 c5 W5 hI5 hO5 hM5
   have HI5 := Aside0.mk hI5
   clear hI5
   refine hK2 _ _ ?_
   clear hK2 hcO1 hcM1 hfO hltO hltM
   by_cases hq : (pre.length : Int) + 1 = most
   ·have e0 : ((pre.length : Int) + 1 == most) = true := by rw [hq]; simp
    gi_wp2
    exact ⟨HI5.out.2, rfl, HI5.out.1, by simp only [List.length_append, List.length_singleton]; omega⟩
   ·have e0 : ((pre.length : Int) + 1 == most) = false := beq_eq_false_iff_ne.mpr hq
    gi_wp2
    exact ⟨HI5.out.2, HI5.out.1, by simp only [List.length_append, List.length_singleton]; omega⟩
  clear hK2
  refine wpIn_region_round (by kernel_rfl) (fun ⟨_, _, h⟩ => h) (by kernel_rfl) ?_
  refine wpAny_ready (rs := [0, 1]) (by kernel_rfl) (by simp) ?_
  refine AllReady.cons rfl (fun K3 hK3 => ?_) (AllReady.cons rfl (fun K3 hK3 => ?_) AllReady.nil)
  ·go_simp
   refine hK3 _ _ ?_
   refine wpAny_seq 1 5 rfl (by kernel_rfl) ?_
   simp only [List.drop_succ_cons, List.drop_zero]
   clear hK3
   go_wp2_with (first | (go_at_call 70; refine Calls.mono (slices_Clone_int_int.calls (some ⟨x.1, 0, none⟩) x.2.1 x.2.2 x.2.2 _ (Kd.C_drew HRD.out) HLE.out HCLN.out) ?_; rintro e w2 ⟨v2, rfl, hR, hb⟩; obtain ⟨A2, c2, rfl⟩ := Kd.R_slice hR; replace hb : Below V.heap.size V w2 := (below_drew (Below.refl V.heap.size V)).trans hb; have hcO2 := (hb.cell (p := ⟨w.heap.size + 1, 0, none⟩) hltO).trans hcO1; have hcM2 := (hb.cell (p := ⟨w.heap.size, 0, none⟩) hltM).trans hcM1; have HAP := Aside0.mk (hg_app w.heap.size (w.heap.size + 1) W.heap.size (W.heap.size + 1) most w pre x D V w2 (.slice Av pre.length cv) _ (by omega) (by omega) (by omega) hle HG.out.2.2.1 HDV.out HG.out.2.2.2.2.1 hb hR); have HB2 := Aside0.mk hb; clear hb hR) | ((with_reducible refine gate_builtin (b := .append) (xs := #[.tmp 23, .tmp 26]) rfl ?_); at_builtin; refine Kd.S_append (Kd.slice 3 (Kd.int .i64)) (w0 := w2) W.heap.size rfl (.tmp 23) (.tmp 26) 70 22 (.slice none 0 0) 24 rfl Try.underlying70 info22 rfl (by decide) (by omega) (.slice Av pre.length cv) (pre.map fun x => x.2.2) x.2.2 [.slice A2 x.2.2.length c2] (HgOk D w.heap.size (w.heap.size + 1) W.heap.size (W.heap.size + 1)) (fun k => some k = (Value.slice A2 x.2.2.length c2).ownBlock) rfl rfl HAP.out.1 HAP.out.2.1 HAP.out.2.2.1 HAP.out.2.2.2.1 (Below.refl _ _) (by have := HB2.out.size; omega) ?aL ?_; (case aL => have := HLN.out; simp only [List.length_map]; omega); intro v5 w5 hS5 hb5 hg5 hat5; have hst := HgI_step w.heap.size (w.heap.size + 1) W.heap.size (W.heap.size + 1) most w pre x D V w2 w5 (.slice Av pre.length cv) v5 (by omega) (by omega) (by omega) HG.out.1 HG.out.2.1 HG.out.2.2.1 HG.out.2.2.2.1 HG.out.2.2.2.2.2 HAP.out.2.2.2.2 HB2.out hg5 hS5; obtain ⟨A5, c5, e5⟩ := Kd.S_slice hS5; simp only [List.length_append, List.length_map, List.length_singleton] at e5; subst e5; have hO5 := hO_up HG.out.1 HB2.out hg5 (fun k hk => (HAP.out.2.2.2.2 k hk).1) (by omega); have hM5 := hO_up HG.out.2.1 HB2.out hg5 (fun k hk => (HAP.out.2.2.2.2 k hk).1) (by omega); have hcO5 := blk_cell hO5 0; have hfO5 := blk_frozen hO5 0; have hcM5 := blk_cell hM5 0; simp only [List.getElem?_toArray, List.getElem?_cons_zero] at hcO5 hcM5; have HST := Aside0.mk hst; have HO5 := Aside0.mk hO5; clear hcO2 hcM2 hst hS5 hb5 hg5 hat5 hO5 hM5))
   exact FIN _ _ _ _ _ _ _ HST.out (by simpa using blk_cell (blk_set (u := Value.slice A5 (pre.length + 1) c5) (i := 0) HO5.out) 0) ((World.cell?_setCell_other _ _ _ _ (by simp)).trans hcM5)
  ·go_simp
   refine hK3 _ _ ?_
   clear hK3
   refine wpAny_ready (rs := [0, 2]) (by kernel_rfl) (by simp) ?_
   refine AllReady.cons rfl (fun K3 hK3 => ?_) (AllReady.cons rfl (fun K3 hK3 => ?_) AllReady.nil)
   ·go_simp
    refine hK3 _ _ ?_
    refine wpAny_seq 2 4 rfl (by kernel_rfl) ?_
    simp only [List.drop_succ_cons, List.drop_zero]
    clear hK3
    go_wp2_with (first | (go_at_call 70; refine Calls.mono (slices_Clone_int_int.calls (some ⟨x.1, 0, none⟩) x.2.1 x.2.2 x.2.2 _ (Kd.C_drew HRD.out) HLE.out HCLN.out) ?_; rintro e w2 ⟨v2, rfl, hR, hb⟩; obtain ⟨A2, c2, rfl⟩ := Kd.R_slice hR; replace hb : Below V.heap.size V w2 := (below_drew (Below.refl V.heap.size V)).trans hb; have hcO2 := (hb.cell (p := ⟨w.heap.size + 1, 0, none⟩) hltO).trans hcO1; have hcM2 := (hb.cell (p := ⟨w.heap.size, 0, none⟩) hltM).trans hcM1; have HAP := Aside0.mk (hg_app w.heap.size (w.heap.size + 1) W.heap.size (W.heap.size + 1) most w pre x D V w2 (.slice Av pre.length cv) _ (by omega) (by omega) (by omega) hle HG.out.2.2.1 HDV.out HG.out.2.2.2.2.1 hb hR); have HB2 := Aside0.mk hb; clear hb hR) | ((with_reducible refine gate_builtin (b := .append) (xs := #[.tmp 23, .tmp 26]) rfl ?_); at_builtin; refine Kd.S_append (Kd.slice 3 (Kd.int .i64)) (w0 := w2) W.heap.size rfl (.tmp 23) (.tmp 26) 70 22 (.slice none 0 0) 24 rfl Try.underlying70 info22 rfl (by decide) (by omega) (.slice Av pre.length cv) (pre.map fun x => x.2.2) x.2.2 [.slice A2 x.2.2.length c2] (HgOk D w.heap.size (w.heap.size + 1) W.heap.size (W.heap.size + 1)) (fun k => some k = (Value.slice A2 x.2.2.length c2).ownBlock) rfl rfl HAP.out.1 HAP.out.2.1 HAP.out.2.2.1 HAP.out.2.2.2.1 (Below.refl _ _) (by have := HB2.out.size; omega) ?aL ?_; (case aL => have := HLN.out; simp only [List.length_map]; omega); intro v5 w5 hS5 hb5 hg5 hat5; have hst := HgI_step w.heap.size (w.heap.size + 1) W.heap.size (W.heap.size + 1) most w pre x D V w2 w5 (.slice Av pre.length cv) v5 (by omega) (by omega) (by omega) HG.out.1 HG.out.2.1 HG.out.2.2.1 HG.out.2.2.2.1 HG.out.2.2.2.2.2 HAP.out.2.2.2.2 HB2.out hg5 hS5; obtain ⟨A5, c5, e5⟩ := Kd.S_slice hS5; simp only [List.length_append, List.length_map, List.length_singleton] at e5; subst e5; have hO5 := hO_up HG.out.1 HB2.out hg5 (fun k hk => (HAP.out.2.2.2.2 k hk).1) (by omega); have hM5 := hO_up HG.out.2.1 HB2.out hg5 (fun k hk => (HAP.out.2.2.2.2 k hk).1) (by omega); have hcO5 := blk_cell hO5 0; have hfO5 := blk_frozen hO5 0; have hcM5 := blk_cell hM5 0; simp only [List.getElem?_toArray, List.getElem?_cons_zero] at hcO5 hcM5; have HST := Aside0.mk hst; have HO5 := Aside0.mk hO5; clear hcO2 hcM2 hst hS5 hb5 hg5 hat5 hO5 hM5))
    exact FIN _ _ _ _ _ _ _ HST.out (by simpa using blk_cell (blk_set (u := Value.slice A5 (pre.length + 1) c5) (i := 0) HO5.out) 0) ((World.cell?_setCell_other _ _ _ _ (by simp)).trans hcM5)
   ·go_simp
    (go_at_call 70; refine Calls.mono (slices_Clone_int_int.calls (some ⟨x.1, 0, none⟩) x.2.1 x.2.2 x.2.2 _ (Kd.C_drew HRD.out) HLE.out HCLN.out) ?_; rintro e w2 ⟨v2, rfl, hR, hb⟩; obtain ⟨A2, c2, rfl⟩ := Kd.R_slice hR; replace hb : Below V.heap.size V w2 := (below_drew (Below.refl V.heap.size V)).trans hb; have hcO2 := (hb.cell (p := ⟨w.heap.size + 1, 0, none⟩) hltO).trans hcO1; have hcM2 := (hb.cell (p := ⟨w.heap.size, 0, none⟩) hltM).trans hcM1; have HAP := Aside0.mk (hg_app w.heap.size (w.heap.size + 1) W.heap.size (W.heap.size + 1) most w pre x D V w2 (.slice Av pre.length cv) _ (by omega) (by omega) (by omega) hle HG.out.2.2.1 HDV.out HG.out.2.2.2.2.1 hb hR); have HB2 := Aside0.mk hb; clear hb hR)
    refine hK3 _ _ ?_
    clear hK3
    refine wpAny_ready (rs := [0, 3]) (by kernel_rfl) (by simp) ?_
    refine AllReady.cons rfl (fun K3 hK3 => ?_) (AllReady.cons rfl (fun K3 hK3 => ?_) AllReady.nil)
    ·go_simp
     refine hK3 _ _ ?_
     refine wpAny_seq 3 3 rfl (by kernel_rfl) ?_
     simp only [List.drop_succ_cons, List.drop_zero]
     clear hK3
     go_wp2_with ((with_reducible refine gate_builtin (b := .append) (xs := #[.tmp 23, .tmp 26]) rfl ?_); at_builtin; refine Kd.S_append (Kd.slice 3 (Kd.int .i64)) (w0 := w2) W.heap.size rfl (.tmp 23) (.tmp 26) 70 22 (.slice none 0 0) 24 rfl Try.underlying70 info22 rfl (by decide) (by omega) (.slice Av pre.length cv) (pre.map fun x => x.2.2) x.2.2 [.slice A2 x.2.2.length c2] (HgOk D w.heap.size (w.heap.size + 1) W.heap.size (W.heap.size + 1)) (fun k => some k = (Value.slice A2 x.2.2.length c2).ownBlock) rfl rfl HAP.out.1 HAP.out.2.1 HAP.out.2.2.1 HAP.out.2.2.2.1 (Below.refl _ _) (by have := HB2.out.size; omega) ?aL ?_; (case aL => have := HLN.out; simp only [List.length_map]; omega); intro v5 w5 hS5 hb5 hg5 hat5; have hst := HgI_step w.heap.size (w.heap.size + 1) W.heap.size (W.heap.size + 1) most w pre x D V w2 w5 (.slice Av pre.length cv) v5 (by omega) (by omega) (by omega) HG.out.1 HG.out.2.1 HG.out.2.2.1 HG.out.2.2.2.1 HG.out.2.2.2.2.2 HAP.out.2.2.2.2 HB2.out hg5 hS5; obtain ⟨A5, c5, e5⟩ := Kd.S_slice hS5; simp only [List.length_append, List.length_map, List.length_singleton] at e5; subst e5; have hO5 := hO_up HG.out.1 HB2.out hg5 (fun k hk => (HAP.out.2.2.2.2 k hk).1) (by omega); have hM5 := hO_up HG.out.2.1 HB2.out hg5 (fun k hk => (HAP.out.2.2.2.2 k hk).1) (by omega); have hcO5 := blk_cell hO5 0; have hfO5 := blk_frozen hO5 0; have hcM5 := blk_cell hM5 0; simp only [List.getElem?_toArray, List.getElem?_cons_zero] at hcO5 hcM5; have HST := Aside0.mk hst; have HO5 := Aside0.mk hO5; clear hcO2 hcM2 hst hS5 hb5 hg5 hat5 hO5 hM5)
     exact FIN _ _ _ _ _ _ _ HST.out (by simpa using blk_cell (blk_set (u := Value.slice A5 (pre.length + 1) c5) (i := 0) HO5.out) 0) ((World.cell?_setCell_other _ _ _ _ (by simp)).trans hcM5)
    ·go_simp
     refine hK3 _ _ ?_
     clear hK3
     refine wpAny_ready (rs := [0]) (by kernel_rfl) (by simp) ?_
     refine AllReady.cons rfl (fun K3 hK3 => ?_) AllReady.nil
     have hcO3 : (w2.alloc (.cells #[.slice A2 x.2.2.length c2] 22)).cell? ⟨w.heap.size + 1, 0, none⟩ = some (.slice Av pre.length cv) := (World.cell?_of_block (Below.heap_alloc w2 _ _ (World.block_lt_of_cell? w2 _ hcO2))).trans hcO2
     go_simp
     clear hcO3
     refine hK3 _ _ ?_
     refine wpAny_seq 4 2 rfl (by kernel_rfl) ?_
     simp only [List.drop_succ_cons, List.drop_zero]
     clear hK3
     go_wp2_with ((with_reducible refine gate_builtin (b := .append) (xs := #[.tmp 23, .tmp 26]) rfl ?_); at_builtin; refine Kd.S_append (Kd.slice 3 (Kd.int .i64)) (w0 := w2) W.heap.size rfl (.tmp 23) (.tmp 26) 70 22 (.slice none 0 0) 24 rfl Try.underlying70 info22 rfl (by decide) (by omega) (.slice Av pre.length cv) (pre.map fun x => x.2.2) x.2.2 [.slice A2 x.2.2.length c2] (HgOk D w.heap.size (w.heap.size + 1) W.heap.size (W.heap.size + 1)) (fun k => some k = (Value.slice A2 x.2.2.length c2).ownBlock) rfl rfl HAP.out.1 HAP.out.2.1 HAP.out.2.2.1 HAP.out.2.2.2.1 (Below.refl _ _) (by have := HB2.out.size; omega) ?aL ?_; (case aL => have := HLN.out; simp only [List.length_map]; omega); intro v5 w5 hS5 hb5 hg5 hat5; have hst := HgI_step w.heap.size (w.heap.size + 1) W.heap.size (W.heap.size + 1) most w pre x D V w2 w5 (.slice Av pre.length cv) v5 (by omega) (by omega) (by omega) HG.out.1 HG.out.2.1 HG.out.2.2.1 HG.out.2.2.2.1 HG.out.2.2.2.2.2 HAP.out.2.2.2.2 HB2.out hg5 hS5; obtain ⟨A5, c5, e5⟩ := Kd.S_slice hS5; simp only [List.length_append, List.length_map, List.length_singleton] at e5; subst e5; have hO5 := hO_up HG.out.1 HB2.out hg5 (fun k hk => (HAP.out.2.2.2.2 k hk).1) (by omega); have hM5 := hO_up HG.out.2.1 HB2.out hg5 (fun k hk => (HAP.out.2.2.2.2 k hk).1) (by omega); have hcO5 := blk_cell hO5 0; have hfO5 := blk_frozen hO5 0; have hcM5 := blk_cell hM5 0; simp only [List.getElem?_toArray, List.getElem?_cons_zero] at hcO5 hcM5; have HST := Aside0.mk hst; have HO5 := Aside0.mk hO5; clear hcO2 hcM2 hst hS5 hb5 hg5 hat5 hO5 hM5)
     exact FIN _ _ _ _ _ _ _ HST.out (by simpa using blk_cell (blk_set (u := Value.slice A5 (pre.length + 1) c5) (i := 0) HO5.out) 0) ((World.cell?_setCell_other _ _ _ _ (by simp)).trans hcM5)
 ·rintro D xs V hxs ⟨hI, hlt⟩ hK
  have hlist : (hOuts N (okH N l) N []).take most.toNat = xs.map fun x => x.2.2 := by
   rw [← hxs]
   exact List.take_of_length_le (by rw [List.length_map]; omega)
  have hI0 := hI
  obtain ⟨v, g1, _⟩ := hI
  have hfO := blk_frozen g1 0
  have hcO1 := blk_cell g1 0
  simp only [List.getElem?_toArray, List.getElem?_cons_zero] at hcO1
  obtain ⟨Av, cv, rfl⟩ := HgI_slice hI0 hcO1
  have HE := Aside0.mk (HgI_end _ _ _ _ _ _ _ _ _ _ hI0 hcO1 (by omega) (by omega))
  have HK := Aside0.mk hK
  have HZ := Aside0.mk (show w.heap.size + 1 < W.heap.size by omega)
  have HLI := Aside0.mk hlist
  clear hseq hcO hcM hbel hW HR HC hs hb1W hbwW hI0 g1 hxs hK hlist hz hs1 hbw0 hz0 hw0 HB
  refine hK1 _ _ ?_
  clear hK1
  gi_wp2
  have hK2 : (V.setCell ⟨w.heap.size + 1, 0, none⟩ (.slice Av xs.length cv)).heap[W.heap.size]? = some (.deferred (some [])) := (Below.heap_setCell V ⟨w.heap.size + 1, 0, none⟩ _ _ (by show W.heap.size ≠ w.heap.size + 1; have := HZ.out; omega)).trans HK.out
  refine ⟨by simp, .inl ⟨_, _, rfl, run_takeDeferred hK2, ?_⟩⟩
  obtain ⟨hc5, hr5, hb5⟩ := HE.out
  exact ⟨.tuple #[.slice Av xs.length cv, .int .i64 0], by simp [results, Try.f54, go_sem, hc5], _, rfl, by rw [HLI.out]; exact hr5, hb5⟩
 ·rintro D cc pre V hSp ⟨rfl, hI, hlen⟩ hK
  have hlist : (hOuts N (okH N l) N []).take most.toNat = pre.map fun x => x.2.2 := by
   have := List.prefix_iff_eq_take.1 hSp
   rw [List.length_map, show pre.length = most.toNat from by omega] at this
   exact this.symm
  have hI0 := hI
  obtain ⟨v, g1, _⟩ := hI
  have hfO := blk_frozen g1 0
  have hcO1 := blk_cell g1 0
  simp only [List.getElem?_toArray, List.getElem?_cons_zero] at hcO1
  obtain ⟨Av, cv, rfl⟩ := HgI_slice hI0 hcO1
  have HE := Aside0.mk (HgI_end _ _ _ _ _ _ _ _ _ _ hI0 hcO1 (by omega) (by omega))
  have HK := Aside0.mk hK
  have HZ := Aside0.mk (show w.heap.size + 1 < W.heap.size by omega)
  have HLI := Aside0.mk hlist
  clear hseq hcO hcM hbel hW HR HC hs hb1W hbwW hI0 g1 hSp hK hlist hz hs1 hbw0 hz0 hw0 HB
  gi_wp2
  have hK2 : (V.setCell ⟨w.heap.size + 1, 0, none⟩ (.slice Av pre.length cv)).heap[W.heap.size]? = some (.deferred (some [])) := (Below.heap_setCell V ⟨w.heap.size + 1, 0, none⟩ _ _ (by show W.heap.size ≠ w.heap.size + 1; have := HZ.out; omega)).trans HK.out
  refine ⟨by simp, .inl ⟨_, _, rfl, run_takeDeferred hK2, ?_⟩⟩
  obtain ⟨hc5, hr5, hb5⟩ := HE.out
  exact ⟨.tuple #[.slice Av pre.length cv, .int .i64 0], by simp [results, Try.f54, go_sem, hc5], _, rfl, by rw [HLI.out]; exact hr5, hb5⟩

end Go.Proofs.Ytdhiijleafcfcaa.T
