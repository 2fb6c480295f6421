/- Hangings and Hang: what they return. -/
import Derived.Test.YtdhiijleafcfcaaT0
import Derived.Test.YtdhiijleafcfcaaHj
namespace Go.Proofs.Ytdhiijleafcfcaa.T
open Go.RowKit Go.Proofs.YtdhiijleafcfcaaW.PrintWords Go.Proofs.YtdhiijleafcfcaaW.PrintLast Go.Proofs.YtdhiijleafcfcaaW.PrintMore
attribute [local go_sem] max2_int min2_int max_two min_two max_three min_three max_four min_four
set_option linter.unusedVariables false
set_option linter.unusedSimpArgs false

theorem hUpto_len (N : Nat) (F : List Int → Bool) (m : Nat) (p : List Int) (M : Nat) (h : ∀ x : Nat, (hOuts N F m (p ++ [(x : Int)])).length ≤ M) : ∀ k, (hUpto N F m p k).length ≤ k * M
 | 0 => by simp [hUpto]
 | k + 1 => by
  rw [hUpto_succ, List.length_append, Nat.succ_mul]
  have h1 := hUpto_len N F m p M h k
  have h2 : (if (k : Int) ∈ p then [] else hOuts N F m (p ++ [(k : Int)])).length ≤ M := by
   split
   ·simp
   ·exact h k
  omega
theorem hOuts_len (N : Nat) (F : List Int → Bool) : ∀ (m : Nat) (p : List Int), (hOuts N F m p).length ≤ N ^ m
 | 0, p => by unfold hOuts; split <;> simp
 | m + 1, p => by
  rw [← hUpto_all, Nat.pow_succ, Nat.mul_comm]
  exact hUpto_len N F m p _ (fun x => hOuts_len N F m _) N
theorem HS_len (N : Nat) (l : List S76) (xs : List HX) (h6 : N ≤ 6) (h : HS N l xs) : wrap64 (xs.length : Int) = ((hOuts N (okH N l) N []).length : Int) := by
 have h0 : xs.length = (hOuts N (okH N l) N []).length := by rw [← h, List.length_map]
 have h1 := hOuts_len N (okH N l) N []
 have h2 : N ^ N ≤ 6 ^ N := Nat.pow_le_pow_left h6 N
 have h3 : 6 ^ N ≤ 6 ^ 6 := Nat.pow_le_pow_right (by omega) h6
 rw [h0]
 unfold wrap64
 omega
set_option maxRecDepth 100000 in
theorem hangings_calls (A : Option Addr) (c n : Nat) (N : Int) (w : World) :
  Calls Try.prog 113 #[.int .i64 N, .slice A n c] w fun e w' => e = .returned (.func (.func 150) #[] #[.pointer (some ⟨w.heap.size, 0, none⟩), .pointer (some ⟨w.heap.size + 1, 0, none⟩)]) ∧
   (w.alloc (.cells #[.int .i64 N] 3)).alloc (.cells #[.slice A n c] 69) = w' := by
 go_enter Try.func113, Try.ntmps113
 go_wp2
 go_ret
 exact ⟨rfl, rfl⟩
/-- The caller's word, while it counts in the box b. -/
def HnI (b : Nat) (w0 : World) (pre : List HX) (D : Nat → Prop) (W : World) : Prop :=
 W.heap[b]? = some (.cells #[.int .i64 (wrap64 (pre.length : Int))] 3 (0, 0)) ∧ (∀ k, D k → b < k) ∧ Below b w0 W
theorem HnI_law (b x y : Nat) (w0 : World) (hx : b < x) (hy : b < y) : Ilaw x y (HnI b w0) := by
 rintro s D D' A B ⟨h1, h2, h3⟩ hAB hD
 have hlt := blk_lt h1
 exact ⟨hAB.at_ (by refine ⟨fun h => ?_, ?_, ?_⟩ <;> first | omega | (have := h2 _ h; omega)) h1, fun k hk => by rcases hD k hk with h | h; exact h2 k h; omega,
  h3.trans (hAB.below (by omega) fun k hk => ⟨fun h => by have := h2 k h; omega, by omega, by omega⟩)⟩
theorem HnI_end (b : Nat) (w0 : World) (xs : List HX) (D : Nat → Prop) (W : World) (x : Nat) (h : HnI b w0 xs D W) (hx : b < x) :
  ((W.setCell ⟨b, 0, none⟩ (.int .i64 (wrap64 (xs.length : Int)))).putObj x (.deferred none)).cell? ⟨b, 0, none⟩ = some (.int .i64 (wrap64 (xs.length : Int))) ∧
   Below b w0 ((W.setCell ⟨b, 0, none⟩ (.int .i64 (wrap64 (xs.length : Int)))).putObj x (.deferred none)) := by
 obtain ⟨h1, h2, h3⟩ := h
 have hlt := blk_lt h1
 refine ⟨?_, h3.trans (((((Same.refl (fun k => k < b) W).setCell ⟨b, 0, none⟩ (by simp) _).putObj (by omega) _)).below (by omega) (fun k hk => hk))⟩
 refine (World.cell?_of_block (World.putObj_heap_other (k := b) (by omega))).trans ?_
 have := blk_cell (blk_set (u := Value.int .i64 (wrap64 (xs.length : Int))) (i := 0) h1) 0
 simpa using this
theorem HnI_step (b : Nat) (w0 : World) (pre : List HX) (x : HX) (D : Nat → Prop) (W : World) (h : HnI b w0 pre D W) :
  HnI b w0 (pre ++ [x]) D (W.setCell ⟨b, 0, none⟩ (.int .i64 (wrap64 (wrap64 (pre.length : Int) + 1)))) := by
 obtain ⟨h1, h2, h3⟩ := h
 refine ⟨?_, h2, h3.trans (((Same.refl (fun k => k ≠ b) W).setCell ⟨b, 0, none⟩ (by simp) _).below (by have := blk_lt h1; omega) (fun k hk => by omega))⟩
 rw [blk_set h1, wrap_wrap1]
 simp
theorem row_ltS {w : World} {A : Option Addr} {l : List S76} (hr : Kd.C k76 w A l.length l) (ad : Addr) (e : A = some ad) (hpos : 0 < l.length) : ad.block < w.heap.size := by
 obtain ⟨ad', e', hc, _⟩ := at_T76 hr 0 (by omega) (by omega)
 rw [e] at e'
 cases e'
 have := World.block_lt_of_cell? w _ hc
 simpa [Addr.add] using this
theorem hRd_far (x : HX) (b : Nat) (A B : World) (o : Obj) (h : hRd x A) (ho : A.heap[b]? = some o) (hoc : o.isCells = false) (hS : Same (fun k => k ≠ b) A B) : hRd x B := by
 obtain ⟨⟨cur, hc⟩, h2, h3⟩ := h
 have hne : x.1 ≠ b := fun e => by
  rw [e, ho] at hc
  cases hc
  cases hoc
 exact ⟨⟨cur, hS.at_ hne hc⟩, hS.reads h2 (fun ad e _ => by cases e; exact hne), h3⟩
attribute [local go_sem] Oper.semAt_some
set_option maxHeartbeats 4000000 in
set_option maxRecDepth 100000 in
theorem Hangings_in (N : Nat) (A : Option Addr) (c : Nat) (l : List S76) (w : World) (hr : Kd.C k76 w A l.length l) (hc : l.length ≤ c) (h1 : 1 ≤ N) (h6 : N ≤ 6) (hcp : cpB (N : Int) l = 0) (hs : ∀ s ∈ l, saidB s (N : Int) = true) :
  CallsIn Fence.wide 9 Try.prog 56 #[.int .i64 (N : Int), .slice A l.length c] w fun e w' => e = .returned (.tuple #[.int .i64 ((hOuts N (okH N l) N []).length : Int), .int .i64 0]) ∧ Below w.heap.size w w' := by
 have hu69 := Try.underlying69
 have HM := Aside0.mk (checkPortraits_calls (N : Int) A c l _ (Kd.C_alloc hr (.cells #[.int .i64 0] 3)) hc)
 rw [hcp] at HM
 have HC := Aside0.mk hc
 have HR := Aside0.mk hr
 clear hr hc
 refine callsIn_of_wp_marks Try.func56 rfl trivial ?_ rfl
 simp only [Try.ntmps56, List.size_toArray, List.length_cons, List.length_nil, Nat.reduceAdd, Nat.reduceSub, Array.replicate_succ, Array.replicate_zero, List.push_toArray, List.append_toArray, List.nil_append, List.cons_append]
 gi_wp2_with (first | (refine ⟨trivial, ?_⟩; gi_at_call 112; refine (callsIn_wide.2 HM.out).mono ?_; rintro e w1 ⟨rfl, hb⟩; have HB := Aside0.mk hb; clear hb) | (refine ⟨trivial, ?_⟩; gi_at_call 113; refine (callsIn_wide.2 (hangings_calls A c l.length (N : Int) _)).mono ?_; rintro e w' ⟨rfl, rfl⟩))
 rename_i Q0 K1 hK1
 obtain ⟨w0, hw0⟩ : ∃ w0, w.alloc (Obj.cells #[Value.int IntKind.i64 0] 3) = w0 := ⟨_, rfl⟩
 have hz0 : w0.heap.size = w.heap.size + 1 := by rw [← hw0]; simp
 have hbw0 : Below w.heap.size w w0 := by rw [← hw0]; exact below_alloc (Below.refl _ _) _
 have hn0 : w0.heap[w.heap.size]? = some (.cells #[.int .i64 0] 3 (0, 0)) := by rw [← hw0]; exact World.alloc_heap_new w _
 rw [hw0] at HB
 obtain ⟨W, hW⟩ : ∃ W, (w1.alloc (Obj.cells #[Value.int IntKind.i64 (N : Int)] 3)).alloc (Obj.cells #[Value.slice A l.length c] 69) = W := ⟨_, rfl⟩
 have hs1 := HB.out.size
 have hz : W.heap.size = w1.heap.size + 2 := by rw [← hW]; simp
 have hb1W : Below w1.heap.size w1 W := by rw [← hW]; exact below_alloc (below_alloc (Below.refl _ _) _) _
 have hbel : Below w0.heap.size w0 W := HB.out.trans (hb1W.mono hs1)
 have hbwW : Below w.heap.size w W := hbw0.trans (hbel.mono (by omega))
 have hc0 : W.heap[w.heap.size]? = some (.cells #[.int .i64 0] 3 (0, 0)) := (hbel.block _ (by omega)).trans hn0
 have hcn : W.cell? ⟨w1.heap.size, 0, none⟩ = some (.int .i64 (N : Int)) := by
  rw [← hW]
  refine blk_cell (cs := #[.int .i64 (N : Int)]) (t := 3) ?_ 0
  rw [heap_alloc_old _ _ _ (by simp)]
  exact World.alloc_heap_new w1 _
 have hcl : W.cell? ⟨w1.heap.size + 1, 0, none⟩ = some (.slice A l.length c) := by
  have := World.alloc_heap_new (w1.alloc (Obj.cells #[Value.int IntKind.i64 (N : Int)] 3)) (Obj.cells #[Value.slice A l.length c] 69)
  rw [World.size_alloc, hW] at this
  exact blk_cell this 0
 have hseq := hang_seq N l A c w1.heap.size (w1.heap.size + 1) W (fun k => k ≠ w.heap.size) hcn hcl (Kd.C_below HR.out hbwW) (by show w1.heap.size ≠ w.heap.size; omega) (by show w1.heap.size + 1 ≠ w.heap.size; omega)
  (fun ad e hp => by have := row_ltS HR.out ad e hp; exact ⟨by omega, by omega⟩) HC.out h1 h6 hs
 rw [hW]
 clear HM hcn hcl
 refine wpIn_rangeT (a₁ := fun x => { tmps := #[Value.int IntKind.i64 ↑N, Value.slice A l.length c, undef, undef,
     Value.pointer (some { block := w.heap.size, off := 0 }), Value.int IntKind.i64 0, Value.int IntKind.i64 0,
     Value.int IntKind.i64 ↑N, Value.slice A l.length c, Value.int IntKind.i64 0, Value.int IntKind.i64 0,
     Value.bool false, undef, Value.int IntKind.i64 ↑N, Value.slice A l.length c,
     Value.func (Fn.func 150) #[]
      #[Value.pointer (some { block := w1.heap.size, off := 0 }),
       Value.pointer (some { block := w1.heap.size + 1, off := 0 })],
     .slice (some ⟨x.1, 0, none⟩) x.2.2.length x.2.1, undef, undef, undef], defers := [] }) (by simp [Act.eval]) (fun _ _ => by simp [go_sem]) hseq (fun _ => rfl) (fun x A B o h ho hoc hS => hRd_far x _ A B o h ho hoc hS) (HnI w.heap.size w0) (fun _ _ _ _ => False) (HnI_law _ _ _ _ (by omega) (by omega)) (fun _ _ _ _ _ _ h _ _ => h) ⟨by simpa [wrap64] using hc0, fun _ h => h.elim, hbel.mono (by omega)⟩ ?_ ?_ ?_ ?_
 ·intro lp x W1 K2 h
  exact wpIn_skip (by simpa [Exit.then, hY] using h)
 ·rintro lp pre x D W1 ⟨h1, h2, h3⟩ hrd hD _
  have HI := Aside0.mk (HnI_step _ _ _ x _ _ ⟨h1, h2, h3⟩)
  have HD := Aside0.mk h2
  have hf := blk_frozen h1 0
  have hc := blk_cell h1 0
  have hb : w.heap.size < W1.heap.size := blk_lt h1
  simp only [List.getElem?_toArray, List.getElem?_cons_zero] at hc
  clear hrd hD h1 h2 h3 hseq hc0 hbel hW hK1 HR HB hbw0 hs hb1W hbwW hn0
  gi_wp2
  refine ⟨(Same.refl _ W1).setCell ⟨w.heap.size, 0, none⟩ ?_ _, HI.out⟩
  rintro (h | h | h | ⟨h1, h2⟩) <;> simp only at *
  ·have := HD.out _ h; omega
  ·omega
  ·omega
  ·exact h2 rfl
 ·rintro D xs W1 hxs ⟨h1', h2, h3⟩ hK
  refine hK1 _ _ ?_
  have hX := HS_len N l xs h6 hxs
  have HK := Aside0.mk hK
  have hf := blk_frozen h1' 0
  have hc := blk_cell h1' 0
  simp only [List.getElem?_toArray, List.getElem?_cons_zero] at hc
  have hlt := blk_lt h1'
  have HE := Aside0.mk (HnI_end _ _ _ _ _ W.heap.size ⟨h1', h2, h3⟩ (by omega))
  have HBW := Aside0.mk hbw0
  have HZ := Aside0.mk (show w.heap.size < W.heap.size by omega)
  have HX := Aside0.mk hX
  clear h1' h2 h3 hseq hc0 hbel hW hK1 hxs hK HR HB hbw0 hz hz0 hs1 hs hb1W hbwW hn0 hX
  gi_wp2
  have hK2 : (W1.setCell ⟨w.heap.size, 0, none⟩ (.int .i64 (wrap64 (xs.length : Int)))).heap[W.heap.size]? = some (.deferred (some [])) := (Below.heap_setCell W1 ⟨w.heap.size, 0, none⟩ _ _ (by show W.heap.size ≠ w.heap.size; have := HZ.out; omega)).trans HK.out
  refine ⟨by simp, .inl ⟨_, _, rfl, run_takeDeferred hK2, ?_⟩⟩
  obtain ⟨hc5, hb5⟩ := HE.out
  refine ⟨.tuple #[.int .i64 ((hOuts N (okH N l) N []).length : Int), .int .i64 0], ?_, rfl, Below.trans HBW.out (below_le hb5 (by omega))⟩
  rw [← HX.out]
  simp [results, Try.f56, go_sem, hc5]
 ·rintro D c' pre W1 _ h
  exact h.elim

end Go.Proofs.Ytdhiijleafcfcaa.T
