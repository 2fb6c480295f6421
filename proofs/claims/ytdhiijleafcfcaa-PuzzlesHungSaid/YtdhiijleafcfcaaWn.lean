/- Weighings and Weigh: what they return. -/
import Derived.Test.YtdhiijleafcfcaaT0
import Derived.Test.YtdhiijleafcfcaaWi
import Derived.Test.YtdhiijleafcfcaaTw
namespace Go.Proofs.Ytdhiijleafcfcaa.T
open Go.RowKit Go.Proofs.YtdhiijleafcfcaaW.PrintWords Go.Proofs.YtdhiijleafcfcaaW.PrintLast Go.Proofs.YtdhiijleafcfcaaW.PrintMore
attribute [local go_sem] max2_int min2_int max_two min_two max_three min_three max_four min_four
set_option linter.unusedVariables false
set_option linter.unusedSimpArgs false

set_option maxRecDepth 100000 in
theorem weighings_calls (A : Option Addr) (c n : Nat) (load : Int) (w : World) :
  Calls Try.prog 81 #[.slice A n c, .int .i64 load] w fun e w' => e = .returned (.func (.func 127) #[] #[.pointer (some ⟨w.heap.size, 0, none⟩), .pointer (some ⟨w.heap.size + 1, 0, none⟩)]) ∧
   (w.alloc (.cells #[.slice A n c] 22)).alloc (.cells #[.int .i64 load] 3) = w' := by
 go_enter Try.func81, Try.ntmps81
 go_wp2
 go_ret
 exact ⟨rfl, rfl⟩
def weighedB (l : List Int) (a : Int) : Bool := decide (l.length ≤ 10) && inR 0 10000 a && !(l.any fun x => !inR 1 10000 x)
theorem weighed_val (l : List Int) (a : Int) : puzzles_weighed.f l a = some (weighedB l a) := by
 unfold puzzles_weighed.f weighedB puzzles_within.f inR
 have e126 : cf126.f l = some (l.any fun x => !(decide (1 ≤ x) && decide (x ≤ 10000))) := by
  rfl
 rw [e126]
 by_cases h1 : (l.length : Int) ≤ 10
 ·have h1' : l.length ≤ 10 := by omega
  by_cases h2 : (0 : Int) ≤ a
  ·by_cases h3 : a ≤ 10000 <;> simp [h1, h1', h2, h3]
  ·simp [h1, h1', h2]
 ·have h1' : ¬ l.length ≤ 10 := by omega
  simp [h1, h1']
/-- The caller's word, while it counts in the box b. -/
def WnI (b : Nat) (w0 : World) (pre : List WX) (D : Nat → Prop) (W : World) : Prop :=
 W.heap[b]? = some (.cells #[.int .i64 (wrap64 (pre.length : Int))] 3 (0, 0)) ∧ (∀ k, D k → b < k) ∧ Below b w0 W
theorem WnI_law (b x y : Nat) (w0 : World) (hx : b < x) (hy : b < y) : Ilaw x y (WnI b w0) := by
 rintro s D D' A B ⟨h1, h2, h3⟩ hAB hD
 have hlt := blk_lt h1
 exact ⟨hAB.at_ (by refine ⟨fun h => ?_, ?_, ?_⟩ <;> first | omega | (have := h2 _ h; omega)) h1, fun k hk => by rcases hD k hk with h | h; exact h2 k h; omega,
  h3.trans (hAB.below (by omega) fun k hk => ⟨fun h => by have := h2 k h; omega, by omega, by omega⟩)⟩
theorem wrap_wrap1 (n : Int) : wrap64 (wrap64 n + 1) = wrap64 (n + 1) := by
 unfold wrap64
 omega
theorem WnI_end (b : Nat) (w0 : World) (xs : List WX) (D : Nat → Prop) (W : World) (x : Nat) (h : WnI b w0 xs D W) (hx : b < x) :
  ((W.setCell ⟨b, 0, none⟩ (.int .i64 (wrap64 (xs.length : Int)))).putObj x (.deferred none)).cell? ⟨b, 0, none⟩ = some (.int .i64 (wrap64 (xs.length : Int))) ∧
   Below b w0 ((W.setCell ⟨b, 0, none⟩ (.int .i64 (wrap64 (xs.length : Int)))).putObj x (.deferred none)) := by
 obtain ⟨h1, h2, h3⟩ := h
 have hlt := blk_lt h1
 refine ⟨?_, h3.trans (((((Same.refl (fun k => k < b) W).setCell ⟨b, 0, none⟩ (by simp) _).putObj (by omega) _)).below (by omega) (fun k hk => hk))⟩
 refine (World.cell?_of_block (World.putObj_heap_other (k := b) (by omega))).trans ?_
 have := blk_cell (blk_set (u := Value.int .i64 (wrap64 (xs.length : Int))) (i := 0) h1) 0
 simpa using this
theorem wOuts_len : ∀ (l p : List Int) (s u : Int), (wOuts l p s u).length ≤ 3 ^ l.length := by
 intro l
 induction l with
 | nil => intro p s u; unfold wOuts; split <;> simp
 | cons v r ih =>
  intro p s u
  unfold wOuts
  have h1 := ih (p ++ [-1]) (s + -1 * v) (u + -1 * -1)
  have h2 := ih (p ++ [0]) (s + 0 * v) (u + 0 * 0)
  have h3 := ih (p ++ [1]) (s + 1 * v) (u + 1 * 1)
  simp only [List.length_append, List.length_cons, Nat.pow_succ]
  omega
theorem WS_len (ws : List Int) (load : Int) (xs : List WX) (hn : ws.length ≤ 10) (h : WS ws load xs) : wrap64 (xs.length : Int) = ((wOuts ws [] (-load) 0).length : Int) := by
 obtain ⟨g, rfl⟩ := h
 have h1 := wOuts_len ws [] (-load) 0
 have h2 : 3 ^ ws.length ≤ 3 ^ 10 := Nat.pow_le_pow_right (by omega) hn
 have h3 : (wTag g (wOuts ws [] (-load) 0)).length = (wOuts ws [] (-load) 0).length := by simp [wTag]
 rw [h3]
 unfold wrap64
 omega
theorem WnI_step (b : Nat) (w0 : World) (pre : List WX) (x : WX) (D : Nat → Prop) (W : World) (h : WnI b w0 pre D W) :
  WnI b w0 (pre ++ [x]) D (W.setCell ⟨b, 0, none⟩ (.int .i64 (wrap64 (wrap64 (pre.length : Int) + 1)))) := by
 obtain ⟨h1, h2, h3⟩ := h
 refine ⟨?_, h2, h3.trans (((Same.refl (fun k => k ≠ b) W).setCell ⟨b, 0, none⟩ (by simp) _).below (by have := blk_lt h1; omega) (fun k hk => by omega))⟩
 rw [blk_set h1, wrap_wrap1]
 simp
theorem three_new (w : World) (q : Nat) (a b c : Obj) : ((((w.alloc a).drewN q).alloc b).alloc c).heap[w.heap.size]? = some a ∧ ((((w.alloc a).drewN q).alloc b).alloc c).heap[w.heap.size + 1]? = some b ∧
  ((((w.alloc a).drewN q).alloc b).alloc c).heap[w.heap.size + 1 + 1]? = some c := by
 have n1 := World.alloc_heap_new w a
 have n2 := World.alloc_heap_new ((w.alloc a).drewN q) b
 have n3 := World.alloc_heap_new (((w.alloc a).drewN q).alloc b) c
 simp only [World.size_alloc, World.drewN] at n2 n3
 refine ⟨?_, ?_, n3⟩
 ·rw [heap_alloc_old _ _ _ (by simp [World.drewN]; omega), heap_alloc_old _ _ _ (by simp [World.drewN])]; exact n1
 ·rw [heap_alloc_old _ _ _ (by simp [World.drewN])]; exact n2
theorem row_lt {w : World} {A : Option Addr} {ws : List Int} (hr : Kd.C (Kd.int .i64) w A ws.length ws) (ad : Addr) (e : A = some ad) (hpos : 0 < ws.length) : ad.block < w.heap.size := by
 obtain ⟨ad', e', hc⟩ := Kd.at_int hr 0 (by omega) (by omega)
 rw [e] at e'
 cases e'
 have := World.block_lt_of_cell? w _ hc
 simpa [Addr.add] using this
attribute [local go_sem] Oper.semAt_some
set_option maxHeartbeats 4000000 in
set_option maxRecDepth 100000 in
theorem Weighings_in (A : Option Addr) (c : Nat) (ws : List Int) (load : Int) (w : World) (hr : Kd.C (Kd.int .i64) w A ws.length ws) (hc : ws.length ≤ c) (hB : weighedB ws load = true)
  (hws : ∀ j, j < ws.length → 1 ≤ ws.getD j 0 ∧ ws.getD j 0 ≤ 10000) (hn : ws.length ≤ 10) (hload : 0 ≤ load ∧ load ≤ 10000) :
  CallsIn Fence.wide 9 Try.prog 27 #[.slice A ws.length c, .int .i64 load] w fun e w' => e = .returned (.tuple #[.int .i64 ((wOuts ws [] (-load) 0).length : Int), .int .i64 0]) ∧ Below w.heap.size w w' := by
 refine callsIn_of_wp_marks Try.func27 rfl trivial ?_ rfl
 simp only [Try.ntmps27, List.size_toArray, List.length_cons, List.length_nil, Nat.reduceAdd, Nat.reduceSub, Array.replicate_succ, Array.replicate_zero, List.push_toArray, List.append_toArray, List.nil_append, List.cons_append]
 gi_wp2_with (first | (refine ⟨trivial, ?_⟩; gi_at_call 77; refine (callsIn_wide.2 (puzzles_weighed.calls A c ws load true _ (Kd.C_alloc hr _) hc ((weighed_val ws load).trans (by rw [hB])))).mono ?_; rintro e w' ⟨rfl, ⟨q, rfl⟩⟩) | (refine ⟨trivial, ?_⟩; gi_at_call 81; refine (callsIn_wide.2 (weighings_calls A c ws.length load _)).mono ?_; rintro e w' ⟨rfl, rfl⟩))
 rename_i Q0 K1 hK1
 obtain ⟨W, hW⟩ : ∃ W, ((((w.alloc (Obj.cells #[Value.int IntKind.i64 0] 3)).drewN q).alloc (Obj.cells #[Value.slice A ws.length c] 22)).alloc (Obj.cells #[Value.int IntKind.i64 load] 3)) = W := ⟨_, rfl⟩
 have hz : W.heap.size = w.heap.size + 3 := by rw [← hW]; simp
 have hbel : Below w.heap.size w W := by rw [← hW]; exact ((Same.refl (fun _ => True) w).alloc _ |>.drewN q |>.alloc _ |>.alloc _).below (Nat.le_refl _) (fun _ _ => trivial)
 have hc0 : W.heap[w.heap.size]? = some (.cells #[.int .i64 0] 3 (0, 0)) := by rw [← hW]; exact (three_new w q _ _ _).1
 have hc1 : W.cell? ⟨w.heap.size + 1, 0, none⟩ = some (.slice A ws.length c) := by rw [← hW]; exact blk_cell (three_new w q _ _ _).2.1 0
 have hc2 : W.cell? ⟨w.heap.size + 1 + 1, 0, none⟩ = some (.int .i64 load) := by rw [← hW]; exact blk_cell (three_new w q _ _ _).2.2 0
 have hseq := weigh_seq ws A c load (w.heap.size + 1) (w.heap.size + 1 + 1) W (fun k => k ≠ w.heap.size) hc1 (Kd.C_below hr hbel) hc2 (by omega) (fun ad e hp => by have := row_lt hr ad e hp; omega) hws hn hload
 rw [hW]
 refine wpIn_rangeT (a₁ := fun x => { tmps := #[Value.slice A ws.length c, Value.int IntKind.i64 load, undef, undef, Value.pointer (some { block := w.heap.size, off := 0 }), Value.int IntKind.i64 0, Value.slice A ws.length c,
     Value.int IntKind.i64 load, Value.bool true, Value.bool false, Value.slice A ws.length c, Value.int IntKind.i64 load,
     Value.func (Fn.func 127) #[] #[Value.pointer (some { block := w.heap.size + 1, off := 0 }), Value.pointer (some { block := w.heap.size + 1 + 1, off := 0 })],
     .slice (some ⟨x.1, 0, none⟩) x.2.1.length x.2.1.length, .int .i64 x.2.2, undef, undef, undef], defers := [] }) (by simp [Act.eval]) (fun _ _ => by simp [go_sem]) hseq (fun _ => rfl) ?_ (WnI w.heap.size w) (fun _ _ _ _ => False) (WnI_law _ _ _ _ (by omega) (by omega)) (fun _ _ _ _ _ _ h _ _ => h) ⟨by simpa [wrap64] using hc0, fun _ h => h.elim, hbel⟩ ?_ ?_ ?_ ?_
 ·rintro x A' B o h ho hoc hS
  refine ⟨hS.at_ (fun e => ?_) h.1, h.2⟩
  have h := h.1
  rw [e, ho] at h
  cases h
  cases hoc
 ·intro l x W1 K2 h
  exact wpIn_skip (by simpa [Exit.then, wY] using h)
 ·rintro l pre x D W1 ⟨h1, h2, h3⟩ hrd hD _
  have HI := Aside0.mk (WnI_step _ _ _ x _ _ ⟨h1, h2, h3⟩)
  have HD := Aside0.mk h2
  have hf := blk_frozen h1 0
  have hc := blk_cell h1 0
  have hb : w.heap.size < W1.heap.size := blk_lt h1
  simp only [List.getElem?_toArray, List.getElem?_cons_zero] at hc
  clear hrd hD h1 h2 h3 hseq hc0 hc1 hc2 hbel hW hK1 hr
  gi_wp2
  refine ⟨(Same.refl _ W1).setCell ⟨w.heap.size, 0, none⟩ ?_ _, HI.out⟩
  rintro (h | h | h | ⟨h1, h2⟩) <;> simp only at *
  ·have := HD.out _ h; omega
  ·omega
  ·omega
  ·exact h2 rfl
 ·rintro D xs W1 hxs ⟨h1, h2, h3⟩ hK
  refine hK1 _ _ ?_
  have HB := Aside0.mk h3
  have HX := Aside0.mk hxs
  have HK := Aside0.mk hK
  have hf := blk_frozen h1 0
  have hc := blk_cell h1 0
  simp only [List.getElem?_toArray, List.getElem?_cons_zero] at hc
  have hlt := blk_lt h1
  have HE := Aside0.mk (WnI_end _ _ _ _ _ W.heap.size ⟨h1, h2, h3⟩ (by omega))
  clear h1 h2 h3 hseq hc0 hc1 hc2 hbel hW hK1 hr hxs hK
  gi_wp2
  rw [← hz]
  have hK2 : (W1.setCell ⟨w.heap.size, 0, none⟩ (.int .i64 (wrap64 (xs.length : Int)))).heap[W.heap.size]? = some (.deferred (some [])) := (Below.heap_setCell W1 ⟨w.heap.size, 0, none⟩ _ _ (by show W.heap.size ≠ w.heap.size; omega)).trans HK.out
  refine ⟨by simp, .inl ⟨_, _, rfl, run_takeDeferred hK2, ?_⟩⟩
  obtain ⟨hc5, hb5⟩ := HE.out
  have hX := WS_len ws load xs hn HX.out
  refine ⟨.tuple #[.int .i64 ((wOuts ws [] (-load) 0).length : Int), .int .i64 0], ?_, rfl, hb5⟩
  rw [← hX]
  simp [results, Try.f27, go_sem, hc5]
 ·rintro D c' pre W1 _ h
  exact h.elim

end Go.Proofs.Ytdhiijleafcfcaa.T
