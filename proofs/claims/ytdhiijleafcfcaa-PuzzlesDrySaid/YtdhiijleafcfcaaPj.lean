/- The iterator of all turns that solve pipes keeps its contract. -/
import Derived.Test.YtdhiijleafcfcaaT0
import Derived.Test.YtdhiijleafcfcaaPi
namespace Go.Proofs.Ytdhiijleafcfcaa.T
open Go.RowKit Go.Proofs.YtdhiijleafcfcaaW.PrintWords Go.Proofs.YtdhiijleafcfcaaW.PrintLast Go.Proofs.YtdhiijleafcfcaaW.PrintMore
attribute [local go_sem] max2_int min2_int max_two min_two max_three min_three max_four min_four
set_option linter.unusedVariables false
set_option linter.unusedSimpArgs false

theorem five_new (W : World) (a b c d e : Obj) : (((((W.alloc a).alloc b).alloc c).alloc d).alloc e).heap[W.heap.size]? = some a ∧ (((((W.alloc a).alloc b).alloc c).alloc d).alloc e).heap[W.heap.size + 1]? = some b ∧
  (((((W.alloc a).alloc b).alloc c).alloc d).alloc e).heap[W.heap.size + 1 + 1]? = some c ∧ (((((W.alloc a).alloc b).alloc c).alloc d).alloc e).heap[W.heap.size + 1 + 1 + 1]? = some d ∧ (((((W.alloc a).alloc b).alloc c).alloc d).alloc e).heap[W.heap.size + 1 + 1 + 1 + 1]? = some e := by
 obtain ⟨q1, q2, q3, q4⟩ := four_new W a b c d
 have n5 := World.alloc_heap_new ((((W.alloc a).alloc b).alloc c).alloc d) e
 simp only [World.size_alloc] at n5
 refine ⟨?_, ?_, ?_, ?_, n5⟩
 ·rw [heap_alloc_old _ _ _ (blk_lt q1)]; exact q1
 ·rw [heap_alloc_old _ _ _ (blk_lt q2)]; exact q2
 ·rw [heap_alloc_old _ _ _ (blk_lt q3)]; exact q3
 ·rw [heap_alloc_old _ _ _ (blk_lt q4)]; exact q4
def PS (F : List Int → Bool) (n : Nat) (xs : List WX) : Prop := ∃ g, xs = wTag g (pOuts F n [] 0)
def PSp (F : List Int → Bool) (n : Nat) (xs : List WX) : Prop := ∃ g, xs <+: wTag g (pOuts F n [] 0)
set_option maxHeartbeats 4000000 in
set_option maxRecDepth 100000 in
theorem plumb_seq (a0 a1 : Int) (pc : List Int) (a3 a4 : Int) (A : Option Addr) (c : Nat) (F : List Int → Bool) (w : World) (K : Nat → Prop)
  (hr : Kd.C (Kd.int .i64) w A pc.length pc) (hKA : ∀ ad, A = some ad → 0 < pc.length → K ad.block) (hF : Solv F a0 a1 pc a3 a4) (hc : pc.length ≤ c) (hn : pc.length ≤ 10) (h4 : 0 ≤ a4 ∧ a4 < pc.length) :
  SeqC Try.prog 102 #[.agg #[.int .i64 a0, .int .i64 a1, .int .i64 a0, .int .i64 a1, .slice A pc.length c, .int .i64 a3, .int .i64 a4]] #[] (fun k => k < w.heap.size ∧ K k) wY wRd (PS F pc.length) (PSp F pc.length) w := by
 intro m l J Jx W hb hJ hJx hY h0
 refine callsIn_wide.2 ?_
 show Calls Try.prog 102 #[.agg #[.int .i64 a0, .int .i64 a1, .int .i64 a0, .int .i64 a1, .slice A pc.length c, .int .i64 a3, .int .i64 a4], .func (.yield l) #[] #[]] W _
 have hu50 := Try.underlying50
 have hu115 := Try.underlying115
 have hbA : ∀ ad, A = some ad → 0 < pc.length → ad.block < w.heap.size := fun ad e hpos => row_lt hr ad e hpos
 have hr1 := Kd.C_below hr hb
 have hz := hb.size
 obtain ⟨D, hD⟩ : ∃ D : Nat → Prop, ∀ k, D k ↔ k = W.heap.size ∨ k = W.heap.size + 1 ∨ k = W.heap.size + 1 + 1 + 1 ∨ k = W.heap.size + 1 + 1 + 1 + 1 ∨ k = W.heap.size + 1 + 1 := ⟨_, fun k => Iff.rfl⟩
 have hA : PApart pc A W.heap.size (W.heap.size + 1) (W.heap.size + 1 + 1 + 1) (W.heap.size + 1 + 1 + 1 + 1) (W.heap.size + 1 + 1) D (fun k => k < w.heap.size ∧ K k) :=
  ⟨fun ad e hp => .inr ⟨hbA ad e hp, hKA ad e hp⟩, (hD _).2 (.inl rfl), (hD _).2 (.inr (.inl rfl)), (hD _).2 (.inr (.inr (.inl rfl))), (hD _).2 (.inr (.inr (.inr (.inl rfl)))), (hD _).2 (.inr (.inr (.inr (.inr rfl)))), fun ad e hp => by have := hbA ad e hp; omega, by omega, by omega, by omega, by omega⟩
 have hYl : WYields l J Jx D (fun k => k < w.heap.size ∧ K k) W.heap.size := fun n pre x W1 hj hrd hd => hY n pre x D W1 hj hrd hd
 obtain ⟨W4, hW4⟩ : ∃ W4 : World, W4 = (((((W.alloc (.cells #[.int .i64 a0, .int .i64 a1, .int .i64 a0, .int .i64 a1, .slice A pc.length c, .int .i64 a3, .int .i64 a4] 115)).alloc (.cells #[.func (.yield l) #[] #[]] 28)).alloc (.cells (Array.replicate pc.length (Value.int .i64 0)) 3)).alloc (.cells #[.slice (some ⟨W.heap.size + 1 + 1, 0, none⟩) pc.length pc.length] 22)).alloc (.cells #[.func (.func 140) #[] #[.pointer (some ⟨W.heap.size + 1 + 1 + 1, 0, none⟩), .pointer (some ⟨W.heap.size, 0, none⟩), .pointer (some ⟨W.heap.size + 1, 0, none⟩), .pointer (some ⟨W.heap.size + 1 + 1 + 1 + 1, 0, none⟩)]] 148)) := ⟨_, rfl⟩
 have hS4 : Same (fun _ => True) W W4 := by rw [hW4]; exact (((((Same.refl _ W).alloc _).alloc _).alloc _).alloc _).alloc _
 have hJ4 : J [] D W4 := hJ _ _ _ _ _ h0 (hS4.mono fun _ _ _ => trivial) (fun k hk => by rcases (hD k).1 hk with h | h | h | h | h <;> (right; omega))
 have hE4 : PEnv a0 a1 pc a3 a4 A c W.heap.size (W.heap.size + 1) (W.heap.size + 1 + 1 + 1) (W.heap.size + 1 + 1 + 1 + 1) (W.heap.size + 1 + 1) l W4 (List.replicate pc.length 0) := by
  obtain ⟨q1, q2, q3, q4, q5⟩ := five_new W (.cells #[.int .i64 a0, .int .i64 a1, .int .i64 a0, .int .i64 a1, .slice A pc.length c, .int .i64 a3, .int .i64 a4] 115) (.cells #[.func (.yield l) #[] #[]] 28) (.cells (Array.replicate pc.length (Value.int .i64 0)) 3) (.cells #[.slice (some ⟨W.heap.size + 1 + 1, 0, none⟩) pc.length pc.length] 22) (.cells #[.func (.func 140) #[] #[.pointer (some ⟨W.heap.size + 1 + 1 + 1, 0, none⟩), .pointer (some ⟨W.heap.size, 0, none⟩), .pointer (some ⟨W.heap.size + 1, 0, none⟩), .pointer (some ⟨W.heap.size + 1 + 1 + 1 + 1, 0, none⟩)]] 148)
  rw [← hW4] at q1 q2 q3 q4 q5
  exact ⟨q1, hS4.reads hr1 (fun _ _ _ => trivial), blk_cell q2 0, blk_cell q4 0, blk_cell q5 0, by rw [q3]; simp, by simp⟩
 have hcall := pnext_calls hA hD (by omega) hJ hYl hF hc hn h4 pc.length 0 0 [] (List.replicate pc.length 0) W4 (by omega) hJ4 hE4 (by simp) (by omega) (by omega)
 simp only [List.take_zero] at hcall
 rw [hW4] at hcall
 have hmk := print_make (P := Try.prog) 22 3 .i64 8 Try.underlying22 info3w (by omega) pc.length (by omega)
 simp only [made_list, List.map_replicate, List.toArray_replicate] at hmk
 have HCALL := Aside0.mk hcall
 clear hcall hW4 hE4 hJ4 hS4 hYl hA hD hr1 hr hJ hJx hY h0 hKA hbA hb hF
 go_enter Try.func102, Try.ntmps102
 go_wp2_with (go_at_call 140; refine HCALL.out.mono ?_; rintro e w' ⟨b, rfl, HN⟩)
 go_end0
 cases b with
 | true =>
  obtain ⟨hJ5, _⟩ := HN.yes rfl
  exact ⟨⟨_, rfl⟩, .inl ⟨D, _, ⟨W.heap.size + 1 + 1, rfl⟩, by simpa using hJ5⟩⟩
 | false =>
  obtain ⟨q, hq, hx⟩ := HN.no rfl
  exact ⟨⟨_, rfl⟩, .inr ⟨D, q, ⟨W.heap.size + 1 + 1, hq⟩, by simpa using hx⟩⟩

end Go.Proofs.Ytdhiijleafcfcaa.T
