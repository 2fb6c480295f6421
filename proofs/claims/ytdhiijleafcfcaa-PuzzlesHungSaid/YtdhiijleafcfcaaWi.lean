/- The iterator of all weighings keeps its contract. -/
import Derived.Test.YtdhiijleafcfcaaT0
import Derived.Test.YtdhiijleafcfcaaWg
import Derived.Test.YtdhiijleafcfcaaCf
import Derived.Test.YtdhiijleafcfcaaCl
import Derived.Test.YtdhiijleafcfcaaT0
import Derived.Laws.EntriesVeiled
namespace Go.Proofs.Ytdhiijleafcfcaa.T
open Go.RowKit Go.Proofs.YtdhiijleafcfcaaW.PrintWords Go.Proofs.YtdhiijleafcfcaaW.PrintLast Go.Proofs.YtdhiijleafcfcaaW.PrintMore
attribute [local go_sem] max2_int min2_int max_two min_two max_three min_three max_four min_four
set_option linter.unusedVariables false
set_option linter.unusedSimpArgs false

theorem info3w : (Try.prog.info? 3).map (fun i => (i.zero, i.size, i.bytes)) = some (some (.int .i64 0), 1, 8) := by kernel_rfl
theorem made_list (m : Nat) : madeCells #[Value.int .i64 0] m = ((List.replicate m (0 : Int)).map (Value.int .i64)).toArray := by
 apply Array.ext'
 apply List.ext_getElem
 ·simp [madeCells]
 ·intro i h1 h2
  simp [madeCells, Nat.mod_one]
theorem heap_alloc_old (W : World) (o : Obj) (k : Nat) (h : k < W.heap.size) : (W.alloc o).heap[k]? = W.heap[k]? := Below.heap_alloc W o k h
theorem four_new (W : World) (a b c d : Obj) : ((((W.alloc a).alloc b).alloc c).alloc d).heap[W.heap.size]? = some a ∧ ((((W.alloc a).alloc b).alloc c).alloc d).heap[W.heap.size + 1]? = some b ∧
  ((((W.alloc a).alloc b).alloc c).alloc d).heap[W.heap.size + 1 + 1]? = some c ∧ ((((W.alloc a).alloc b).alloc c).alloc d).heap[W.heap.size + 1 + 1 + 1]? = some d := by
 have n1 := World.alloc_heap_new W a
 have n2 := World.alloc_heap_new (W.alloc a) b
 have n3 := World.alloc_heap_new ((W.alloc a).alloc b) c
 have n4 := World.alloc_heap_new (((W.alloc a).alloc b).alloc c) d
 simp only [World.size_alloc] at n2 n3 n4
 refine ⟨?_, ?_, ?_, n4⟩
 ·rw [heap_alloc_old _ _ _ (by simp; omega), heap_alloc_old _ _ _ (by simp; omega), heap_alloc_old _ _ _ (by simp)]; exact n1
 ·rw [heap_alloc_old _ _ _ (by simp), heap_alloc_old _ _ _ (by simp)]; exact n2
 ·rw [heap_alloc_old _ _ _ (by simp)]; exact n3
def WS (ws : List Int) (load : Int) (xs : List WX) : Prop := ∃ g, xs = wTag g (wOuts ws [] (-load) 0)
def WSp (ws : List Int) (load : Int) (xs : List WX) : Prop := ∃ g, xs <+: wTag g (wOuts ws [] (-load) 0)
set_option maxHeartbeats 4000000 in
set_option maxRecDepth 100000 in
theorem weigh_seq (ws : List Int) (A : Option Addr) (c : Nat) (load : Int) (Bw Bl : Nat) (w : World) (K : Nat → Prop)
  (hw : w.cell? ⟨Bw, 0, none⟩ = some (.slice A ws.length c)) (hr : Kd.C (Kd.int .i64) w A ws.length ws) (hl : w.cell? ⟨Bl, 0, none⟩ = some (.int .i64 load))
  (hKw : K Bw) (hKA : ∀ ad, A = some ad → 0 < ws.length → K ad.block)
  (hws : ∀ j, j < ws.length → 1 ≤ ws.getD j 0 ∧ ws.getD j 0 ≤ 10000) (hn : ws.length ≤ 10) (hload : 0 ≤ load ∧ load ≤ 10000) :
  SeqC Try.prog 127 #[] #[.pointer (some ⟨Bw, 0, none⟩), .pointer (some ⟨Bl, 0, none⟩)] (fun k => k < w.heap.size ∧ K k) wY wRd (WS ws load) (WSp ws load) w := by
 intro m l J Jx W hb hJ hJx hY h0
 refine callsIn_wide.2 ?_
 show Calls Try.prog 127 #[.func (.yield l) #[] #[], .pointer (some ⟨Bw, 0, none⟩), .pointer (some ⟨Bl, 0, none⟩)] W _
 have hBw := World.block_lt_of_cell? w _ hw
 have hBl := World.block_lt_of_cell? w _ hl
 simp only at hBw hBl
 have hbA : ∀ ad, A = some ad → 0 < ws.length → ad.block < w.heap.size := fun ad e hpos => by
  obtain ⟨ad', e', hc⟩ := Kd.at_int hr 0 (by omega) (by omega)
  rw [e] at e'
  cases e'
  have := World.block_lt_of_cell? w _ hc
  simpa [Addr.add] using this
 have hw1 := (hb.cell (p := ⟨Bw, 0, none⟩) hBw).trans hw
 have hl1 := (hb.cell (p := ⟨Bl, 0, none⟩) hBl).trans hl
 have hr1 := Kd.C_below hr hb
 have hz := hb.size
 have hBw1 : Bw < W.heap.size := by omega
 have hBl1 : Bl < W.heap.size := by omega
 have b1 : Bl < W.heap.size + 1 := by omega
 have b2 : Bl < W.heap.size + 1 + 1 := by omega
 have b3 : Bl < W.heap.size + 1 + 1 + 1 := by omega
 obtain ⟨D, hD⟩ : ∃ D : Nat → Prop, ∀ k, D k ↔ k = W.heap.size ∨ k = W.heap.size + 1 + 1 ∨ k = W.heap.size + 1 + 1 + 1 ∨ k = W.heap.size + 1 :=
  ⟨fun k => k = W.heap.size ∨ k = W.heap.size + 1 + 1 ∨ k = W.heap.size + 1 + 1 + 1 ∨ k = W.heap.size + 1, fun k => Iff.rfl⟩
 have hA : WApart ws A Bw W.heap.size (W.heap.size + 1 + 1) (W.heap.size + 1 + 1 + 1) (W.heap.size + 1) D (fun k => k < w.heap.size ∧ K k) :=
  ⟨.inr ⟨hBw, hKw⟩, fun ad e hp => .inr ⟨hbA ad e hp, hKA ad e hp⟩, (hD _).2 (.inl rfl), (hD _).2 (.inr (.inl rfl)), (hD _).2 (.inr (.inr (.inl rfl))), (hD _).2 (.inr (.inr (.inr rfl))), by omega, fun ad e hp => by have := hbA ad e hp; omega, by omega, by omega, by omega⟩
 have hYl : WYields l J Jx D (fun k => k < w.heap.size ∧ K k) W.heap.size := fun n pre x W1 hj hrd hd => hY n pre x D W1 hj hrd hd
 obtain ⟨W4, hW4⟩ : ∃ W4 : World, W4 = ((((W.alloc (.cells #[.func (.yield l) #[] #[]] 28)).alloc (.cells (Array.replicate ws.length (Value.int .i64 0)) 3)).alloc (.cells #[.slice (some ⟨W.heap.size + 1, 0, none⟩) ws.length ws.length] 22)).alloc (.cells #[.func (.func 128) #[] #[.pointer (some ⟨Bw, 0, none⟩), .pointer (some ⟨W.heap.size, 0, none⟩), .pointer (some ⟨W.heap.size + 1 + 1, 0, none⟩), .pointer (some ⟨W.heap.size + 1 + 1 + 1, 0, none⟩)]] 87)) := ⟨_, rfl⟩
 have hS4 : Same (fun _ => True) W W4 := by rw [hW4]; exact ((((Same.refl _ W).alloc _).alloc _).alloc _).alloc _
 have hJ4 : J [] D W4 := hJ _ _ _ _ _ h0 (hS4.mono fun _ _ _ => trivial) (fun k hk => by rcases (hD k).1 hk with h | h | h | h <;> (right; omega))
 have hE4 : WEnv ws A c Bw W.heap.size (W.heap.size + 1 + 1) (W.heap.size + 1 + 1 + 1) (W.heap.size + 1) l W4 (List.replicate ws.length 0) := by
  obtain ⟨q1, q2, q3, q4⟩ := four_new W (.cells #[.func (.yield l) #[] #[]] 28) (.cells (Array.replicate ws.length (Value.int .i64 0)) 3) (.cells #[.slice (some ⟨W.heap.size + 1, 0, none⟩) ws.length ws.length] 22) (.cells #[.func (.func 128) #[] #[.pointer (some ⟨Bw, 0, none⟩), .pointer (some ⟨W.heap.size, 0, none⟩), .pointer (some ⟨W.heap.size + 1 + 1, 0, none⟩), .pointer (some ⟨W.heap.size + 1 + 1 + 1, 0, none⟩)]] 87)
  rw [← hW4] at q1 q2 q3 q4
  exact ⟨hS4.cell trivial hw1, hS4.reads hr1 (fun _ _ _ => trivial), blk_cell q1 0, blk_cell q3 0, blk_cell q4 0, by rw [q2]; simp, by simp⟩
 have hcall := next_calls hA hD (by omega) hJ hYl hws hn ws 0 (-load) 0 [] (List.replicate ws.length 0) W4 (by simp) (by omega) hJ4 hE4 (by omega) (by omega) (by omega) (by omega)
 simp only [List.take_zero] at hcall
 rw [hW4] at hcall
 have hmk := print_make (P := Try.prog) 22 3 .i64 8 Try.underlying22 info3w (by omega) ws.length (by omega)
 simp only [made_list, List.map_replicate, List.toArray_replicate] at hmk
 have HCALL := Aside0.mk hcall
 clear hcall hW4 hE4 hJ4 hS4 hYl hA hD hr1 hr hJ hJx hY h0 hws hKA hbA hb hw hl
 go_enter Try.func127, Try.ntmps127
 go_wp2_with (go_at_call 128; refine HCALL.out.mono ?_; rintro e w' ⟨b, rfl, HN⟩)
 go_end0
 cases b with
 | true =>
  obtain ⟨hJ5, _⟩ := HN.yes rfl
  exact ⟨⟨_, rfl⟩, .inl ⟨D, _, ⟨W.heap.size + 1, rfl⟩, by simpa using hJ5⟩⟩
 | false =>
  obtain ⟨q, hq, hx⟩ := HN.no rfl
  exact ⟨⟨_, rfl⟩, .inr ⟨D, q, ⟨W.heap.size + 1, hq⟩, by simpa using hx⟩⟩

end Go.Proofs.Ytdhiijleafcfcaa.T
