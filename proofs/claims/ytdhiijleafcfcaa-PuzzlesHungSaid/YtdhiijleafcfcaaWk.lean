/- The look at the examples: it answers true. -/
import Derived.Test.YtdhiijleafcfcaaT0
import Derived.Test.YtdhiijleafcfcaaTk
import Derived.Test.YtdhiijleafcfcaaTn
import Derived.Test.YtdhiijleafcfcaaTw
import Derived.Test.YtdhiijleafcfcaaWe
namespace Go.Proofs.Ytdhiijleafcfcaa.T
open Go.RowKit Go.Proofs.YtdhiijleafcfcaaW.PrintWords Go.Proofs.YtdhiijleafcfcaaW.PrintLast Go.Proofs.YtdhiijleafcfcaaW.PrintMore
attribute [local go_sem] max2_int min2_int max_two min_two max_three min_three max_four min_four
set_option linter.unusedVariables false
set_option linter.unusedSimpArgs false

def padlocklaw03_works.f (_ : Nat) : Option Bool := some true
theorem padlocklaw03_works.mono : ∀ k, LeO (padlocklaw03_works.f k) (padlocklaw03_works.f (k + 1)) := fun _ => LeO.refl _
theorem works_shift : puzzles_Shift.f (⟨#[107, 101, 121, 32, 116, 111, 32, 114, 101, 100]⟩ : ByteArray) 3 = some (⟨#[110, 104, 98, 32, 119, 114, 32, 117, 104, 103]⟩, 0) := by kernel_rfl
theorem works_weigh : puzzles_Weigh.f [1, 3, 9] 5 = some ([-1, -1, 1], 0) := by kernel_rfl
theorem works_next : puzzles_Next.f 30 [1, 4, 9, 16] = some (25, 2, 0) := by kernel_rfl
theorem works_same : padlocklaw03_sameInts.f 30 [-1, -1, 1] [-1, -1, 1] = some true := by kernel_rfl
theorem works24 (W : World) (o : Nat) (h : W.heap[o]? = some (.cells #[.int .i64 1, .int .i64 3, .int .i64 9] 3 (0, 0))) : Calls Try.prog 24 #[.slice (some ⟨o, 0, none⟩) 3 3, .int .i64 5] W fun e w' => ∃ v0_ : Value, e = .returned (.tuple #[v0_, .int .i64 0]) ∧ Kd.R (Kd.int .i64) 3 w' W.heap.size (fun _ => True) v0_ [-1, -1, 1] ∧ Below W.heap.size W w' :=
 puzzles_Weigh.calls (some ⟨o, 0, none⟩) 3 [1, 3, 9] 5 [-1, -1, 1] 0 W (wRd_C (o, [1, 3, 9], 0) W ⟨h, by simp⟩) (Nat.le_refl _) works_weigh
theorem works19 (W : World) (o : Nat) (h : W.heap[o]? = some (.cells #[.int .i64 1, .int .i64 4, .int .i64 9, .int .i64 16] 3 (0, 0))) : Calls Try.prog 19 #[.slice (some ⟨o, 0, none⟩) 4 4] W fun e w' => e = .returned (.tuple #[.int .i64 25, .int .i64 2, .int .i64 0]) ∧ Below W.heap.size W w' :=
 puzzles_Next.calls 30 (some ⟨o, 0, none⟩) 4 [1, 4, 9, 16] 25 2 0 W (wRd_C (o, [1, 4, 9, 16], 0) W ⟨h, by simp⟩) (Nat.le_refl _) works_next
theorem works26 (W : World) (A : Option Addr) (c : Nat) (hA : Kd.C (Kd.int .i64) W A 3 [-1, -1, 1]) (hc : 3 ≤ c) (o : Nat) (h : W.heap[o]? = some (.cells #[.int .i64 (-1), .int .i64 (-1), .int .i64 1] 3 (0, 0))) : Calls Try.prog 26 #[.slice A 3 c, .slice (some ⟨o, 0, none⟩) 3 3] W fun e w' => e = .returned (.bool true) ∧ Drawn0 W w' :=
 padlocklaw03_sameInts.calls 30 A c [-1, -1, 1] (some ⟨o, 0, none⟩) 3 [-1, -1, 1] true W hA hc (wRd_C (o, [-1, -1, 1], 0) W ⟨h, by simp⟩) (Nat.le_refl _) works_same
set_option maxHeartbeats 4000000 in
set_option maxRecDepth 100000 in
theorem padlocklaw03_works.calls (k : Nat) (r : Bool) (w : World) (h : padlocklaw03_works.f k = some r) :
  Calls Try.prog 21 #[] w fun e w' => e = .returned (.bool r) ∧ Below w.heap.size w w' := by
 cases h
 have H1 := Aside0.mk works_shift
 go_enter Try.func21, Try.ntmps21
 go_wp2_with (first
  | (go_at_call 60; refine Calls.mono (puzzles_Shift.calls _ 3 _ 0 _ H1.out) ?_; rintro e w1 ⟨rfl, hb⟩; have HB1 := Aside0.mk hb; clear hb)
  | (go_at_call 24; refine Calls.mono (works24 _ _ (World.alloc_heap_new _ _)) ?_; rintro e w2 ⟨v2, rfl, hR2, hb⟩; obtain ⟨A2, c2, rfl⟩ := Kd.R_slice hR2; have HR2 := Aside0.mk hR2; have HB2 := Aside0.mk hb; simp only [List.length_cons, List.length_nil, Nat.zero_add, Nat.reduceAdd]; clear hb hR2)
  | (go_at_call 19; refine Calls.mono (works19 _ _ (World.alloc_heap_new _ _)) ?_; rintro e w3 ⟨rfl, hb⟩; have HB3 := Aside0.mk hb; clear hb)
  | (go_at_call 26; refine Calls.mono (works26 _ _ _ (Kd.C_alloc (Kd.C_below (Kd.C_alloc (Kd.R_reads' HR2.out).2.2 _) HB3.out) _) (Kd.R_reads' HR2.out).2.1 _ (World.alloc_heap_new _ _)) ?_; rintro e w4 ⟨rfl, ⟨q, rfl⟩⟩))
 go_ret
 exact ⟨rfl, pw_below_drewN (below_alloc (Below.trans (below_alloc (Below.trans (below_alloc HB1.out _) (HB2.out.mono (by have := HB1.out.size; simp; omega))) _) (HB3.out.mono (by have := HB1.out.size; have := HB2.out.size; simp at *; omega))) _) q⟩

end Go.Proofs.Ytdhiijleafcfcaa.T
