/- slices.Repeat of one number, at most six times. -/
import Derived.Test.YtdhiijleafcfcaaT0
import Derived.Test.YtdhiijleafcfcaaWg
import Derived.Test.YtdhiijleafcfcaaWi
import Derived.Laws.CopyOwn
import Derived.Deep.RegionLaw
namespace Go.Proofs.Ytdhiijleafcfcaa.T
open Go.RowKit Go.Proofs.YtdhiijleafcfcaaW.PrintWords Go.Proofs.YtdhiijleafcfcaaW.PrintLast Go.Proofs.YtdhiijleafcfcaaW.PrintMore
attribute [local go_sem] max2_int min2_int max_two min_two max_three min_three max_four min_four
set_option linter.unusedVariables false
set_option linter.unusedSimpArgs false

set_option maxRecDepth 100000 in
theorem mul64_calls (N : Nat) (h1 : 1 ≤ N) (h6 : N ≤ 6) (w : World) : Calls Try.prog 183 #[.int .u64 1, .int .u64 (N : Int)] w fun e w' => e = .returned (.tuple #[.int .u64 0, .int .u64 (N : Int)]) ∧ Drawn0 w w' := by
 have : N = 1 ∨ N = 2 ∨ N = 3 ∨ N = 4 ∨ N = 5 ∨ N = 6 := by omega
 rcases this with rfl | rfl | rfl | rfl | rfl | rfl
 all_goals
  go_enter Try.func183, Try.ntmps183
  go_wp2
  go_ret2
  exact ⟨rfl, Drawn0.refl _⟩
set_option maxRecDepth 100000 in
theorem mul_calls (N : Nat) (h1 : 1 ≤ N) (h6 : N ≤ 6) (w : World) : Calls Try.prog 173 #[.int .u64 1, .int .u64 (N : Int)] w fun e w' => e = .returned (.tuple #[.int .u64 0, .int .u64 (N : Int)]) ∧ Drawn0 w w' := by
 have H := Aside0.mk (mul64_calls N h1 h6)
 clear h1 h6
 go_enter Try.func173, Try.ntmps173
 go_wp2_with (go_at_call 183; refine (H.out _).mono ?_; rintro e w' ⟨rfl, ⟨q, rfl⟩⟩)
 go_ret2
 exact ⟨rfl, ⟨⟨_, rfl⟩⟩⟩
theorem info3s : (Try.prog.info? 3).map (·.size) = some 1 := by kernel_rfl
/-- The row behind k copies. -/
def rpR (N k : Nat) : List Value := List.replicate k (.int .i64 (-1)) ++ List.replicate (N - k) (.int .i64 0)
def rpM (m : Nat) : List Value := List.replicate m (.int .i64 (-1))
theorem rpR_zero (N : Nat) : rpR N 0 = List.replicate N (.int .i64 0) := by simp [rpR]
theorem rpR_one (N : Nat) (h : 1 ≤ N) : splice (rpR N 0) 0 [.int .i64 (-1)] = rpR N 1 := by
 unfold splice rpR
 cases N with
 | zero => omega
 | succ m => simp [List.replicate_succ]
theorem rpR_step (N k m : Nat) (hm1 : m ≤ N - k) : splice (rpR N k) k (rpM m) = rpR N (k + m) := by
 unfold splice rpR rpM
 have e1 : (List.replicate k (Value.int .i64 (-1)) ++ List.replicate (N - k) (Value.int .i64 0)).take k = List.replicate k (Value.int .i64 (-1)) := by simp
 have e2 : (List.replicate k (Value.int .i64 (-1)) ++ List.replicate (N - k) (Value.int .i64 0)).drop (k + (List.replicate m (Value.int .i64 (-1))).length) = List.replicate (N - (k + m)) (Value.int .i64 0) := by
  have := List.drop_length_add_append (l₁ := List.replicate k (Value.int .i64 (-1))) (l₂ := List.replicate (N - k) (Value.int .i64 0)) m
  rw [List.length_replicate] at this
  rw [List.length_replicate, this, List.drop_replicate, Nat.sub_sub]
 rw [e1, e2, ← List.append_assoc, List.replicate_append_replicate]
theorem rpR_len (N k : Nat) (h : k ≤ N) : (rpR N k).length = N := by simp [rpR]; omega
theorem rpM_len (m : Nat) : (rpM m).length = m := by simp [rpM]
theorem rpM_one (m : Nat) : ∀ v ∈ rpM m, v.oneCell' = true := by
 intro v hv
 rw [List.eq_of_mem_replicate hv]
 rfl
theorem rpR_end (N : Nat) : rpR N N = List.replicate N (.int .i64 (-1)) := by simp [rpR]
theorem rpM_src (N k m g : Nat) (W : World) (h : m ≤ k) (hg : W.heap[g]? = some (.cells (rpR N k).toArray 3 (0, 0))) (j : Nat) (v : Value) (hj : (rpM m)[j]? = some v) : W.cell? ((⟨g, 0, none⟩ : Addr).add j) = some v := by
 obtain ⟨hlt, e⟩ := List.getElem?_eq_some_iff.1 hj
 have hlt' : j < k := by rw [rpM_len] at hlt; omega
 have hc := blk_cell hg j
 rw [show (Addr.add ⟨g, 0, none⟩ j) = ⟨g, j, none⟩ from by unfold Addr.add; split <;> simp_all]
 have hv : v = .int .i64 (-1) := List.eq_of_mem_replicate (show v ∈ List.replicate m (Value.int .i64 (-1)) from e ▸ List.getElem_mem hlt)
 rw [hc, List.getElem?_toArray, hv]
 unfold rpR
 rw [List.getElem?_append_left (by simpa using hlt'), List.getElem?_replicate, if_pos hlt']
set_option maxRecDepth 100000 in
set_option maxHeartbeats 1000000 in
theorem repeat_calls (N : Nat) (h1 : 1 ≤ N) (h6 : N ≤ 6) (b : Nat) (w : World) (hb : w.heap[b]? = some (.cells #[.int .i64 (-1)] 3 (0, 0))) :
  Calls Try.prog 151 #[.slice (some ⟨b, 0, none⟩) 1 1, .int .i64 (N : Int)] w fun e w' => ∃ g, e = .returned (.slice (some ⟨g, 0, none⟩) N N) ∧ w.heap.size ≤ g ∧ w'.heap[g]? = some (.cells (List.replicate N (.int .i64 (-1))).toArray 3 (0, 0)) ∧ Below w.heap.size w w' := by
 have hu22 := Try.underlying22
 have HM := Aside0.mk (mul_calls N h1 h6)
 have hmk := print_make (P := Try.prog) 22 3 .i64 8 Try.underlying22 info3w (by omega) N (by omega)
 simp only [made_list, List.map_replicate] at hmk
 rw [← rpR_zero] at hmk
 have n2 : IntKind.u64.wrap (N : Int) = (N : Int) := by
  have : N = 1 ∨ N = 2 ∨ N = 3 ∨ N = 4 ∨ N = 5 ∨ N = 6 := by omega
  rcases this with rfl | rfl | rfl | rfl | rfl | rfl <;> rfl
 have n3 : IntKind.i64.wrap (N : Int) = (N : Int) := IntWalk.i64_in _ (by omega)
 have hlt := blk_lt hb
 have HG := Aside0.mk (fun q => World.alloc_heap_new (w.drewN q) (.cells (rpR N 0).toArray 3))
 have HBW := Aside0.mk (fun q => below_alloc (pw_below_drewN (Below.refl w.heap.size w) q) (.cells (rpR N 0).toArray 3))
 have HSRC := Aside0.mk (fun q => show ∀ j v, ([Value.int .i64 (-1)] : List Value)[j]? = some v → ((w.drewN q).alloc (.cells (rpR N 0).toArray 3)).cell? ((⟨b, 0, none⟩ : Addr).add j) = some v from fun j v hj => by
  obtain ⟨hj1, e⟩ := List.getElem?_eq_some_iff.1 hj
  obtain rfl : j = 0 := by simpa using hj1
  have := ((HBW.out q).cell (p := ⟨b, 0, none⟩) hlt).trans (blk_cell hb 0)
  simpa [Addr.add] using this.trans (by simp at e; simp [e]))
 have HN := Aside0.mk (show (1 : Nat) = Nat.min 1 N from by simp [Nat.min_def]; omega)
 have HF := Aside0.mk (show 0 + ([Value.int .i64 (-1)] : List Value).length ≤ (rpR N 0).length from by rw [rpR_len _ _ (by omega)]; simpa using h1)
 clear hb hlt
 go_enter Try.func151, Try.ntmps151
 go_wp2_with (first | (go_at_call 173; refine (HM.out _).mono ?_; rintro e w' ⟨rfl, ⟨q, rfl⟩⟩) | (refine wpList_copy_splice rfl (.tmp 31) (.tmp 32) 22 22 rfl 3 hu22 info3s (some ⟨w.heap.size, 0, none⟩) (some ⟨b, 0, none⟩) N N 1 1 rfl rfl w.heap.size 0 (rpR N 0) 3 (HG.out q) [.int .i64 (-1)] HN.out (fun _ => ⟨rfl, _, rfl, HSRC.out q⟩) HF.out (by simp [Value.oneCell']) w.heap.size w (HBW.out q) (Nat.le_refl _) ?_; intro w2 hg2 hb2; have HG2 := Aside0.mk (hg2.trans (by rw [rpR_one N h1])); have HB2 := Aside0.mk hb2; clear hg2 hb2))
 clear HM hmk HG HBW HSRC HN HF n2 n3
 go_loopg [8] N (fun gg s8 wr => ∃ k : Nat, 1 ≤ k ∧ k ≤ N ∧ N - k ≤ gg ∧ s8 = .int .i64 (k : Int) ∧ Aside0 (wr.heap[w.heap.size]? = some (.cells (rpR N k).toArray 3 (0, 0))) ∧ Aside0 (Below w.heap.size w wr))
 case atStart => exact ⟨1, Nat.le_refl _, h1, by omega, rfl, HG2, HB2⟩
 case round =>
  clear HG2 HB2
  obtain ⟨k, hk1, hkN, hgg, rfl, HG, HB⟩ := hrel
  by_cases hlt : k < N
  ·have hltz : (k : Int) < (N : Int) := by omega
   have hne : N ≠ k := by omega
   obtain ⟨m, hm⟩ : ∃ m, Nat.min k (N - k) = m := ⟨_, rfl⟩
   have hm1 : m ≤ k := by rw [← hm]; exact Nat.min_le_left _ _
   have hm2 : m ≤ N - k := by rw [← hm]; exact Nat.min_le_right _ _
   have hm3 : 1 ≤ m := by rw [← hm]; exact Nat.le_min.2 ⟨hk1, by omega⟩
   have w1 : IntKind.i64.wrap ((k : Int) + (m : Int)) = ((k + m : Nat) : Int) := by
    rw [IntWalk.i64_in _ (by omega)]
    omega
   have HL := Aside0.mk (show k + (rpM m).length ≤ (rpR N k).length from by rw [rpR_len N k hkN, rpM_len]; omega)
   have HM := Aside0.mk (show (rpM m).length = Nat.min k (N - k) from by rw [rpM_len, hm])
   have HG2 := Aside0.mk (show wr.drew.heap[w.heap.size]? = _ from HG.out)
   have HB2 := Aside0.mk (show Below w.heap.size w wr.drew from below_drew HB.out)
   have HS2 := Aside0.mk (fun j v => rpM_src N k m w.heap.size wr.drew hm1 HG2.out j v)
   have HML := Aside0.mk (rpM_len m)
   clear hm HG HB
   go_wp2_with (go_region_law (refine step_copy_splice rfl (.tmp 41) (.tmp 44) 22 22 rfl 3 hu22 info3s (some ⟨w.heap.size, k, none⟩) (some ⟨w.heap.size, 0, none⟩) (N - k) (N - k) k N (by simp [Act.eval, Act.put, hne]) (by simp [Act.eval, Act.put]) w.heap.size k (rpR N k) 3 HG2.out (rpM m) HM.out (fun _ => ⟨rfl, _, rfl, HS2.out⟩) HL.out (rpM_one m) w.heap.size w HB2.out (Nat.le_refl _) ?_; intro w4 hg4 hb4; rw [HML.out]))
   all_goals
    have HG4 := Aside0.mk (hg4.trans (by rw [rpR_step N k m hm2]))
    have HB4 := Aside0.mk hb4
    clear hg4 hb4
    go_simp
    go_roundg (N - (k + m))
    case measure => omega
    case rel => exact ⟨k + m, by omega, by omega, by omega, by first | rfl | exact congrArg _ w1, HG4, HB4⟩
  ·have hltz : ¬ (k : Int) < (N : Int) := by omega
   obtain rfl : k = N := by omega
   go_wp2
   go_ret
   refine ⟨w.heap.size, rfl, Nat.le_refl _, ?_, HB.out⟩
   rw [HG.out, rpR_end, List.toArray_replicate]

end Go.Proofs.Ytdhiijleafcfcaa.T
