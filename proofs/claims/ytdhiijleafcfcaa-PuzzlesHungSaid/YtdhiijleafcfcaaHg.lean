/- Hang and Hangings, in the print's form. -/
import Derived.Test.YtdhiijleafcfcaaT0
import Derived.Test.YtdhiijleafcfcaaHm
namespace Go.Proofs.Ytdhiijleafcfcaa.T
open Go.RowKit Go.Proofs.YtdhiijleafcfcaaW.PrintWords Go.Proofs.YtdhiijleafcfcaaW.PrintLast Go.Proofs.YtdhiijleafcfcaaW.PrintMore
attribute [local go_sem] max2_int min2_int max_two min_two max_three min_three max_four min_four
set_option linter.unusedVariables false
set_option linter.unusedSimpArgs false

def hangO (n : Int) (l : List S76) : List (List Int) := hOuts n.toNat (okH n.toNat l) n.toNat []
def puzzles_Hangings.f (k : Nat) (a0 : Int) (l1 : List S76) : Option (Int × Int) := some (if cpB a0 l1 = 0 then (((hangO a0 l1).length : Int), 0) else (0, cpB a0 l1))
def puzzles_Hang.f (k : Nat) (a0 : Int) (l1 : List S76) (a2 : Int) : Option (List (List Int) × Int) :=
 some (if cpB a0 l1 = 0 then (if inR 1 64 a2 = true then ((hangO a0 l1).take a2.toNat, 0) else ([], 1)) else ([], cpB a0 l1))
theorem puzzles_Hangings.mono : ∀ a0 a1 k, LeO (puzzles_Hangings.f k a0 a1) (puzzles_Hangings.f (k + 1) a0 a1) := fun _ _ _ => LeO.refl _
theorem puzzles_Hang.mono : ∀ a0 a1 a2 k, LeO (puzzles_Hang.f k a0 a1 a2) (puzzles_Hang.f (k + 1) a0 a1 a2) := fun _ _ _ _ => LeO.refl _
theorem cpB_ok {n : Int} {l : List S76} (h : cpB n l = 0) : 1 ≤ n ∧ n ≤ 6 ∧ (∀ s ∈ l, saidB s n = true) ∧ l.length ≤ 20 := by
 unfold cpB at h
 split at h
 ·rename_i h1
  have hn : 1 ≤ n ∧ n ≤ 6 := by simpa [inR] using h1
  split at h
  ·cases h
  ·rename_i h2
   split at h
   ·cases h
   ·rename_i h3
    refine ⟨hn.1, hn.2, fun s hs => ?_, by omega⟩
    cases hq : saidB s n with
    | true => rfl
    | false => exact absurd (List.any_eq_true.2 ⟨s, hs, by rw [hq]; rfl⟩) h3
 ·cases h
theorem box_one {w w1 : World} {o1 : Obj} (hb : Below (w.alloc o1).heap.size (w.alloc o1) w1) : w1.heap[w.heap.size]? = some o1 := (hb.block w.heap.size (by simp)).trans (World.alloc_heap_new w o1)
theorem box_end1 {w w1 : World} {o1 : Obj} (hb : Below (w.alloc o1).heap.size (w.alloc o1) w1) (v : Value) : Below w.heap.size w (w1.setCell ⟨w.heap.size, 0, none⟩ v) :=
 Below.trans (Below.trans (below_alloc (Below.refl _ _) _) (hb.mono (by simp))) (((Same.refl (fun k => k < w.heap.size) w1).setCell ⟨w.heap.size, 0, none⟩ (by simp) v).below (by have := hb.size; simp at this; omega) (fun k hk => hk))
theorem box_two' {w w1 : World} {o1 o2 : Obj} (hb : Below ((w.alloc o1).alloc o2).heap.size ((w.alloc o1).alloc o2) w1) : w1.heap[w.heap.size + 1]? = some o2 := by
 have := World.alloc_heap_new (w.alloc o1) o2
 rw [World.size_alloc] at this
 exact (hb.block (w.heap.size + 1) (by simp)).trans this
theorem blk_up {w w1 : World} {o1 o2 : Obj} (hb : Below ((w.alloc o1).alloc o2).heap.size ((w.alloc o1).alloc o2) w1) : w1.heap[w.heap.size]? = some o1 := by
 refine (hb.block w.heap.size (by simp; omega)).trans ?_
 rw [heap_alloc_old _ _ _ (by simp)]
 exact World.alloc_heap_new w o1
theorem box_end2 {w w1 : World} {o1 o2 : Obj} (hb : Below ((w.alloc o1).alloc o2).heap.size ((w.alloc o1).alloc o2) w1) (v : Value) : Below w.heap.size w (w1.setCell ⟨w.heap.size + 1, 0, none⟩ v) :=
 Below.trans (Below.trans (below_alloc (below_alloc (Below.refl _ _) _) _) (hb.mono (by simp; omega))) (((Same.refl (fun k => k < w.heap.size) w1).setCell ⟨w.heap.size + 1, 0, none⟩ (by simp) v).below (by have := hb.size; simp at this; omega) (fun k hk => hk))
set_option maxRecDepth 100000 in
set_option maxHeartbeats 2000000 in
theorem puzzles_Hangings.calls (k : Nat) (a0 : Int) (A1 : Option Addr) (c1 : Nat) (l1 : List S76) (r1 : Int) (r2 : Int) (w : World) (hr1 : Kd.C k76 w A1 l1.length l1) (hc1 : l1.length ≤ c1) (h : puzzles_Hangings.f k a0 l1 = some (r1, r2)) :
  Calls Try.prog 56 #[.int .i64 a0, .slice A1 l1.length c1] w fun e w' => e = .returned (.tuple #[.int .i64 r1, .int .i64 r2]) ∧ Below w.heap.size w w' := by
 unfold puzzles_Hangings.f at h
 replace h := Option.some.inj h
 by_cases hB : cpB a0 l1 = 0
 ·rw [if_pos hB] at h
  cases h
  obtain ⟨h1, h6, hs, _⟩ := cpB_ok hB
  have e : ((a0.toNat : Nat) : Int) = a0 := Int.toNat_of_nonneg (by omega)
  have := Hangings_in a0.toNat A1 c1 l1 w hr1 hc1 (by omega) (by omega) (by rw [e]; exact hB) (by rw [e]; exact hs)
  rw [e] at this
  exact callsIn_wide.1 this
 ·rw [if_neg hB] at h
  cases h
  have HM := Aside0.mk (checkPortraits_calls a0 A1 c1 l1 _ (Kd.C_alloc hr1 (.cells #[.int .i64 0] 3)) hc1)
  have hne : (cpB a0 l1 != 0) = true := by simpa using hB
  clear hr1 hc1
  generalize cpB a0 l1 = z at HM hB hne ⊢
  go_enter Try.func56, Try.ntmps56
  go_wp2_with (go_at_call 112; refine Calls.mono HM.out ?_; rintro e w1 ⟨rfl, hb⟩; have HB := Aside0.mk hb; have hn0 := box_one hb; have hc0 := blk_cell hn0 0; have hf0 := blk_frozen hn0 0; have hlt0 := blk_lt hn0; simp only [List.getElem?_toArray, List.getElem?_cons_zero] at hc0; have HN := Aside0.mk hn0; clear hb hn0)
  have hc2 := blk_cell (blk_set (u := Value.int .i64 0) (i := 0) HN.out) 0
  simp only [List.size_toArray, List.length_cons, List.length_nil, Array.setIfInBounds, Nat.zero_add, Nat.lt_add_one, dif_pos, List.getElem?_toArray] at hc2
  refine ⟨rfl, .tuple #[.int .i64 0, .int .i64 z], by simp [results, Try.f56, go_sem, hc2], rfl, box_end1 HB.out _⟩
set_option maxRecDepth 100000 in
set_option maxHeartbeats 2000000 in
theorem puzzles_Hang.calls (k : Nat) (a0 : Int) (A1 : Option Addr) (c1 : Nat) (l1 : List S76) (a2 : Int) (r1 : List (List Int)) (r2 : Int) (w : World) (hr1 : Kd.C k76 w A1 l1.length l1) (hc1 : l1.length ≤ c1) (h : puzzles_Hang.f k a0 l1 a2 = some (r1, r2)) :
  Calls Try.prog 54 #[.int .i64 a0, .slice A1 l1.length c1, .int .i64 a2] w fun e w' => ∃ v0_ : Value, e = .returned (.tuple #[v0_, .int .i64 r2]) ∧ Kd.S (Kd.slice 3 (Kd.int .i64)) 22 w' w.heap.size (fun _ => True) v0_ r1 ∧ Below w.heap.size w w' := by
 unfold puzzles_Hang.f at h
 replace h := Option.some.inj h
 have HM := Aside0.mk (checkPortraits_calls a0 A1 c1 l1 _ (Kd.C_alloc (Kd.C_alloc hr1 (.cells #[.int .i64 a2] 3)) (.cells #[.slice none 0 0] 70)) hc1)
 by_cases hB : cpB a0 l1 = 0
 ·rw [if_pos hB] at h
  rw [hB] at HM
  by_cases hM : inR 1 64 a2 = true
  ·rw [if_pos hM] at h
   cases h
   obtain ⟨h1, h6, hs, _⟩ := cpB_ok hB
   have e : ((a0.toNat : Nat) : Int) = a0 := Int.toNat_of_nonneg (by omega)
   have := Hang_in a0.toNat A1 c1 l1 a2 w hr1 hc1 (by omega) (by omega) (by rw [e]; exact hB) (by rw [e]; exact hs) hM
   rw [e] at this
   exact callsIn_wide.1 this
  ·rw [if_neg hM] at h
   cases h
   have HW := Aside0.mk (fun V => within_calls a2 1 64 V)
   rw [Bool.not_eq_true] at hM
   rw [hM] at HW
   clear hr1 hc1 hB
   go_enter Try.func54, Try.ntmps54
   go_wp2_with (first | (go_at_call 112; refine Calls.mono HM.out ?_; rintro e w1 ⟨rfl, hb⟩; have HB := Aside0.mk hb; have hn0 := box_two' hb; have hnm := blk_up hb; have hc0 := blk_cell hn0 0; have hf0 := blk_frozen hn0 0; have hcm := blk_cell hnm 0; simp only [List.getElem?_toArray, List.getElem?_cons_zero] at hc0 hcm; have HN := Aside0.mk hn0; clear hb hn0 hnm) | (go_at_call 67; refine Calls.mono (HW.out _) ?_; rintro e w2 ⟨rfl, rfl⟩))
   have hc2 := blk_cell (blk_set (u := Value.slice none 0 0) (i := 0) HN.out) 0
   simp only [List.size_toArray, List.length_cons, List.length_nil, Array.setIfInBounds, Nat.zero_add, Nat.lt_add_one, dif_pos, List.getElem?_toArray] at hc2
   refine ⟨rfl, .tuple #[.slice none 0 0, .int .i64 1], by simp [results, Try.f54, go_sem, hc2], _, rfl, Kd.S_nil _ _ _ _ _, box_end2 HB.out _⟩
 ·rw [if_neg hB] at h
  cases h
  have hne : (cpB a0 l1 != 0) = true := by simpa using hB
  clear hr1 hc1
  generalize cpB a0 l1 = z at HM hB hne ⊢
  go_enter Try.func54, Try.ntmps54
  go_wp2_with (go_at_call 112; refine Calls.mono HM.out ?_; rintro e w1 ⟨rfl, hb⟩; have HB := Aside0.mk hb; have hn0 := box_two' hb; have hc0 := blk_cell hn0 0; have hf0 := blk_frozen hn0 0; simp only [List.getElem?_toArray, List.getElem?_cons_zero] at hc0; have HN := Aside0.mk hn0; clear hb hn0)
  have hc2 := blk_cell (blk_set (u := Value.slice none 0 0) (i := 0) HN.out) 0
  simp only [List.size_toArray, List.length_cons, List.length_nil, Array.setIfInBounds, Nat.zero_add, Nat.lt_add_one, dif_pos, List.getElem?_toArray] at hc2
  refine ⟨rfl, .tuple #[.slice none 0 0, .int .i64 z], by simp [results, Try.f54, go_sem, hc2], _, rfl, Kd.S_nil _ _ _ _ _, box_end2 HB.out _⟩

end Go.Proofs.Ytdhiijleafcfcaa.T
