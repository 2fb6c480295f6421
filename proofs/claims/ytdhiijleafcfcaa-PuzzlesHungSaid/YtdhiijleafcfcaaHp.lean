/- All hangings, in order, and where each portrait hangs: plain lists. -/
import Derived.Test.YtdhiijleafcfcaaT0
import Derived.Test.YtdhiijleafcfcaaHc
namespace Go.Proofs.Ytdhiijleafcfcaa.T
open Go.RowKit Go.Proofs.YtdhiijleafcfcaaW.PrintWords Go.Proofs.YtdhiijleafcfcaaW.PrintLast Go.Proofs.YtdhiijleafcfcaaW.PrintMore
attribute [local go_sem] max2_int min2_int max_two min_two max_three min_three max_four min_four
set_option linter.unusedVariables false
set_option linter.unusedSimpArgs false

def posI (p : List Int) (x : Int) : Int := if x ∈ p then (p.idxOf x : Int) else -1
/-- Where each of N portraits hangs; -1: nowhere yet. -/
def plOf (N : Nat) (p : List Int) : List Int := (List.range N).map fun (x : Nat) => posI p (x : Int)
theorem plOf_len (N : Nat) (p : List Int) : (plOf N p).length = N := by simp [plOf]
theorem plOf_get (N : Nat) (p : List Int) (x : Nat) (hx : x < N) : (plOf N p)[x]? = some (posI p (x : Int)) := by
 unfold plOf
 rw [List.getElem?_map, List.getElem?_range hx]
 rfl
theorem plOf_rd (N : Nat) (p : List Int) (x : Int) (h0 : 0 ≤ x) (hx : x < N) : rd (plOf N p) x = posI p x := by
 unfold rd
 rw [List.getD_eq_getElem?_getD, plOf_get N p x.toNat (by omega), Option.getD_some, Int.toNat_of_nonneg h0]
theorem plOf_nil (N : Nat) : plOf N [] = List.replicate N (-1) := by
 apply List.ext_getElem? 
 intro j
 by_cases hj : j < N
 ·rw [plOf_get N [] j hj, List.getElem?_replicate, if_pos hj]
  simp [posI]
 ·rw [List.getElem?_eq_none (by rw [plOf_len]; omega), List.getElem?_eq_none (by simp; omega)]
theorem posI_nonneg (p : List Int) (x : Int) : 0 ≤ posI p x ↔ x ∈ p := by
 unfold posI
 split
 ·rename_i h; simp [h]
 ·rename_i h; simp [h]
theorem posI_range (p : List Int) (x : Int) : -1 ≤ posI p x ∧ posI p x < p.length := by
 unfold posI
 split
 ·rename_i h
  have := List.idxOf_lt_length_of_mem h
  omega
 ·omega
theorem posI_snoc_same (p : List Int) (x : Int) (h : x ∉ p) : posI (p ++ [x]) x = p.length := by
 unfold posI
 rw [if_pos (by simp), List.idxOf_append, if_neg h]
 simp
theorem posI_snoc_other (p : List Int) (x y : Int) (h : y ≠ x) : posI (p ++ [x]) y = posI p y := by
 unfold posI
 by_cases hy : y ∈ p
 ·rw [if_pos hy, if_pos (by simp [hy]), List.idxOf_append, if_pos hy]
 ·rw [if_neg hy, if_neg (by simp [hy, h])]
theorem plOf_snoc (N : Nat) (p : List Int) (x : Nat) (hx : x < N) (hp : (x : Int) ∉ p) : (plOf N p).set x (p.length : Int) = plOf N (p ++ [(x : Int)]) := by
 apply List.ext_getElem?
 intro j
 by_cases hj : j < N
 ·rw [plOf_get N _ j hj, List.getElem?_set, plOf_len]
  by_cases e : x = j
  ·subst e
   rw [if_pos rfl, if_pos hx, posI_snoc_same p _ hp]
  ·rw [if_neg e, plOf_get N p j hj, posI_snoc_other p _ _ (by omega)]
 ·rw [List.getElem?_eq_none (by rw [List.length_set, plOf_len]; omega), List.getElem?_eq_none (by rw [plOf_len]; omega)]
theorem plOf_back (N : Nat) (p : List Int) (x : Nat) (hx : x < N) (hp : (x : Int) ∉ p) : (plOf N (p ++ [(x : Int)])).set x (-1) = plOf N p := by
 rw [← plOf_snoc N p x hx hp, List.set_set]
 apply List.ext_getElem?
 intro j
 rw [List.getElem?_set, plOf_len]
 by_cases e : x = j
 ·subst e
  rw [if_pos rfl, if_pos hx, plOf_get N p x hx]
  simp [posI, hp]
 ·rw [if_neg e]
/-- All hangings that begin with p, in order. -/
def hOuts (N : Nat) (F : List Int → Bool) : Nat → List Int → List (List Int)
 | 0, p => if F p = true then [p] else []
 | m + 1, p => (List.range N).flatMap fun (x : Nat) => if (x : Int) ∈ p then [] else hOuts N F m (p ++ [(x : Int)])
def hUpto (N : Nat) (F : List Int → Bool) (m : Nat) (p : List Int) (k : Nat) : List (List Int) := (List.range k).flatMap fun (x : Nat) => if (x : Int) ∈ p then [] else hOuts N F m (p ++ [(x : Int)])
theorem hUpto_zero (N : Nat) (F : List Int → Bool) (m : Nat) (p : List Int) : hUpto N F m p 0 = [] := rfl
theorem hUpto_succ (N : Nat) (F : List Int → Bool) (m : Nat) (p : List Int) (k : Nat) : hUpto N F m p (k + 1) = hUpto N F m p k ++ (if (k : Int) ∈ p then [] else hOuts N F m (p ++ [(k : Int)])) := by
 unfold hUpto
 rw [List.range_succ, List.flatMap_append]
 simp
theorem hUpto_all (N : Nat) (F : List Int → Bool) (m : Nat) (p : List Int) : hUpto N F m p N = hOuts N F (m + 1) p := rfl
theorem hUpto_pre (N : Nat) (F : List Int → Bool) (m : Nat) (p : List Int) : ∀ j k : Nat, k + j = N → ∃ t, hUpto N F m p k ++ t = hOuts N F (m + 1) p
 | 0, k, h => by
  obtain rfl : k = N := by omega
  exact ⟨[], by rw [List.append_nil, hUpto_all]⟩
 | j + 1, k, h => by
  obtain ⟨t, ht⟩ := hUpto_pre N F m p j (k + 1) (by omega)
  exact ⟨(if (k : Int) ∈ p then [] else hOuts N F m (p ++ [(k : Int)])) ++ t, by rw [← ht, hUpto_succ, List.append_assoc]⟩
/-- Does a sentence hold, if each portrait hangs on a place? -/
def holdsB (s : S76) (pl : List Int) : Bool :=
 (if s.f0 = 1 then rd pl s.f1 == s.f3 else if s.f0 = 2 then decide (rd pl s.f1 < rd pl s.f2)
  else if s.f0 = 3 then mx (wrap64 (rd pl s.f1 - rd pl s.f2)) (wrap64 (rd pl s.f2 - rd pl s.f1)) == 1
  else if s.f0 = 4 then decide (mx (wrap64 (rd pl s.f1 - rd pl s.f2)) (wrap64 (rd pl s.f2 - rd pl s.f1)) > s.f3) else false) != s.f4
theorem holds_val (s : S76) (pl : List Int) (n : Int) (hl : (pl.length : Int) = n) (h : saidB s n = true) : puzzles_holds.f s.f0 s.f1 s.f2 s.f3 s.f4 pl = some (holdsB s pl) := by
 obtain ⟨f0, f1, f2, f3, f4⟩ := s
 unfold saidB inR at h
 unfold puzzles_holds.f holdsB
 simp only at h ⊢
 by_cases c1 : f0 = 1
 ·simp only [c1, if_true, Bool.and_eq_true, decide_eq_true_eq, beq_iff_eq] at h ⊢
  rw [if_pos (by omega), if_pos (by omega)]
 ·rw [if_neg c1] at h
  by_cases c2 : f0 = 2
  ·rw [if_pos (.inl c2)] at h
   simp only [Bool.and_eq_true, decide_eq_true_eq, beq_iff_eq] at h
   rw [if_pos (by omega), if_pos (by omega), if_neg c1, if_neg c1, if_pos c2, if_pos c2, if_pos (by omega), if_pos (by omega)]
  ·by_cases c3 : f0 = 3
   ·rw [if_pos (.inr c3)] at h
    simp only [Bool.and_eq_true, decide_eq_true_eq, beq_iff_eq] at h
    rw [if_pos (by omega), if_pos (by omega), if_neg c1, if_neg c1, if_neg c2, if_neg c2, if_pos c3, if_pos c3, if_pos (by omega), if_pos (by omega)]
   ·rw [if_neg (by omega)] at h
    by_cases c4 : f0 = 4
    ·rw [if_pos c4] at h
     simp only [Bool.and_eq_true, decide_eq_true_eq] at h
     rw [if_pos (by omega), if_pos (by omega), if_neg c1, if_neg c1, if_neg c2, if_neg c2, if_neg c3, if_neg c3, if_pos c4, if_pos c4, if_pos (by omega), if_pos (by omega)]
    ·rw [if_neg c4] at h
     cases h
/-- Do all sentences hold in a hanging? -/
def okH (N : Nat) (l : List S76) (p : List Int) : Bool := !(l.any fun s => !holdsB s (plOf N p))

end Go.Proofs.Ytdhiijleafcfcaa.T
