/- Plain laws: the look at the examples; loops over a list. -/
import Derived.Test.YtdhiijleafcfcaaT0
import Derived.Test.YtdhiijleafcfcaaWk
namespace Go.Proofs.Ytdhiijleafcfcaa.T
open Go.RowKit Go.Proofs.YtdhiijleafcfcaaW.PrintWords Go.Proofs.YtdhiijleafcfcaaW.PrintLast Go.Proofs.YtdhiijleafcfcaaW.PrintMore
attribute [local go_sem] max2_int min2_int max_two min_two max_three min_three max_four min_four
set_option linter.unusedVariables false
set_option linter.unusedSimpArgs false

theorem works_ev : Ev padlocklaw03_works.f true := Ev.now true
/-- An answer that needs no rounds. -/
theorem Ev.const {α : Type} {x : Option α} {r : α} (h : x = some r) : Ev (fun _ => x) r := ⟨0, fun _ _ => h⟩
theorem Ev.eq {α : Type} {g : Nat → Option α} {r r' : α} (h : Ev g r) (e : r = r') : Ev g r' := e ▸ h
theorem w64 (x : Int) (h1 : -9223372036854775808 ≤ x) (h2 : x ≤ 9223372036854775807) : wrap64 x = x := by unfold wrap64; omega
theorem w64_add (a b : Int) : wrap64 (wrap64 a + b) = wrap64 (a + b) := by unfold wrap64; omega
theorem w64_add' (a b : Int) : wrap64 (a + wrap64 b) = wrap64 (a + b) := by unfold wrap64; omega
theorem w64_idem (a : Int) : wrap64 (wrap64 a) = wrap64 a := by unfold wrap64; omega
theorem rd_lt (l : List Int) (i : Nat) (h : i < l.length) : rd l (i : Int) = l[i] := by
 unfold rd
 rw [Int.toNat_natCast, List.getD_eq_getElem?_getD, List.getElem?_eq_getElem h, Option.getD_some]
/-- What the cut functions of the program say about lists. -/
theorem sameInts_l0 (a b : List Int) (hm : a.length ≤ maxLen) (hl : a.length = b.length) : ∀ (n i : Nat), n = a.length - i → i ≤ a.length → a.take i = b.take i → Ev (fun k => padlocklaw03_sameInts.l0 k a b (i : Int)) (decide (a = b)) := by
 intro n
 induction n with
 | zero =>
  intro i hn hi ht
  have : i = a.length := by omega
  subst this
  refine Ev.step (f := fun _ => some true) (fun k => ?_) ?_
  ·unfold padlocklaw03_sameInts.l0
   rw [if_neg (by omega)]
  ·refine Ev.eq (Ev.now _) ?_
   rw [List.take_length, hl, List.take_length] at ht
   simp [ht]
 | succ n ih =>
  intro i hn hi ht
  have hia : i < a.length := by omega
  have hib : i < b.length := by omega
  have hw : wrap64 ((i : Int) + 1) = ((i + 1 : Nat) : Int) := by
   rw [w64 _ (by omega) (by have := hm; unfold maxLen at this; omega)]; omega
  by_cases h : a[i] = b[i]
  ·refine Ev.step (f := fun k => padlocklaw03_sameInts.l0 k a b ((i + 1 : Nat) : Int)) (fun k => ?_) (ih (i + 1) (by omega) (by omega) ?_)
   ·conv => lhs; unfold padlocklaw03_sameInts.l0
    rw [if_pos (by omega), if_pos (by omega), if_pos (by omega), rd_lt a i hia, rd_lt b i hib, if_pos h, hw]
   ·rw [List.take_succ_eq_append_getElem hia, List.take_succ_eq_append_getElem hib, ht, h]
  ·refine Ev.step (f := fun k => some false) (fun k => ?_) ?_
   ·conv => lhs; unfold padlocklaw03_sameInts.l0
    rw [if_pos (by omega), if_pos (by omega), if_pos (by omega), rd_lt a i hia, rd_lt b i hib, if_neg h]
   ·refine Ev.eq (Ev.now _) (Eq.symm (decide_eq_false fun e => h ?_))
    subst e
    rfl
theorem sameInts_ev (a b : List Int) (hm : a.length ≤ maxLen) : Ev (fun k => padlocklaw03_sameInts.f k a b) (decide (a = b)) := by
 by_cases hl : a.length = b.length
 ·refine Ev.congr (f := fun k => padlocklaw03_sameInts.l0 k a b ((0 : Nat) : Int)) (fun k => ?_) (sameInts_l0 a b hm hl _ 0 rfl (by omega) (by simp))
  unfold padlocklaw03_sameInts.f
  rw [if_pos (by omega)]
  rfl
 ·refine Ev.congr (f := fun k => some false) (fun k => ?_) (Ev.eq (Ev.now _) (Eq.symm (decide_eq_false fun e => hl (by rw [e]))))
  unfold padlocklaw03_sameInts.f
  rw [if_neg (by omega)]
theorem within_val (a b c : Int) : puzzles_within.f a b c = some (decide (b ≤ a) && decide (a ≤ c)) := by
 unfold puzzles_within.f
 by_cases h : a ≥ b
 ·rw [if_pos h, decide_eq_true (show b ≤ a from h), Bool.true_and]
 ·rw [if_neg h, decide_eq_false (show ¬ b ≤ a from h), Bool.false_and]
theorem refwithin_val (a b c : Int) : padlockref03_Within.f a b c = some (decide (b ≤ a) && decide (a ≤ c)) := by
 unfold padlockref03_Within.f
 by_cases h : a ≥ b
 ·rw [if_pos h, decide_eq_true (show b ≤ a from h), Bool.true_and]
 ·rw [if_neg h, decide_eq_false (show ¬ b ≤ a from h), Bool.false_and]
theorem dec_cast (a b : Nat) : decide ((a : Int) ≤ (b : Int)) = decide (a ≤ b) := by
 by_cases h : a ≤ b
 ·rw [decide_eq_true h, decide_eq_true (by omega)]
 ·rw [decide_eq_false h, decide_eq_false (by omega)]

end Go.Proofs.Ytdhiijleafcfcaa.T
