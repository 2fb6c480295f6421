/- The law Ciphers, in plain lists. -/
import Derived.Test.YtdhiijleafcfcaaT0
import Derived.Test.YtdhiijleafcfcaaPCi
import Derived.Test.YtdhiijleafcfcaaTf17
namespace Go.Proofs.Ytdhiijleafcfcaa.T
open Go.RowKit Go.Proofs.YtdhiijleafcfcaaW.PrintWords Go.Proofs.YtdhiijleafcfcaaW.PrintLast Go.Proofs.YtdhiijleafcfcaaW.PrintMore
attribute [local go_sem] max2_int min2_int max_two min_two max_three min_three max_four min_four
set_option linter.unusedVariables false
set_option linter.unusedSimpArgs false

theorem ciphers_law (a0 : ByteArray) (n : Int) (key : ByteArray) (bk : Bool) (a2 : ByteArray) : Ev (fun k => padlocklaw03_PuzzlesCiphers.f k a0 n key bk a2) true := by
 have early : Ev (fun k => padlocklaw03_PuzzlesCiphers.j0 k a0 a2 true n key bk) true := by
  refine Ev.step (fun k => by rw [padlocklaw03_PuzzlesCiphers.j0, if_pos rfl]) (Ev.bind works_ev (Ev.now _))
 by_cases h1 : (a0.size : Int) > 400
 ·exact Ev.congr (fun k => by unfold padlocklaw03_PuzzlesCiphers.f; rw [if_pos h1]) early
 by_cases h2 : (a2.size : Int) > 400
 ·exact Ev.congr (fun k => by unfold padlocklaw03_PuzzlesCiphers.f; rw [if_neg h1, decide_eq_true h2]) early
 obtain ⟨rm, hm1, hm2⟩ := mix_both a0 key bk (by omega)
 obtain ⟨rc, hc1, hc2, hcl⟩ := refcrack_ev a0 a2 (by omega) (by omega)
 refine Ev.congr (fun k => by unfold padlocklaw03_PuzzlesCiphers.f; rw [if_neg h1, decide_eq_false h2]) ?_ (f := fun k => padlocklaw03_PuzzlesCiphers.j0 k a0 a2 false n key bk)
 refine Ev.step (fun k => by rw [padlocklaw03_PuzzlesCiphers.j0, if_neg (by decide), Shift_val a0 n (by omega), Option.bind_some]) ?_
 refine Ev.bind (refShift_ev a0 n) ?_
 simp only [if_true, bne_self_eq_false]
 refine Ev.step (fun k => by rw [padlocklaw03_PuzzlesCiphers.j1, if_neg (by decide), hm1, Option.bind_some]) ?_
 refine Ev.bind hm2 ?_
 simp only [if_true, bne_self_eq_false]
 refine Ev.step (fun k => by rw [padlocklaw03_PuzzlesCiphers.j2, if_neg (by decide), hc1, Option.bind_some]) ?_
 refine Ev.bind hc2 ?_
 simp only [if_true]
 refine Ev.bind (sameInts_ev rc.1 rc.1 (by unfold maxLen; omega)) ?_
 simp only [decide_true, if_true]
 exact Ev.bind works_ev (Ev.now _)

end Go.Proofs.Ytdhiijleafcfcaa.T
