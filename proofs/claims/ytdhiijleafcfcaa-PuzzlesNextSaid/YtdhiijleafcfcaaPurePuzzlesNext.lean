/- The plain law of Next: code and reference take the same differences. -/
import Derived.Test.YtdhiijleafcfcaaTf3
import Derived.Test.YtdhiijleafcfcaaPN
namespace Go.Proofs.Ytdhiijleafcfcaa.Pure
open Go.RowKit Go.Proofs.Ytdhiijleafcfcaa.T Go.Proofs.YtdhiijleafcfcaaW.PrintWords Go.Proofs.YtdhiijleafcfcaaW.PrintLast
theorem PuzzlesNext : padlocklaw03_PuzzlesNext.Pure := by
  intro l0 _ _ _
  refine Ev.rounds (g := fun k => padlocklaw03_PuzzlesNext.f k l0) ?_
  unfold padlocklaw03_PuzzlesNext.f
  refine Ev.bind (next_ev l0) (Ev.bind (refnext_ev l0) ?_)
  simp only [if_true]
  exact Ev.bind works_ev (Ev.now _)
end Go.Proofs.Ytdhiijleafcfcaa.Pure
