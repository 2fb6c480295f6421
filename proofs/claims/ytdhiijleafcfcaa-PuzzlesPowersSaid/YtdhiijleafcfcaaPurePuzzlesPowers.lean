/- The plain law of Powers: a polynomial's terms are told right. -/
import Derived.Test.YtdhiijleafcfcaaPW
namespace Go.Proofs.Ytdhiijleafcfcaa.Pure
open Go.RowKit Go.Proofs.Ytdhiijleafcfcaa.T Go.Proofs.YtdhiijleafcfcaaW.PrintWords Go.Proofs.YtdhiijleafcfcaaW.PrintLast
theorem PuzzlesPowers : padlocklaw03_PuzzlesPowers.Pure := by
  intro l0 a1 _ _ _ _
  exact Ev.rounds (powers_ev l0 a1)
end Go.Proofs.Ytdhiijleafcfcaa.Pure
