/- The plain law of the balances: what Weigh returns is the first of the lightest weighings. -/
import Derived.Test.YtdhiijleafcfcaaPL
namespace Go.Proofs.Ytdhiijleafcfcaa.Pure
open Go.RowKit Go.Proofs.Ytdhiijleafcfcaa.T Go.Proofs.YtdhiijleafcfcaaW.PrintWords Go.Proofs.YtdhiijleafcfcaaW.PrintLast
theorem PuzzlesLightest : padlocklaw03_PuzzlesLightest.Pure := by
  intro l0 l1 a2 _ _ _ h1 _ _ _
  exact Ev.rounds (lightest_law l0 l1 a2 h1)
end Go.Proofs.Ytdhiijleafcfcaa.Pure
