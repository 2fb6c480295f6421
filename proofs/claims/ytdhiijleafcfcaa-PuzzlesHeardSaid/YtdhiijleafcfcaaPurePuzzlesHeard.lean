/- The plain law of Heard: Opens tells the first place behind which the last keys are the melody. -/
import Derived.Test.YtdhiijleafcfcaaPH
namespace Go.Proofs.Ytdhiijleafcfcaa.Pure
open Go.RowKit Go.Proofs.Ytdhiijleafcfcaa.T Go.Proofs.YtdhiijleafcfcaaW.PrintWords Go.Proofs.YtdhiijleafcfcaaW.PrintLast
theorem PuzzlesHeard : padlocklaw03_PuzzlesHeard.Pure := by
  intro l0 l1 l2 h0 h1 _ _ _ _ _ h2 _
  exact Ev.rounds (heard_law l0 l1 l2 (by omega) h2)
end Go.Proofs.Ytdhiijleafcfcaa.Pure
