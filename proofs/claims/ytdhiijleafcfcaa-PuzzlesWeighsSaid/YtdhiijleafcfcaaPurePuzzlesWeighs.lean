/- The plain law of Weighs: code and document go through the same weighings in the same order. -/
import Derived.Test.YtdhiijleafcfcaaPV
namespace Go.Proofs.Ytdhiijleafcfcaa.Pure
open Go.RowKit Go.Proofs.Ytdhiijleafcfcaa.T Go.Proofs.YtdhiijleafcfcaaW.PrintWords Go.Proofs.YtdhiijleafcfcaaW.PrintLast
theorem PuzzlesWeighs : padlocklaw03_PuzzlesWeighs.Pure := by
  intro l0 l1 a2 h0 _ _ h1 _ _ _
  exact Ev.rounds (weighs_law l0 l1 a2 h0 h1)
end Go.Proofs.Ytdhiijleafcfcaa.Pure
