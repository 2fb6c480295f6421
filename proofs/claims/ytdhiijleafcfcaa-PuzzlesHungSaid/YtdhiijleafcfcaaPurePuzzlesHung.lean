/- The plain law of the portraits: a sentence and its opposite share the hangings; what Hang hands out is hung, holds and is in order. -/
import Derived.Test.YtdhiijleafcfcaaPHc
namespace Go.Proofs.Ytdhiijleafcfcaa.Pure
open Go.RowKit Go.Proofs.Ytdhiijleafcfcaa.T Go.Proofs.YtdhiijleafcfcaaW.PrintWords Go.Proofs.YtdhiijleafcfcaaW.PrintLast Go.Proofs.YtdhiijleafcfcaaW.PrintMore
theorem PuzzlesHung (a0 : Int) (l : List S76) (f0 f1 f2 f3 : Int) (f4 : Bool) : ∃ k, padlocklaw03_PuzzlesHung.f k a0 l f0 f1 f2 f3 f4 = some true := Ev.rounds (hung_law a0 l f0 f1 f2 f3 f4)
end Go.Proofs.Ytdhiijleafcfcaa.Pure
