/- The plain law of Through: whatever way the ball takes, no shorter one leads out, and a trap has no way out. -/
import Derived.Test.YtdhiijleafcfcaaPTh
import Derived.Test.YtdhiijleafcfcaaTf9
namespace Go.Proofs.Ytdhiijleafcfcaa.Pure
open Go.RowKit Go.Proofs.Ytdhiijleafcfcaa.T Go.Proofs.YtdhiijleafcfcaaW.PrintWords Go.Proofs.YtdhiijleafcfcaaW.PrintLast
theorem PuzzlesThrough (a0 a1 : Int) (l : List Bool) (a3 a4 : Int) (mv : List Int) (_ : (Lit.int .i64 a0).wf = true) (_ : (Lit.int .i64 a1).wf = true) (_ : l.length ≤ maxLen) (_ : (Lit.int .i64 a3).wf = true) (_ : (Lit.int .i64 a4).wf = true)
  (_ : mv.length ≤ maxLen) (_ : ∀ x ∈ mv, (Lit.int .i64 x).wf = true) (_ : mv.length * 8 ≤ 140737488351232) : ∃ k, padlocklaw03_PuzzlesThrough.f k a0 a1 l a3 a4 mv = some true := Ev.rounds (thru_law a0 a1 l a3 a4 mv)
end Go.Proofs.Ytdhiijleafcfcaa.Pure
