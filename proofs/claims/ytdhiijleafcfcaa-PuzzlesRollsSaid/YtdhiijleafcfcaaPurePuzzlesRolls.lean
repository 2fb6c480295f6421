/- The plain law of Rolls: the search by a queue finds the first of the shortest ways that the document's distances lead, and the same traps. -/
import Derived.Test.YtdhiijleafcfcaaPMr
import Derived.Test.YtdhiijleafcfcaaTf7
namespace Go.Proofs.Ytdhiijleafcfcaa.Pure
open Go.RowKit Go.Proofs.Ytdhiijleafcfcaa.T Go.Proofs.YtdhiijleafcfcaaW.PrintWords Go.Proofs.YtdhiijleafcfcaaW.PrintLast
theorem PuzzlesRolls (a0 a1 : Int) (l : List Bool) (a3 a4 : Int) (mv : List Int) (_ : (Lit.int .i64 a0).wf = true) (_ : (Lit.int .i64 a1).wf = true) (_ : l.length ≤ maxLen) (_ : (Lit.int .i64 a3).wf = true) (_ : (Lit.int .i64 a4).wf = true)
  (_ : mv.length ≤ maxLen) (_ : ∀ x ∈ mv, (Lit.int .i64 x).wf = true) (_ : mv.length * 8 ≤ 140737488351232) : ∃ k, padlocklaw03_PuzzlesRolls.f k a0 a1 l a3 a4 mv = some true := Ev.rounds (rolls_law (W := a0) (H := a1) (l := l) (fr := a3) (z := a4) mv)
end Go.Proofs.Ytdhiijleafcfcaa.Pure
