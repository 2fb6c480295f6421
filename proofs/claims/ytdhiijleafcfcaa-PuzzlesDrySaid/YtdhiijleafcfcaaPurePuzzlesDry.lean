/- The plain law Dry: what Plumb returns solves the pipes, and is the least of all that do. -/
import Derived.Test.YtdhiijleafcfcaaPD
namespace Go.Proofs.Ytdhiijleafcfcaa.Pure
open Go.RowKit Go.Proofs.Ytdhiijleafcfcaa.T Go.Proofs.YtdhiijleafcfcaaW.PrintWords Go.Proofs.YtdhiijleafcfcaaW.PrintLast
theorem PuzzlesDry (a0 a1 : Int) (l : List Int) (a3 a4 : Int) (tn : List Int) (_ : (Lit.int .i64 a0).wf = true) (_ : (Lit.int .i64 a1).wf = true) (_ : l.length ≤ maxLen) (_ : ∀ x ∈ l, (Lit.int .i64 x).wf = true) (_ : (Lit.int .i64 a3).wf = true) (_ : (Lit.int .i64 a4).wf = true)
  (_ : tn.length ≤ maxLen) (_ : ∀ x ∈ tn, (Lit.int .i64 x).wf = true) (_ : tn.length * 8 ≤ 140737488351232) : ∃ k, padlocklaw03_PuzzlesDry.f k a0 a1 l a3 a4 tn = some true :=
 Ev.rounds (dry_law a0 a1 l a3 a4 tn)
end Go.Proofs.Ytdhiijleafcfcaa.Pure
