/- The plain law of Flows: the search by a queue finds the wet cells of the document's rounds, and as many leaks. -/
import Derived.Test.YtdhiijleafcfcaaPFl
import Derived.Test.YtdhiijleafcfcaaTf11
namespace Go.Proofs.Ytdhiijleafcfcaa.Pure
open Go.RowKit Go.Proofs.Ytdhiijleafcfcaa.T Go.Proofs.YtdhiijleafcfcaaW.PrintWords Go.Proofs.YtdhiijleafcfcaaW.PrintLast
theorem PuzzlesFlows (a0 a1 : Int) (l : List Int) (a3 a4 : Int) (tn : List Int) (_ : (Lit.int .i64 a0).wf = true) (_ : (Lit.int .i64 a1).wf = true) (_ : l.length ≤ maxLen) (_ : ∀ x ∈ l, (Lit.int .i64 x).wf = true) (_ : (Lit.int .i64 a3).wf = true) (_ : (Lit.int .i64 a4).wf = true)
    (_ : tn.length ≤ maxLen) (_ : ∀ x ∈ tn, (Lit.int .i64 x).wf = true) (_ : tn.length * 8 ≤ 140737488351232) : ∃ k, padlocklaw03_PuzzlesFlows.f k a0 a1 l a3 a4 tn = some true := by
  refine Ev.rounds (g := fun k => padlocklaw03_PuzzlesFlows.f k a0 a1 l a3 a4 tn) ?_
  unfold padlocklaw03_PuzzlesFlows.f
  obtain ⟨r, hl, h1, h2⟩ := flows_both a0 a1 l a3 a4 tn
  refine Ev.bind h1 (Ev.bind h2 ?_)
  simp only [if_true]
  refine Ev.bind (sameInts_ev r.1 r.1 (by unfold maxLen; omega)) ?_
  simp only [decide_true, if_true]
  exact Ev.bind works_ev (Ev.now _)
end Go.Proofs.Ytdhiijleafcfcaa.Pure
