/- The plain law of Melodies: Press and Opens answer as the document's automaton of keys. -/
import Derived.Test.YtdhiijleafcfcaaPM
import Derived.Test.YtdhiijleafcfcaaTf8
namespace Go.Proofs.Ytdhiijleafcfcaa.Pure
open Go.RowKit Go.Proofs.Ytdhiijleafcfcaa.T Go.Proofs.YtdhiijleafcfcaaW.PrintWords Go.Proofs.YtdhiijleafcfcaaW.PrintLast
theorem PuzzlesMelodies (m ks : List Int) (n key : Int) (_ : m.length ≤ maxLen) (_ : ∀ x ∈ m, (Lit.int .i64 x).wf = true) (h0 : m.length * 8 ≤ 140737488351232) (_ : ks.length ≤ maxLen) (_ : ∀ x ∈ ks, (Lit.int .i64 x).wf = true) (_ : ks.length * 8 ≤ 140737488351232)
    (_ : (Lit.int .i64 n).wf = true) (_ : (Lit.int .i64 key).wf = true) : ∃ k, padlocklaw03_PuzzlesMelodies.f k m ks n key = some true := by
  refine Ev.rounds (g := fun k => padlocklaw03_PuzzlesMelodies.f k m ks n key) ?_
  unfold padlocklaw03_PuzzlesMelodies.f
  refine Ev.bind (press_ev m n key) (Ev.bind (refpress_ev m n key (by omega)) ?_)
  simp only [if_true, bne_self_eq_false]
  refine Ev.step (f := fun k => (puzzles_Opens.f k m ks).bind fun bt408 => (padlockref03_Opens.f k m ks).bind fun bt410 => (if bt408.1 = bt410.1 then (if bt408.2 = bt410.2 then ((padlocklaw03_works.f k).bind fun t412 => (some t412)) else (some false)) else (some false))) (fun k => ?_) ?_
  · rw [padlocklaw03_PuzzlesMelodies.j0, if_neg (by decide)]
  · refine Ev.bind (opens_ev m ks) (Ev.bind (refopens_ev m ks (by omega)) ?_)
    simp only [if_true]
    exact Ev.bind works_ev (Ev.now _)
end Go.Proofs.Ytdhiijleafcfcaa.Pure
