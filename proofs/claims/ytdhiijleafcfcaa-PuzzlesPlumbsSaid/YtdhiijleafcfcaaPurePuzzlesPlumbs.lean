/- The plain law of Plumbs: code and document go through the same turns in the same order. -/
import Derived.Test.YtdhiijleafcfcaaPp
import Derived.Test.YtdhiijleafcfcaaPb
import Derived.Test.YtdhiijleafcfcaaTf12
namespace Go.Proofs.Ytdhiijleafcfcaa.Pure
open Go.RowKit Go.Proofs.Ytdhiijleafcfcaa.T Go.Proofs.YtdhiijleafcfcaaW.PrintWords Go.Proofs.YtdhiijleafcfcaaW.PrintLast
theorem plumbR_len (F : List Int → Bool) (a0 a1 : Int) (l : List Int) (a3 a4 : Int) : (if plumbB a0 a1 l a3 a4 = true then plumbR (pOuts F l.length [] 0) else ([], 30)).1.length ≤ maxLen := by
 unfold plumbR maxLen
 by_cases h : plumbB a0 a1 l a3 a4 = true
 ·rw [if_pos h]
  have n9 := (plumbB_facts h).2.2.2.2.2.1
  have hpos := pOuts_pos F l.length
  generalize pOuts F l.length [] 0 = o at hpos ⊢
  by_cases c : (bestO o).2 < 0
  ·rw [if_pos c]; simp
  ·rw [if_neg c]
   have hne : o ≠ [] := fun e => by rw [e] at c; exact c (by decide)
   have := (hpos _ (bestO_pos _ o rfl (fun x hx => (hpos x hx).1) hne).2).2.1
   simp only
   omega
 ·rw [if_neg h]; simp
theorem PuzzlesPlumbs (a0 a1 : Int) (l : List Int) (a3 a4 : Int) (_ : (Lit.int .i64 a0).wf = true) (_ : (Lit.int .i64 a1).wf = true) (_ : l.length ≤ maxLen) (_ : ∀ x ∈ l, (Lit.int .i64 x).wf = true) (_ : (Lit.int .i64 a3).wf = true) (_ : (Lit.int .i64 a4).wf = true) :
  ∃ k, padlocklaw03_PuzzlesPlumbs.f k a0 a1 l a3 a4 = some true := by
 refine Ev.rounds (g := fun k => padlocklaw03_PuzzlesPlumbs.f k a0 a1 l a3 a4) ?_
 obtain ⟨F, hF⟩ := tells_ex a0 a1 l a3 a4
 have hw : Ev (fun k => (padlocklaw03_works.f k).bind fun t => some t) true := Ev.bind works_ev (Ev.now _)
 have hj1 : Ev (fun k => padlocklaw03_PuzzlesPlumbs.j1 k false a0 a1 l a3 a4) true := by
  refine Ev.step (f := fun k => (puzzles_Plumbings.f k a0 a1 l a3 a4).bind fun bt598 => ((padlockref03_Plumbings.f k a0 a1 l a3 a4).bind fun bt600 => (if bt598.1 = bt600.1 then (if bt598.2 = bt600.2 then ((padlocklaw03_works.f k).bind fun t602 => (some t602)) else (some false)) else (some false)))) (fun k => by rw [padlocklaw03_PuzzlesPlumbs.j1, if_neg (by decide)]) ?_
  refine Ev.bind (Plumbings_ev a0 a1 l a3 a4 hF) (Ev.bind (refPlumbings_ev a0 a1 l a3 a4 hF) ?_)
  simp only [if_true]
  exact hw
 have hj0 : ∀ b, Ev (fun k => padlocklaw03_PuzzlesPlumbs.j0 k b a0 a1 l a3 a4) true := by
  intro b
  cases b with
  | true => exact Ev.step (fun k => by rw [padlocklaw03_PuzzlesPlumbs.j0, if_pos rfl]) hw
  | false =>
   refine Ev.step (f := fun k => (puzzles_Plumb.f k a0 a1 l a3 a4).bind fun bt589 => ((padlockref03_Plumb.f k a0 a1 l a3 a4).bind fun bt593 => (if bt589.2 = bt593.2 then ((padlocklaw03_sameInts.f k bt589.1 bt593.1).bind fun t597 => (padlocklaw03_PuzzlesPlumbs.j1 k (!t597) a0 a1 l a3 a4)) else (padlocklaw03_PuzzlesPlumbs.j1 k true a0 a1 l a3 a4)))) (fun k => by rw [padlocklaw03_PuzzlesPlumbs.j0, if_neg (by decide)]) ?_
   refine Ev.bind (Plumb_ev a0 a1 l a3 a4 hF) (Ev.bind (refPlumb_ev a0 a1 l a3 a4 hF) ?_)
   simp only [if_true]
   refine Ev.bind (sameInts_ev _ _ (plumbR_len F a0 a1 l a3 a4)) ?_
   rw [decide_eq_true rfl]
   exact hj1
 by_cases h : (l.length : Int) > 6
 ·exact Ev.congr (fun k => by unfold padlocklaw03_PuzzlesPlumbs.f; rw [if_pos h]) (hj0 _)
 ·exact Ev.congr (fun k => by unfold padlocklaw03_PuzzlesPlumbs.f; rw [if_neg h]) (hj0 _)
end Go.Proofs.Ytdhiijleafcfcaa.Pure
