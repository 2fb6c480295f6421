/- The plain law of Hang and Hangings: the program's search and the document's list the same hangings. -/
import Derived.Test.YtdhiijleafcfcaaPHa
import Derived.Test.YtdhiijleafcfcaaTf15
namespace Go.Proofs.Ytdhiijleafcfcaa.Pure
open Go.RowKit Go.Proofs.Ytdhiijleafcfcaa.T Go.Proofs.YtdhiijleafcfcaaW.PrintWords Go.Proofs.YtdhiijleafcfcaaW.PrintLast Go.Proofs.YtdhiijleafcfcaaW.PrintMore
theorem hangs_l0 (n : Int) (l : List S76) (o : List (List Int)) (ho : o.length ≤ 64) (hq : ∀ q ∈ o, q.length ≤ 6) : ∀ (m i : Nat), i + m = o.length → Ev (fun k => padlocklaw03_PuzzlesHangs.l0 k n l o o (i : Int)) true := by
 intro m
 induction m with
 | zero =>
  intro i hi
  obtain ⟨R, hR⟩ : ∃ R : Int × Int, (if cpB n l = 0 then (((hangO n l).length : Int), (0 : Int)) else (0, cpB n l)) = R := ⟨_, rfl⟩
  have hev := refHangings_ev n l
  rw [hR] at hev
  refine Ev.step (f := fun k => (padlockref03_Hangings.f k n l).bind fun bt762 => if R.1 = bt762.1 then (if R.2 = bt762.2 then ((padlocklaw03_works.f k).bind fun t764 => (some t764)) else (some false)) else (some false)) (fun k => ?_) (Ev.bind hev ?_)
  ·rw [padlocklaw03_PuzzlesHangs.l0, if_neg (by omega)]
   unfold puzzles_Hangings.f
   rw [hR]
   rfl
  ·simp only [if_true]
   exact Ev.bind works_ev (Ev.now _)
 | succ m ih =>
  intro i hi
  have hlt : i < o.length := by omega
  have e1 : wrap64 ((i : Int) + 1) = ((i + 1 : Nat) : Int) := by rw [w64 _ (by omega) (by omega)]; omega
  have hrd : rd_L1 o (i : Int) = o[i] := by unfold rd_L1; rw [Int.toNat_natCast, List.getD_eq_getElem?_getD, List.getElem?_eq_getElem hlt, Option.getD_some]
  refine Ev.step (f := fun k => (padlocklaw03_sameInts.f k o[i] o[i]).bind fun t => if t = true then padlocklaw03_PuzzlesHangs.l0 k n l o o ((i + 1 : Nat) : Int) else some false) (fun k => ?_) (Ev.bind (sameInts_ev o[i] o[i] (by have := hq _ (List.getElem_mem hlt); unfold maxLen; omega)) ?_)
  ·conv => lhs; rw [padlocklaw03_PuzzlesHangs.l0, if_pos (by omega), if_pos (by omega), if_pos (by omega), hrd, e1]
  ·simp only [decide_true, if_true]
   exact ih (i + 1) (by omega)
theorem PuzzlesHangs (a0 : Int) (l : List S76) (a2 : Int) : ∃ k, padlocklaw03_PuzzlesHangs.f k a0 l a2 = some true := by
 refine Ev.rounds (g := fun k => padlocklaw03_PuzzlesHangs.f k a0 l a2) ?_
 unfold padlocklaw03_PuzzlesHangs.f
 refine Ev.bind (Ev.now (if cpB a0 l = 0 then (if inR 1 64 a2 = true then ((hangO a0 l).take a2.toNat, (0 : Int)) else ([], 1)) else ([], cpB a0 l))) (Ev.bind (refHang_ev a0 l a2) ?_)
 obtain ⟨r, hr, h1, h2⟩ : ∃ r, (if cpB a0 l = 0 then (if inR 1 64 a2 = true then ((hangO a0 l).take a2.toNat, (0 : Int)) else ([], 1)) else ([], cpB a0 l)) = r ∧ r.1.length ≤ 64 ∧ ∀ q ∈ r.1, q.length ≤ 6 := by
  refine ⟨_, rfl, ?_⟩
  by_cases h : cpB a0 l = 0
  ·rw [if_pos h]
   obtain ⟨n1, n6, _⟩ := cpB_ok h
   by_cases hm : inR 1 64 a2 = true
   ·rw [if_pos hm]
    have hm2 : 1 ≤ a2 ∧ a2 ≤ 64 := by simpa [inR] using hm
    exact ⟨by simp only [List.length_take]; omega, fun q hq => hangO_mem n1 n6 q (List.mem_of_mem_take hq)⟩
   ·rw [if_neg hm]
    exact ⟨by simp, fun q hq => by cases hq⟩
  ·rw [if_neg h]
   exact ⟨by simp, fun q hq => by cases hq⟩
 rw [hr]
 simp only [if_true]
 refine Ev.step (f := fun k => padlocklaw03_PuzzlesHangs.l0 k a0 l r.1 r.1 ((0 : Nat) : Int)) (fun k => ?_) (hangs_l0 a0 l r.1 h1 h2 r.1.length 0 (by omega))
 rw [padlocklaw03_PuzzlesHangs.j0, if_neg (by simp)]
 rfl
end Go.Proofs.Ytdhiijleafcfcaa.Pure
