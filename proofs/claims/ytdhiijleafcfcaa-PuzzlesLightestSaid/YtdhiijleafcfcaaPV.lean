/- The laws of the balances, in plain lists: Tips, and Weighs. -/
import Derived.Test.YtdhiijleafcfcaaProg
import Derived.Below
import Derived.Deep.Draws
import Derived.Deep.AppendLies
import Derived.Maps.AppendAt
import Derived.OwnWalk
import Derived.Laws.BytesArg
import Derived.Laws.MakeOwn
import Derived.Laws.OwnMore
import Derived.Deep.OwnRows
import Derived.Tactics
import Derived.Lib.ConvBytes
import Derived.Laws.Slices
import Derived.WalkKit
import Derived.KernelRfl
import Derived.RowKit3
import Derived.Deep.LoopGhost
import Derived.Deep.QuietTactic
import Derived.BigQuiet
import Derived.WideLaws
import Derived.Deep.DeepCutAuto
import Derived.Deep.CutBlock
import Derived.Deep.RegionHeld3
import Derived.Laws.Rows
import Derived.Lib.AppendStr
import Derived.ArgAppend
import Derived.Laws.IdiomCopy
import Derived.OrdersHeld
import Derived.Laws.BitsLemmas
import Derived.RowKit
import Derived.Test.YtdhiijleafcfcaaWWords
import Derived.Test.YtdhiijleafcfcaaWLast
import Derived.Test.YtdhiijleafcfcaaWTab
import Derived.Test.YtdhiijleafcfcaaWFour
import Derived.Test.YtdhiijleafcfcaaWQPut
import Derived.Test.YtdhiijleafcfcaaWApart
import Derived.Test.YtdhiijleafcfcaaWArr
import Derived.Test.YtdhiijleafcfcaaWZeros
import Derived.Test.YtdhiijleafcfcaaWFoot
import Derived.Test.YtdhiijleafcfcaaWKept
import Derived.Test.YtdhiijleafcfcaaWShare
import Derived.Test.YtdhiijleafcfcaaWN
import Derived.Test.YtdhiijleafcfcaaWFootNe
import Derived.Test.YtdhiijleafcfcaaWAt
import Derived.Test.YtdhiijleafcfcaaWEqStruct
import Derived.Test.YtdhiijleafcfcaaWRepsOne
import Derived.Test.YtdhiijleafcfcaaWInv
import Derived.Test.YtdhiijleafcfcaaWInvWords
import Derived.Test.YtdhiijleafcfcaaWGuard
import Derived.Test.YtdhiijleafcfcaaWNEv
import Derived.Test.YtdhiijleafcfcaaWMore
import Derived.Test.YtdhiijleafcfcaaPB
import Derived.Test.YtdhiijleafcfcaaWr
import Derived.Test.YtdhiijleafcfcaaTf5
namespace Go.Proofs.Ytdhiijleafcfcaa.T
open Go.RowKit Go.Proofs.YtdhiijleafcfcaaW.PrintWords Go.Proofs.YtdhiijleafcfcaaW.PrintLast Go.Proofs.YtdhiijleafcfcaaW.PrintMore
attribute [local go_sem] max2_int min2_int max_two min_two max_three min_three max_four min_four
set_option linter.unusedVariables false
set_option linter.unusedSimpArgs false

def sidesB (ss : List Int) : Bool := ss.all (inR (-1) 1)
/-- What Tips returns. -/
def tipsR (l ss : List Int) (a : Int) : Int × Int := if weighedB l a && decide (ss.length = l.length) && sidesB ss then (-a + dotN l ss, 0) else (0, 1)
theorem weighed_ws (l : List Int) (a : Int) (hB : weighedB l a = true) : (∀ w ∈ l, 0 ≤ w ∧ w ≤ 10000) ∧ l.length ≤ 10 ∧ (0 ≤ a ∧ a ≤ 10000) := by
  obtain ⟨hn, ha, hws⟩ := weighedB_facts l a hB
  refine ⟨fun w hw => ?_, hn, ha⟩
  obtain ⟨j, hj, rfl⟩ := List.getElem_of_mem hw
  have := hws j hj
  rw [List.getD_eq_getElem?_getD, List.getElem?_eq_getElem hj, Option.getD_some] at this
  omega
theorem sidesB_all (ss : List Int) (h : sidesB ss = true) : ∀ s ∈ ss, -1 ≤ s ∧ s ≤ 1 := by
  intro s hs
  have := (List.all_eq_true.1 h) s hs
  unfold inR at this
  simpa using this
theorem tips_l0 (l ss : List Int) (a : Int) (hB : weighedB l a = true) (hl : ss.length = l.length) (hS : sidesB ss = true) : Ev (fun k => puzzles_Tips.l0 k l (wrap64 (-a)) ss (ss.length : Int) 0) (-a + dotN l ss, 0) := by
  obtain ⟨hw, hn, ha⟩ := weighed_ws l a hB
  have hs := sidesB_all ss hS
  have key : ∀ (n i : Nat), n = l.length - i → i ≤ l.length → Ev (fun k => puzzles_Tips.l0 k l (-a + dotN (l.take i) (ss.take i)) ss (ss.length : Int) (i : Int)) (-a + dotN l ss, 0) := by
    intro n
    induction n with
    | zero =>
      intro i hn' hi
      refine Ev.step (f := fun _ => some (-a + dotN (l.take i) (ss.take i), 0)) (fun k => ?_) (Ev.eq (Ev.now _) (by rw [List.take_of_length_le (by omega), List.take_of_length_le (by omega)]))
      rw [puzzles_Tips.l0, if_neg (by omega)]
    | succ n ih =>
      intro i hn' hi
      have hia : i < l.length := by omega
      have hib : i < ss.length := by omega
      have hwi : wrap64 ((i : Int) + 1) = ((i + 1 : Nat) : Int) := by rw [w64 _ (by omega) (by omega)]; omega
      refine Ev.step (fun k => ?_) (ih (i + 1) (by omega) (by omega))
      rw [puzzles_Tips.l0, if_pos (by omega), if_pos (by omega), if_pos (by omega), if_pos (by omega), rd_lt l i hia, rd_lt ss i hib, hwi, tips_sum l ss hw hs hl.symm hn i hia a ha hib]
  have hna : wrap64 (-a) = -a := w64 _ (by omega) (by omega)
  refine Ev.congr (fun k => ?_) (key _ 0 rfl (by omega))
  rw [hna]
  simp [dotN]
theorem cf78_val (ss : List Int) : cf78.f ss = some (!sidesB ss) := by
  unfold cf78.f sidesB
  rw [List.all_eq_not_any_not, Bool.not_not]
theorem Tips_ev (l ss : List Int) (a : Int) : Ev (fun k => puzzles_Tips.f k l ss a) (tipsR l ss a) := by
  have bad : Ev (fun k => puzzles_Tips.j0 k l ss a true) (0, 1) := Ev.step (f := fun _ => some (0, 1)) (fun k => by rw [puzzles_Tips.j0, if_pos rfl]) (Ev.now _)
  unfold tipsR
  cases hB : weighedB l a with
  | false =>
    refine Ev.congr (fun k => ?_) bad
    unfold puzzles_Tips.f
    rw [weighed_val, hB, Option.bind_some, if_neg (by decide)]
  | true =>
    by_cases hl : ss.length = l.length
    · rw [decide_eq_true hl]
      have e : ∀ k, puzzles_Tips.f k l ss a = puzzles_Tips.j0 k l ss a (!sidesB ss) := fun k => by
        unfold puzzles_Tips.f
        rw [weighed_val, hB, Option.bind_some, if_pos rfl, if_pos (by omega), cf78_val, Option.bind_some]
      refine Ev.congr e ?_
      cases hS : sidesB ss with
      | false => exact bad
      | true => exact Ev.step (fun k => by rw [puzzles_Tips.j0, if_neg (by decide)]) (tips_l0 l ss a hB hl hS)
    · rw [decide_eq_false hl]
      refine Ev.congr (fun k => ?_) bad
      unfold puzzles_Tips.f
      rw [weighed_val, hB, Option.bind_some, if_pos rfl, if_neg (by omega)]
theorem refTips_ev (l ss : List Int) (a : Int) (hm : l.length ≤ 9223372036854775807) (hm2 : ss.length ≤ 9223372036854775807) : Ev (fun k => padlockref03_Tips.f k l ss a) (tipsR l ss a) := by
  have bad : Ev (fun k => padlockref03_Tips.j0 k l ss a true) (0, 1) := Ev.step (f := fun _ => some (0, 1)) (fun k => by rw [padlockref03_Tips.j0, if_pos rfl]) (Ev.now _)
  unfold tipsR padlockref03_Tips.f
  refine Ev.bind (weighable_ev l a hm) ?_
  cases hB : weighedB l a with
  | false => exact Ev.congr (fun k => if_neg (by decide)) bad
  | true =>
    refine Ev.congr (fun k => if_pos rfl) ?_
    by_cases hl : ss.length = l.length
    · rw [decide_eq_true hl]
      have hb : ((ss.length : Int) != (l.length : Int)) = false := by rw [hl]; simp
      rw [hb]
      refine Ev.step (f := fun k => padlockref03_Tips.l0 k l ss a ((0 : Nat) : Int)) (fun k => by rw [padlockref03_Tips.j0, if_neg (by decide)]; rfl) ?_
      obtain ⟨hw, hn, ha⟩ := weighed_ws l a hB
      have key : ∀ (n i : Nat), n = ss.length - i → i ≤ ss.length → (∀ j (h : j < ss.length), j < i → inR (-1) 1 ss[j] = true) → Ev (fun k => padlockref03_Tips.l0 k l ss a (i : Int)) (if (true && true && sidesB ss) = true then (-a + dotN l ss, 0) else (0, 1)) := by
        intro n
        induction n with
        | zero =>
          intro i hn' hi hall
          have hS : sidesB ss = true := by
            unfold sidesB
            rw [List.all_eq_true]
            intro x hx
            obtain ⟨j, hj, rfl⟩ := List.getElem_of_mem hx
            exact hall j hj (by omega)
          rw [hS, if_pos (by decide)]
          refine Ev.step (f := fun k => (padlockref03_tips.f k l ss a).bind fun t => some (t, 0)) (fun k => ?_) (Ev.bind (tips_ev l ss a hw (sidesB_all ss hS) hl.symm hn ha) (Ev.now _))
          rw [padlockref03_Tips.l0, if_neg (by omega)]
        | succ n ih =>
          intro i hn' hi hall
          have hia : i < ss.length := by omega
          have hwi : wrap64 ((i : Int) + 1) = ((i + 1 : Nat) : Int) := by rw [w64 _ (by omega) (by omega)]; omega
          by_cases e : inR (-1) 1 ss[i] = true
          · refine Ev.step (f := fun k => padlockref03_Tips.l0 k l ss a ((i + 1 : Nat) : Int)) (fun k => ?_) (ih (i + 1) (by omega) (by omega) fun j hj hl => ?_)
            · rw [padlockref03_Tips.l0, if_pos (by omega), if_pos (by omega), rd_lt ss i hia, refwithin_val, Option.bind_some, hwi]
              exact if_pos e
            · by_cases ej : j = i
              · subst ej; exact e
              · exact hall j hj (by omega)
          · have hS : sidesB ss = false := by
              rw [Bool.eq_false_iff]
              intro ha
              unfold sidesB at ha
              rw [List.all_eq_true] at ha
              exact e (ha _ (List.getElem_mem hia))
            rw [hS, if_neg (by decide)]
            refine Ev.step (f := fun k => some (0, 1)) (fun k => ?_) (Ev.now _)
            rw [padlockref03_Tips.l0, if_pos (by omega), if_pos (by omega), rd_lt ss i hia, refwithin_val, Option.bind_some, hwi]
            exact if_neg e
      exact key _ 0 rfl (by omega) (fun j _ h => by omega)
    · rw [decide_eq_false hl]
      have hb : ((ss.length : Int) != (l.length : Int)) = true := by simpa using (show ¬ (ss.length : Int) = (l.length : Int) by omega)
      rw [hb]
      exact bad
def weighingsR (l : List Int) (a : Int) : Int × Int := if weighedB l a then (((wOuts l [] (-a) 0).length : Int), 0) else (0, 1)
theorem refWeighings_ev (l : List Int) (a : Int) (hm : l.length ≤ 9223372036854775807) : Ev (fun k => padlockref03_Weighings.f k l a) (weighingsR l a) := by
  unfold weighingsR padlockref03_Weighings.f
  refine Ev.bind (weighable_ev l a hm) ?_
  cases hB : weighedB l a with
  | false => exact Ev.congr (fun k => if_neg (by decide)) (Ev.now _)
  | true =>
    refine Ev.congr (fun k => if_pos rfl) (Ev.bind (weighings_ev l a hB) (Ev.eq (Ev.now _) ?_))
    simp
def weighR (l : List Int) (a : Int) : List Int × Int := if weighedB l a then (if (bestO (wOuts l [] (-a) 0)).2 < 0 then (([] : List Int), (3 : Int)) else ((bestO (wOuts l [] (-a) 0)).1, 0)) else ([], 1)
theorem wOuts_fst_len : ∀ (l p : List Int) (s u : Int), ∀ x ∈ wOuts l p s u, x.1.length = p.length + l.length
  | [], p, s, u, x, hx => by
    unfold wOuts at hx
    split at hx
    · rw [List.mem_singleton.1 hx]; simp
    · simp at hx
  | v :: l, p, s, u, x, hx => by
    unfold wOuts at hx
    rcases List.mem_append.1 hx with hx | hx
    · rcases List.mem_append.1 hx with hx | hx
      · rw [wOuts_fst_len l _ _ _ x hx]; simp; omega
      · rw [wOuts_fst_len l _ _ _ x hx]; simp; omega
    · rw [wOuts_fst_len l _ _ _ x hx]; simp; omega
theorem best_mem (l : List Int) (a : Int) (h : ¬ (bestO (wOuts l [] (-a) 0)).2 < 0) : bestO (wOuts l [] (-a) 0) ∈ wOuts l [] (-a) 0 := by
  refine (bestO_used _ _ rfl (fun x hx => ?_) (fun e => ?_)).2
  · rw [wOuts_used l [] (-a) 0 rfl x hx]
    exact (usedN_bound _).1
  · rw [e] at h
    exact h (by decide)
theorem weighR_len (l : List Int) (a : Int) : (weighR l a).1.length ≤ maxLen := by
  unfold weighR maxLen
  cases hB : weighedB l a with
  | false => simp
  | true =>
    have hn := (weighed_ws l a hB).2.1
    by_cases h : (bestO (wOuts l [] (-a) 0)).2 < 0
    · simp [h]
    · have := wOuts_fst_len l [] (-a) 0 _ (best_mem l a h)
      simp only [if_true, h, if_false]
      simp at this
      omega
theorem weighs_law (l ss : List Int) (a : Int) (hm : l.length ≤ maxLen) (hm2 : ss.length ≤ maxLen) : Ev (fun k => padlocklaw03_PuzzlesWeighs.f k l ss a) true := by
  unfold maxLen at hm hm2
  have hw : Ev (fun k => (padlocklaw03_works.f k).bind fun t => some t) true := Ev.bind works_ev (Ev.now _)
  have hj2 : Ev (fun k => padlocklaw03_PuzzlesWeighs.j2 k l a false) true := by
    refine Ev.step (f := fun k => (puzzles_Weighings.f l a).bind fun bt235 => ((padlockref03_Weighings.f k l a).bind fun bt237 => (if bt235.1 = bt237.1 then (if bt235.2 = bt237.2 then ((padlocklaw03_works.f k).bind fun t239 => (some t239)) else (some false)) else (some false)))) (fun k => by rw [padlocklaw03_PuzzlesWeighs.j2, if_neg (by decide)]) ?_
    refine Ev.bind (Ev.const (r := weighingsR l a) rfl) (Ev.bind (refWeighings_ev l a (by omega)) ?_)
    simp only [if_true]
    exact hw
  have hj1 : Ev (fun k => padlocklaw03_PuzzlesWeighs.j1 k l a false) true := by
    refine Ev.step (f := fun k => (puzzles_Weigh.f l a).bind fun bt226 => ((padlockref03_Weigh.f l a).bind fun bt230 => (if bt226.2 = bt230.2 then ((padlocklaw03_sameInts.f k bt226.1 bt230.1).bind fun t234 => (padlocklaw03_PuzzlesWeighs.j2 k l a (!t234))) else (padlocklaw03_PuzzlesWeighs.j2 k l a true)))) (fun k => by rw [padlocklaw03_PuzzlesWeighs.j1, if_neg (by decide)]) ?_
    refine Ev.bind (Ev.const (r := weighR l a) rfl) (Ev.bind (Ev.const (r := weighR l a) rfl) ?_)
    simp only [if_true]
    refine Ev.bind (sameInts_ev (weighR l a).1 (weighR l a).1 (weighR_len l a)) ?_
    rw [decide_eq_true rfl]
    exact hj2
  have hj0 : ∀ b, Ev (fun k => padlocklaw03_PuzzlesWeighs.j0 k l ss a b) true := by
    intro b
    cases b with
    | true => exact Ev.step (fun k => by rw [padlocklaw03_PuzzlesWeighs.j0, if_pos rfl]) hw
    | false =>
      refine Ev.step (f := fun k => (puzzles_Tips.f k l ss a).bind fun bt222 => ((padlockref03_Tips.f k l ss a).bind fun bt224 => (if bt222.1 = bt224.1 then (padlocklaw03_PuzzlesWeighs.j1 k l a (bt222.2 != bt224.2)) else (padlocklaw03_PuzzlesWeighs.j1 k l a true)))) (fun k => by rw [padlocklaw03_PuzzlesWeighs.j0, if_neg (by decide)]) ?_
      refine Ev.bind (Tips_ev l ss a) (Ev.bind (refTips_ev l ss a (by omega) (by omega)) ?_)
      simp only [if_true, bne_self_eq_false]
      exact hj1
  by_cases h : (l.length : Int) > 8
  · exact Ev.congr (fun k => by unfold padlocklaw03_PuzzlesWeighs.f; rw [if_pos h]) (hj0 _)
  · exact Ev.congr (fun k => by unfold padlocklaw03_PuzzlesWeighs.f; rw [if_neg h]) (hj0 _)

end Go.Proofs.Ytdhiijleafcfcaa.T
