/- The law Heard, in plain lists. -/
import Derived.Test.YtdhiijleafcfcaaProg
import Derived.Below
import Derived.Deep.Draws
import Derived.Deep.AppendLies
import Derived.Maps.AppendAt
import Derived.OwnWalk
import Derived.Laws.BytesArg
import Derived.Laws.MakeOwn
import Derived.Laws.OwnMore
import Derived.Deep.OwnRows
import Derived.Tactics
import Derived.Lib.ConvBytes
import Derived.Laws.Slices
import Derived.WalkKit
import Derived.KernelRfl
import Derived.RowKit3
import Derived.Deep.LoopGhost
import Derived.Deep.QuietTactic
import Derived.BigQuiet
import Derived.WideLaws
import Derived.Deep.DeepCutAuto
import Derived.Deep.CutBlock
import Derived.Deep.RegionHeld3
import Derived.Laws.Rows
import Derived.Lib.AppendStr
import Derived.ArgAppend
import Derived.Laws.IdiomCopy
import Derived.OrdersHeld
import Derived.Laws.BitsLemmas
import Derived.RowKit
import Derived.Test.YtdhiijleafcfcaaWWords
import Derived.Test.YtdhiijleafcfcaaWLast
import Derived.Test.YtdhiijleafcfcaaWTab
import Derived.Test.YtdhiijleafcfcaaWFour
import Derived.Test.YtdhiijleafcfcaaWQPut
import Derived.Test.YtdhiijleafcfcaaWApart
import Derived.Test.YtdhiijleafcfcaaWArr
import Derived.Test.YtdhiijleafcfcaaWZeros
import Derived.Test.YtdhiijleafcfcaaWFoot
import Derived.Test.YtdhiijleafcfcaaWKept
import Derived.Test.YtdhiijleafcfcaaWShare
import Derived.Test.YtdhiijleafcfcaaWN
import Derived.Test.YtdhiijleafcfcaaWFootNe
import Derived.Test.YtdhiijleafcfcaaWAt
import Derived.Test.YtdhiijleafcfcaaWEqStruct
import Derived.Test.YtdhiijleafcfcaaWRepsOne
import Derived.Test.YtdhiijleafcfcaaWInv
import Derived.Test.YtdhiijleafcfcaaWInvWords
import Derived.Test.YtdhiijleafcfcaaWGuard
import Derived.Test.YtdhiijleafcfcaaWNEv
import Derived.Test.YtdhiijleafcfcaaWMore
import Derived.Test.YtdhiijleafcfcaaPM
import Derived.Test.YtdhiijleafcfcaaTf10
namespace Go.Proofs.Ytdhiijleafcfcaa.T
open Go.RowKit Go.Proofs.YtdhiijleafcfcaaW.PrintWords Go.Proofs.YtdhiijleafcfcaaW.PrintLast Go.Proofs.YtdhiijleafcfcaaW.PrintMore
attribute [local go_sem] max2_int min2_int max_two min_two max_three min_three max_four min_four
set_option linter.unusedVariables false
set_option linter.unusedSimpArgs false

theorem openFrom_spec (m ks : List Int) : ∀ (g i : Nat), (openFrom m ks g i = -1 ∧ ∀ j, i ≤ j → j < i + g → ¬ m <:+ ks.take j) ∨
    (∃ j : Nat, i ≤ j ∧ j < i + g ∧ openFrom m ks g i = (j : Int) ∧ m <:+ ks.take j ∧ ∀ j', i ≤ j' → j' < j → ¬ m <:+ ks.take j')
  | 0, i => .inl ⟨rfl, fun j h1 h2 => by omega⟩
  | g + 1, i => by
    unfold openFrom
    by_cases h : m <:+ ks.take i
    · rw [if_pos h]
      exact .inr ⟨i, Nat.le_refl _, by omega, rfl, h, fun j' h1 h2 => by omega⟩
    · rw [if_neg h]
      rcases openFrom_spec m ks g (i + 1) with ⟨h1, h2⟩ | ⟨j, h1, h2, h3, h4, h5⟩
      · refine .inl ⟨h1, fun j hj1 hj2 => ?_⟩
        by_cases e : j = i
        · subst e; exact h
        · exact h2 j (by omega) (by omega)
      · refine .inr ⟨j, by omega, by omega, h3, h4, fun j' hj1 hj2 => ?_⟩
        by_cases e : j' = i
        · subst e; exact h
        · exact h5 j' (by omega) hj2
section
variable (m ks fr : List Int) (hm : m.length < 9223372036854775807) (ht : tuneB m = true) (hk : ks.length ≤ 200) (hkn : ks.all noteB = true) (hf : fr.length * 8 ≤ 140737488351232)
include hm ht hk hf
theorem heard_law_l1 : ∀ (g i : Nat), g = ks.length + 1 - i → i ≤ ks.length + 1 → 1 ≤ i → Ev (fun k => padlocklaw03_PuzzlesHeard.l1 k m ks fr (openFrom m ks ks.length 1) (i : Int)) true := by
  have hl := tuneB_len m ht
  have hspec := openFrom_spec m ks ks.length 1
  intro g
  induction g with
  | zero =>
    intro i hg hi h1
    have hev := opens_ev m (fr ++ ks)
    refine Ev.step (f := fun k => (puzzles_Opens.f k m (fr ++ ks)).bind fun bt434 => (if bt434.2 = 0 then (if openFrom m ks ks.length 1 < 0 then ((padlocklaw03_works.f k).bind fun t436 => (some t436)) else (if bt434.1 ≥ 0 then (if bt434.1 ≤ (wrap64 ((fr.length : Int) + openFrom m ks ks.length 1)) then ((padlocklaw03_works.f k).bind fun t437 => (some t437)) else (some false)) else (some false))) else ((padlocklaw03_works.f k).bind fun t438 => (some t438)))) (fun k => ?_) (Ev.bind hev ?_)
    · rw [padlocklaw03_PuzzlesHeard.l1, if_neg (by omega), if_pos (by rw [List.length_nil]; omega)]
      simp only [Option.bind_some, List.nil_append]
      rw [if_pos (by omega)]
    · have hw : Ev (fun k => (padlocklaw03_works.f k).bind fun t => some t) true := Ev.bind works_ev (Ev.now _)
      by_cases c1 : (opensR m (fr ++ ks)).2 = 0
      · by_cases c2 : openFrom m ks ks.length 1 < 0
        · exact Ev.congr (fun k => by rw [if_pos c1, if_pos c2]) hw
        · rcases hspec with ⟨h1, _⟩ | ⟨n, hn1, hn2, hn3, hn4, _⟩
          · omega
          · have hR : (opensR m (fr ++ ks)).1 = openFrom m (fr ++ ks) (fr ++ ks).length 1 := by
              unfold opensR at c1 ⊢
              rw [ht] at c1 ⊢
              simp only [if_true] at c1 ⊢
              by_cases d1 : (fr ++ ks).length > 200
              · rw [if_pos d1] at c1; exact absurd c1 (by decide)
              · rw [if_neg d1] at c1 ⊢
                by_cases d2 : (fr ++ ks).all noteB = true
                · rw [if_pos d2]
                · rw [if_neg d2] at c1; exact absurd c1 (by decide)
            have htk : (fr ++ ks).take (fr.length + n) = fr ++ ks.take n := by rw [List.take_append, List.take_of_length_le (by omega)]; simp
            have hsuf : m <:+ (fr ++ ks).take (fr.length + n) := by
              rw [htk]
              exact hn4.trans (List.suffix_append fr _)
            have hw2 : wrap64 ((fr.length : Int) + openFrom m ks ks.length 1) = ((fr.length + n : Nat) : Int) := by rw [hn3, w64 _ (by omega) (by omega)]; omega
            rcases openFrom_spec m (fr ++ ks) (fr ++ ks).length 1 with ⟨_, h2⟩ | ⟨j, hj1, hj2, hj3, hj4, hj5⟩
            · exact absurd hsuf (h2 (fr.length + n) (by omega) (by rw [List.length_append]; omega))
            · have hle : j ≤ fr.length + n := by
                by_cases h : j ≤ fr.length + n
                · exact h
                · exact absurd hsuf (hj5 (fr.length + n) (by omega) (by omega))
              exact Ev.congr (fun k => by rw [if_pos c1, if_neg c2, hR, hj3, hw2, if_pos (by omega), if_pos (by omega)]) hw
      · exact Ev.congr (fun k => by rw [if_neg c1]) hw
  | succ g ih =>
    intro i hg hi h1
    have hw : wrap64 ((i : Int) + 1) = ((i + 1 : Nat) : Int) := by rw [w64 _ (by omega) (by omega)]; omega
    have IH := ih (i + 1) (by omega) (by omega) (by omega)
    refine Ev.step (f := fun k => (padlockref03_Ends.f k (ks.take i) m).bind fun t427 => (if (t427 != ((i : Int) == openFrom m ks ks.length 1)) = true then (if openFrom m ks ks.length 1 < 0 then (some false) else (if (i : Int) ≤ openFrom m ks ks.length 1 then (some false) else (padlocklaw03_PuzzlesHeard.l1 k m ks fr (openFrom m ks ks.length 1) ((i + 1 : Nat) : Int)))) else (padlocklaw03_PuzzlesHeard.l1 k m ks fr (openFrom m ks ks.length 1) ((i + 1 : Nat) : Int)))) (fun k => ?_) (Ev.bind (ends_ev (ks.take i) m (by rw [List.length_take]; omega) (by omega)) ?_)
    · rw [padlocklaw03_PuzzlesHeard.l1, if_pos (by omega), if_pos (by omega), hw, Int.toNat_natCast]
    · have good : (m <:+ ks.take i ↔ (i : Int) = openFrom m ks ks.length 1) → Ev (fun k => (if (decide (m <:+ ks.take i) != ((i : Int) == openFrom m ks ks.length 1)) = true then (if openFrom m ks ks.length 1 < 0 then (some false) else (if (i : Int) ≤ openFrom m ks ks.length 1 then (some false) else (padlocklaw03_PuzzlesHeard.l1 k m ks fr (openFrom m ks ks.length 1) ((i + 1 : Nat) : Int)))) else (padlocklaw03_PuzzlesHeard.l1 k m ks fr (openFrom m ks ks.length 1) ((i + 1 : Nat) : Int)))) true := by
        intro e
        have e2 : (decide (m <:+ ks.take i) != ((i : Int) == openFrom m ks ks.length 1)) = false := by
          by_cases h : m <:+ ks.take i
          · rw [decide_eq_true h, beq_iff_eq.2 (e.1 h)]; rfl
          · rw [decide_eq_false h, beq_eq_false_iff_ne.2 (fun h' => h (e.2 h'))]; rfl
        rw [e2]
        exact Ev.congr (fun k => if_neg (by decide)) IH
      rcases hspec with ⟨h1', h2⟩ | ⟨n, hn1, hn2, hn3, hn4, hn5⟩
      · exact good ⟨fun h => absurd h (h2 i h1 (by omega)), fun h => by rw [h1'] at h; omega⟩
      · by_cases hin : i ≤ n
        · refine good ⟨fun h => ?_, fun h => ?_⟩
          · rw [hn3]
            by_cases e : i = n
            · rw [e]
            · exact absurd h (hn5 i h1 (by omega))
          · rw [hn3] at h
            have : i = n := by omega
            rw [this]; exact hn4
        · refine Ev.congr (fun k => ?_) IH
          rw [hn3, if_neg (show ¬ (n : Int) < 0 by omega), if_neg (show ¬ (i : Int) ≤ (n : Int) by omega)]
          exact ite_self _
include hkn
theorem heard_law_l0 : ∀ (g i : Nat), g = ks.length - i → i ≤ ks.length → hdN m (ks.take i) < m.length → (∀ j, 1 ≤ j → j ≤ i → ¬ m <:+ ks.take j) →
    Ev (fun k => padlocklaw03_PuzzlesHeard.l0 k m ks fr (openFrom m ks ks.length 1) ((hdN m (ks.take i) : Nat) : Int) (-1) (i : Int)) true := by
  have hl := tuneB_len m ht
  have hspec := openFrom_spec m ks ks.length 1
  have hl1 := heard_law_l1 m ks fr hm ht hk hf (ks.length) 1 (by omega) (by omega) (by omega)
  intro g
  induction g with
  | zero =>
    intro i hg hi hlt hno
    have hn : openFrom m ks ks.length 1 = -1 := by
      rcases hspec with ⟨h1, _⟩ | ⟨n, hn1, hn2, hn3, hn4, _⟩
      · exact h1
      · exact absurd hn4 (hno n hn1 (by omega))
    refine Ev.step (f := fun k => padlocklaw03_PuzzlesHeard.j1 k m ks fr (openFrom m ks ks.length 1) ((hdN m (ks.take i) : Nat) : Int) (-1) (i : Int) false) (fun k => ?_) (Ev.step (f := fun k => padlocklaw03_PuzzlesHeard.l1 k m ks fr (openFrom m ks ks.length 1) ((1 : Nat) : Int)) (fun k => ?_) hl1)
    · rw [padlocklaw03_PuzzlesHeard.l0, if_neg (by omega)]
    · rw [padlocklaw03_PuzzlesHeard.j1, if_neg (by decide), if_pos hn.symm]
      rfl
  | succ g ih =>
    intro i hg hi hlt hno
    have hik : i < ks.length := by omega
    have hw : wrap64 ((i : Int) + 1) = ((i + 1 : Nat) : Int) := by rw [w64 _ (by omega) (by omega)]; omega
    have hwh : wrap64 (((hdN m (ks.take i) : Nat) : Int) + 1) = ((hdN m (ks.take i) + 1 : Nat) : Int) := by rw [w64 _ (by omega) (by omega)]; omega
    have e : hdN m (m.take (hdN m (ks.take i)) ++ [ks[i]]) = hdN m (ks.take (i + 1)) := by
      rw [hdN_snoc, ← List.take_succ_eq_append_getElem hik]
    have hst := hdN_step m (hdN m (ks.take i)) ks[i]
    have hnote : noteB ks[i] = true := (List.all_eq_true.1 hkn) _ (List.getElem_mem hik)
    have hpr : pressR m ((hdN m (ks.take i) : Nat) : Int) ks[i] = (((hdN m (ks.take (i + 1)) : Nat) : Int), 0) := by
      unfold pressR
      rw [ht, hnote, decide_eq_true (show (0 : Int) ≤ ((hdN m (ks.take i) : Nat) : Int) by omega), decide_eq_true (show ((hdN m (ks.take i) : Nat) : Int) ≤ (m.length : Int) - 1 by omega)]
      rw [Int.toNat_natCast, e]
      rfl
    have hpe := press_ev m ((hdN m (ks.take i) : Nat) : Int) ks[i]
    rw [hpr] at hpe
    rw [e] at hst
    have hbig : decide (((hdN m (ks.take (i + 1)) : Nat) : Int) > ((hdN m (ks.take i) + 1 : Nat) : Int)) = false := decide_eq_false (by omega)
    refine Ev.step (f := fun k => padlocklaw03_PuzzlesHeard.j1 k m ks fr (openFrom m ks ks.length 1) ((hdN m (ks.take i) : Nat) : Int) (-1) (i : Int) true) (fun k => ?_) ?_
    · rw [padlocklaw03_PuzzlesHeard.l0, if_pos (by omega)]
      rfl
    refine Ev.step (f := fun k => (puzzles_Press.f k m ((hdN m (ks.take i) : Nat) : Int) ks[i]).bind fun bt424 => (if bt424.2 = 0 then (if bt424.1 < 0 then (padlocklaw03_PuzzlesHeard.j2 k m ks fr (openFrom m ks ks.length 1) (-1) (i : Int) bt424.1 true) else (padlocklaw03_PuzzlesHeard.j2 k m ks fr (openFrom m ks ks.length 1) (-1) (i : Int) bt424.1 (decide (bt424.1 > ((hdN m (ks.take i) + 1 : Nat) : Int))))) else (padlocklaw03_PuzzlesHeard.j2 k m ks fr (openFrom m ks ks.length 1) (-1) (i : Int) bt424.1 true))) (fun k => ?_) (Ev.bind hpe ?_)
    · rw [padlocklaw03_PuzzlesHeard.j1, if_pos rfl, if_pos (by omega), if_pos (by omega), rd_lt ks i hik, hwh]
    · refine Ev.congr (f := fun k => padlocklaw03_PuzzlesHeard.j2 k m ks fr (openFrom m ks ks.length 1) (-1) (i : Int) ((hdN m (ks.take (i + 1)) : Nat) : Int) false) (fun k => ?_) ?_
      · show (if (0 : Int) = 0 then _ else _) = _
        rw [if_pos rfl, if_neg (by omega), hbig]
      · by_cases h : m <:+ ks.take (i + 1)
        · have hful := (hdN_full m _).2 h
          have hn : openFrom m ks ks.length 1 = ((i + 1 : Nat) : Int) := by
            rcases hspec with ⟨_, h2⟩ | ⟨n, hn1, hn2, hn3, hn4, hn5⟩
            · exact absurd h (h2 (i + 1) (by omega) (by omega))
            · have a1 : ¬ n ≤ i := fun hle => hno n hn1 hle hn4
              have a2 : ¬ i + 1 < n := fun hlt2 => hn5 (i + 1) (by omega) hlt2 h
              rw [hn3]
              omega
          have htail : ∀ b : Bool, b = false → Ev (fun k => padlocklaw03_PuzzlesHeard.j1 k m ks fr (openFrom m ks ks.length 1) ((hdN m (ks.take (i + 1)) : Nat) : Int) ((i + 1 : Nat) : Int) ((i + 1 : Nat) : Int) b) true := by
            rintro b rfl
            refine Ev.step (f := fun k => padlocklaw03_PuzzlesHeard.l1 k m ks fr (openFrom m ks ks.length 1) ((1 : Nat) : Int)) (fun k => ?_) hl1
            rw [padlocklaw03_PuzzlesHeard.j1, if_neg (by decide), if_pos hn.symm]
            rfl
          refine Ev.step (f := fun k => padlocklaw03_PuzzlesHeard.l0 k m ks fr (openFrom m ks ks.length 1) ((hdN m (ks.take (i + 1)) : Nat) : Int) ((i + 1 : Nat) : Int) ((i + 1 : Nat) : Int)) (fun k => ?_) ?_
          · rw [padlocklaw03_PuzzlesHeard.j2, if_neg (by decide), if_pos (by rw [hful]), hw]
          · by_cases hlast : i + 1 < ks.length
            · refine Ev.step (f := fun k => padlocklaw03_PuzzlesHeard.j1 k m ks fr (openFrom m ks ks.length 1) ((hdN m (ks.take (i + 1)) : Nat) : Int) ((i + 1 : Nat) : Int) ((i + 1 : Nat) : Int) (decide (((i + 1 : Nat) : Int) < 0))) (fun k => ?_) (htail _ (decide_eq_false (by omega)))
              rw [padlocklaw03_PuzzlesHeard.l0, if_pos (by omega)]
            · refine Ev.step (f := fun k => padlocklaw03_PuzzlesHeard.j1 k m ks fr (openFrom m ks ks.length 1) ((hdN m (ks.take (i + 1)) : Nat) : Int) ((i + 1 : Nat) : Int) ((i + 1 : Nat) : Int) false) (fun k => ?_) (htail _ rfl)
              rw [padlocklaw03_PuzzlesHeard.l0, if_neg (by omega)]
        · have hne : hdN m (ks.take (i + 1)) ≠ m.length := fun e => h ((hdN_full m _).1 e)
          have hle := hdN_le m (ks.take (i + 1))
          refine Ev.step (f := fun k => padlocklaw03_PuzzlesHeard.l0 k m ks fr (openFrom m ks ks.length 1) ((hdN m (ks.take (i + 1)) : Nat) : Int) (-1) ((i + 1 : Nat) : Int)) (fun k => ?_) (ih (i + 1) (by omega) (by omega) (by omega) fun j h1 h2 => ?_)
          · rw [padlocklaw03_PuzzlesHeard.j2, if_neg (by decide), if_neg (by omega), hw]
          · by_cases ej : j = i + 1
            · subst ej; exact h
            · exact hno j h1 (by omega)
end
theorem heard_law (m ks fr : List Int) (hm : m.length < 9223372036854775807) (hf : fr.length * 8 ≤ 140737488351232) : Ev (fun k => padlocklaw03_PuzzlesHeard.f k m ks fr) true := by
  unfold padlocklaw03_PuzzlesHeard.f
  refine Ev.bind (opens_ev m ks) ?_
  have hw : Ev (fun k => (padlocklaw03_works.f k).bind fun t => some t) true := Ev.bind works_ev (Ev.now _)
  by_cases c1 : (opensR m ks).2 = 0
  · unfold opensR at c1 ⊢
    cases ht : tuneB m with
    | false => rw [ht] at c1; simp at c1
    | true =>
      have hl := tuneB_len m ht
      rw [ht] at c1
      simp only [if_true] at c1 ⊢
      by_cases d1 : ks.length > 200
      · rw [if_pos d1] at c1; exact absurd c1 (by decide)
      · rw [if_neg d1] at c1 ⊢
        by_cases d2 : ks.all noteB = true
        · rw [if_pos d2]
          have h0 : hdN m (ks.take 0) < m.length := by
            have h1 := hdN_le m (ks.take 0)
            have h2 : hdN m (ks.take 0) ≠ m.length := fun e => by
              have := ((hdN_full m _).1 e).length_le
              rw [List.length_take] at this
              omega
            omega
          have h00 : hdN m (ks.take 0) = 0 := by
            have := (hdFrom_suf m (ks.take 0) m.length).length_le
            rw [List.length_take, List.length_take] at this
            unfold hdN at *
            omega
          have := heard_law_l0 m ks fr hm ht (by omega) d2 hf ks.length 0 (by omega) (by omega) h0 (fun j h1 h2 => by omega)
          rw [h00] at this
          exact Ev.congr (fun k => by simp) this
        · rw [if_neg d2] at c1; exact absurd c1 (by decide)
  · exact Ev.congr (fun k => if_neg c1) hw

end Go.Proofs.Ytdhiijleafcfcaa.T
