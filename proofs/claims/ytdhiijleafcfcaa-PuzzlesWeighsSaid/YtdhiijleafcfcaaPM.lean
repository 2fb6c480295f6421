/- Melodies, in plain lists. -/
import Derived.Test.YtdhiijleafcfcaaProg
import Derived.Below
import Derived.Deep.Draws
import Derived.Deep.AppendLies
import Derived.Maps.AppendAt
import Derived.OwnWalk
import Derived.Laws.BytesArg
import Derived.Laws.MakeOwn
import Derived.Laws.OwnMore
import Derived.Deep.OwnRows
import Derived.Tactics
import Derived.Lib.ConvBytes
import Derived.Laws.Slices
import Derived.WalkKit
import Derived.KernelRfl
import Derived.RowKit3
import Derived.Deep.LoopGhost
import Derived.Deep.QuietTactic
import Derived.BigQuiet
import Derived.WideLaws
import Derived.Deep.DeepCutAuto
import Derived.Deep.CutBlock
import Derived.Deep.RegionHeld3
import Derived.Laws.Rows
import Derived.Lib.AppendStr
import Derived.ArgAppend
import Derived.Laws.IdiomCopy
import Derived.OrdersHeld
import Derived.Laws.BitsLemmas
import Derived.RowKit
import Derived.Test.YtdhiijleafcfcaaWWords
import Derived.Test.YtdhiijleafcfcaaWLast
import Derived.Test.YtdhiijleafcfcaaWTab
import Derived.Test.YtdhiijleafcfcaaWFour
import Derived.Test.YtdhiijleafcfcaaWQPut
import Derived.Test.YtdhiijleafcfcaaWApart
import Derived.Test.YtdhiijleafcfcaaWArr
import Derived.Test.YtdhiijleafcfcaaWZeros
import Derived.Test.YtdhiijleafcfcaaWFoot
import Derived.Test.YtdhiijleafcfcaaWKept
import Derived.Test.YtdhiijleafcfcaaWShare
import Derived.Test.YtdhiijleafcfcaaWN
import Derived.Test.YtdhiijleafcfcaaWFootNe
import Derived.Test.YtdhiijleafcfcaaWAt
import Derived.Test.YtdhiijleafcfcaaWEqStruct
import Derived.Test.YtdhiijleafcfcaaWRepsOne
import Derived.Test.YtdhiijleafcfcaaWInv
import Derived.Test.YtdhiijleafcfcaaWInvWords
import Derived.Test.YtdhiijleafcfcaaWGuard
import Derived.Test.YtdhiijleafcfcaaWNEv
import Derived.Test.YtdhiijleafcfcaaWMore
import Derived.Test.YtdhiijleafcfcaaP0
import Derived.Test.YtdhiijleafcfcaaTm
namespace Go.Proofs.Ytdhiijleafcfcaa.T
open Go.RowKit Go.Proofs.YtdhiijleafcfcaaW.PrintWords Go.Proofs.YtdhiijleafcfcaaW.PrintLast Go.Proofs.YtdhiijleafcfcaaW.PrintMore
attribute [local go_sem] max2_int min2_int max_two min_two max_three min_three max_four min_four
set_option linter.unusedVariables false
set_option linter.unusedSimpArgs false

theorem slEqual_ev (a b : List Int) (hm : a.length ≤ maxLen) : Ev (fun k => slices_Equal_int_int.f k a b) (decide (a = b)) := by
  by_cases hl : a.length = b.length
  · have key : ∀ (n i : Nat), n = a.length - i → i ≤ a.length → a.take i = b.take i → Ev (fun k => slices_Equal_int_int.l0 k a b (a.length : Int) (i : Int)) (decide (a = b)) := by
      intro n
      induction n with
      | zero =>
        intro i hn hi ht
        have : i = a.length := by omega
        subst this
        refine Ev.step (f := fun _ => some true) (fun k => ?_) ?_
        · rw [slices_Equal_int_int.l0, if_neg (by omega)]
        · refine Ev.eq (Ev.now _) ?_
          rw [List.take_length, hl, List.take_length] at ht
          simp [ht]
      | succ n ih =>
        intro i hn hi ht
        have hia : i < a.length := by omega
        have hib : i < b.length := by omega
        have hw : wrap64 ((i : Int) + 1) = ((i + 1 : Nat) : Int) := by
          rw [w64 _ (by omega) (by have := hm; unfold maxLen at this; omega)]; omega
        by_cases h : a[i] = b[i]
        · refine Ev.step (f := fun k => slices_Equal_int_int.l0 k a b (a.length : Int) ((i + 1 : Nat) : Int)) (fun k => ?_) (ih (i + 1) (by omega) (by omega) ?_)
          · rw [slices_Equal_int_int.l0, if_pos (by omega), if_pos (by omega), if_pos (by omega), if_pos (by omega), rd_lt a i hia, rd_lt b i hib, if_pos h, hw]
          · rw [List.take_succ_eq_append_getElem hia, List.take_succ_eq_append_getElem hib, ht, h]
        · refine Ev.step (f := fun k => some false) (fun k => ?_) ?_
          · rw [slices_Equal_int_int.l0, if_pos (by omega), if_pos (by omega), if_pos (by omega), if_pos (by omega), rd_lt a i hia, rd_lt b i hib, if_neg h]
          · refine Ev.eq (Ev.now _) (Eq.symm (decide_eq_false fun e => h ?_))
            subst e
            rfl
    refine Ev.congr (f := fun k => slices_Equal_int_int.l0 k a b (a.length : Int) ((0 : Nat) : Int)) (fun k => ?_) (key _ 0 rfl (by omega) (by simp))
    unfold slices_Equal_int_int.f
    rw [if_pos (by omega)]
    rfl
  · refine Ev.congr (f := fun k => some false) (fun k => ?_) (Ev.eq (Ev.now _) (Eq.symm (decide_eq_false fun e => hl (by rw [e]))))
    unfold slices_Equal_int_int.f
    rw [if_neg (by omega)]
theorem ends_ev (ks m : List Int) (hm : ks.length < 9223372036854775807) (hm2 : m.length < 9223372036854775807) : Ev (fun k => padlockref03_Ends.f k ks m) (decide (m <:+ ks)) := by
  by_cases hl : (m.length : Int) > (ks.length : Int)
  · refine Ev.congr (f := fun k => some false) (fun k => by unfold padlockref03_Ends.f; rw [if_pos hl]) (Ev.eq (Ev.now _) (Eq.symm (decide_eq_false fun e => ?_)))
    have := e.length_le
    omega
  · have hsuf : m <:+ ks ↔ m = ks.drop (ks.length - m.length) := List.suffix_iff_eq_drop
    have hwl : wrap64 ((ks.length : Int) - (m.length : Int)) = ((ks.length - m.length : Nat) : Int) := by rw [w64 _ (by omega) (by omega)]; omega
    have hdl : (ks.drop (ks.length - m.length)).length = m.length := by rw [List.length_drop]; omega
    have key : ∀ (n i : Nat), n = m.length - i → i ≤ m.length → m.take i = (ks.drop (ks.length - m.length)).take i → Ev (fun k => padlockref03_Ends.l0 k ks m (i : Int)) (decide (m <:+ ks)) := by
      intro n
      induction n with
      | zero =>
        intro i hn hi ht
        refine Ev.step (f := fun _ => some true) (fun k => ?_) (Ev.eq (Ev.now _) (Eq.symm (decide_eq_true (hsuf.2 ?_))))
        · rw [padlockref03_Ends.l0, if_neg (by omega)]
        · rwa [List.take_of_length_le (by omega), List.take_of_length_le (by omega)] at ht
      | succ n ih =>
        intro i hn hi ht
        have hia : i < m.length := by omega
        have hib : i < (ks.drop (ks.length - m.length)).length := by omega
        have hik : ks.length - m.length + i < ks.length := by omega
        have hw : wrap64 ((i : Int) + 1) = ((i + 1 : Nat) : Int) := by rw [w64 _ (by omega) (by omega)]; omega
        have hw2 : wrap64 (((ks.length - m.length : Nat) : Int) + (i : Int)) = ((ks.length - m.length + i : Nat) : Int) := by rw [w64 _ (by omega) (by omega)]; omega
        by_cases h : ks[ks.length - m.length + i] = m[i]
        · refine Ev.step (f := fun k => padlockref03_Ends.l0 k ks m ((i + 1 : Nat) : Int)) (fun k => ?_) (ih (i + 1) (by omega) (by omega) ?_)
          · rw [padlockref03_Ends.l0, hwl, hw2, if_pos (by omega), if_pos (by omega), if_pos (by omega), if_pos (by omega), rd_lt ks _ hik, rd_lt m i hia, if_pos h, hw]
          · rw [List.take_succ_eq_append_getElem hia, List.take_succ_eq_append_getElem hib, ht, List.getElem_drop, h]
        · refine Ev.step (f := fun k => some false) (fun k => ?_) (Ev.eq (Ev.now _) (Eq.symm (decide_eq_false fun e => h ?_)))
          · rw [padlockref03_Ends.l0, hwl, hw2, if_pos (by omega), if_pos (by omega), if_pos (by omega), if_pos (by omega), rd_lt ks _ hik, rd_lt m i hia, if_neg h]
          · have e := hsuf.1 e
            have e2 : m[i] = (ks.drop (ks.length - m.length))[i] := by
              have := congrArg (fun l : List Int => l[i]?) e
              simp only [List.getElem?_eq_getElem hia, List.getElem?_eq_getElem hib] at this
              exact Option.some.inj this
            rw [e2, List.getElem_drop]
    exact Ev.congr (fun k => by unfold padlockref03_Ends.f; rw [if_neg hl]; rfl) (key _ 0 rfl (by omega) (by simp))
/-- How many notes of the melody have been heard behind the keys, at most k. -/
def hdFrom (m ks : List Int) : Nat → Nat
  | 0 => 0
  | k + 1 => if m.take (k + 1) <:+ ks then k + 1 else hdFrom m ks k
def hdN (m ks : List Int) : Nat := hdFrom m ks m.length
theorem hdFrom_le (m ks : List Int) : ∀ k, hdFrom m ks k ≤ k
  | 0 => Nat.le_refl _
  | k + 1 => by
    unfold hdFrom
    split
    · exact Nat.le_refl _
    · exact Nat.le_succ_of_le (hdFrom_le m ks k)
theorem hdFrom_suf (m ks : List Int) : ∀ k, m.take (hdFrom m ks k) <:+ ks
  | 0 => by simp [hdFrom]
  | k + 1 => by
    unfold hdFrom
    split
    · assumption
    · exact hdFrom_suf m ks k
theorem hdFrom_max (m ks : List Int) : ∀ k j, j ≤ k → m.take j <:+ ks → j ≤ hdFrom m ks k
  | 0, j, h, _ => by omega
  | k + 1, j, h, hs => by
    unfold hdFrom
    split
    · exact h
    · rename_i hn
      by_cases e : j = k + 1
      · subst e; exact absurd hs hn
      · exact hdFrom_max m ks k j (by omega) hs
theorem hdFrom_big (m ks : List Int) : ∀ k, k ≤ m.length → ks.length ≤ k → hdFrom m ks k = hdFrom m ks ks.length := by
  intro k hk h
  obtain ⟨d, rfl⟩ : ∃ d, k = ks.length + d := ⟨k - ks.length, by omega⟩
  induction d with
  | zero => rfl
  | succ d ih =>
    rw [show ks.length + (d + 1) = (ks.length + d) + 1 from rfl, hdFrom, if_neg ?_]
    · exact ih (by omega) (by omega)
    · intro hs
      have := hs.length_le
      rw [List.length_take] at this
      omega
theorem suf_snoc (l : List Int) (x : Int) (ks : List Int) (key : Int) : l ++ [x] <:+ ks ++ [key] ↔ l <:+ ks ∧ x = key := by
  constructor
  · rintro ⟨t, ht⟩
    rw [← List.append_assoc] at ht
    have h := List.append_inj' ht rfl
    exact ⟨⟨t, h.1⟩, by simpa using h.2⟩
  · rintro ⟨⟨t, rfl⟩, rfl⟩
    exact ⟨t, by rw [List.append_assoc]⟩
/-- Only what has been heard matters. -/
theorem hdN_snoc (m ks : List Int) (key : Int) : hdN m (m.take (hdN m ks) ++ [key]) = hdN m (ks ++ [key]) := by
  have key1 : ∀ k, k < m.length → (m.take (k + 1) <:+ m.take (hdN m ks) ++ [key] ↔ m.take (k + 1) <:+ ks ++ [key]) := by
    intro k hk
    rw [List.take_succ_eq_append_getElem hk, suf_snoc, suf_snoc]
    constructor
    · rintro ⟨h1, h2⟩
      exact ⟨h1.trans (hdFrom_suf m ks _), h2⟩
    · rintro ⟨h1, h2⟩
      refine ⟨?_, h2⟩
      have hle := hdFrom_max m ks m.length k (by omega) h1
      refine List.suffix_of_suffix_length_le h1 (hdFrom_suf m ks _) ?_
      rw [List.length_take, List.length_take]
      unfold hdN at *
      omega
  unfold hdN
  have : ∀ k, k ≤ m.length → hdFrom m (m.take (hdFrom m ks m.length) ++ [key]) k = hdFrom m (ks ++ [key]) k := by
    intro k
    induction k with
    | zero => intro _; rfl
    | succ k ih =>
      intro hk
      have e := key1 k (by omega)
      unfold hdN at e
      unfold hdFrom
      rw [ih (by omega)]
      by_cases h : m.take (k + 1) <:+ ks ++ [key]
      · rw [if_pos h, if_pos (e.2 h)]
      · rw [if_neg h, if_neg (fun h' => h (e.1 h'))]
  exact this _ (Nat.le_refl _)
theorem hdN_full (m ks : List Int) : hdN m ks = m.length ↔ m <:+ ks := by
  constructor
  · intro h
    have := hdFrom_suf m ks m.length
    unfold hdN at h
    rwa [h, List.take_length] at this
  · intro h
    have h1 := hdFrom_le m ks m.length
    have h2 := hdFrom_max m ks m.length m.length (Nat.le_refl _) (by rwa [List.take_length])
    unfold hdN
    omega
theorem hdN_le (m ks : List Int) : hdN m ks ≤ m.length := hdFrom_le _ _ _
theorem hdN_step (m : List Int) (n : Nat) (key : Int) : hdN m (m.take n ++ [key]) ≤ n + 1 := by
  have h := (hdFrom_suf m (m.take n ++ [key]) m.length).length_le
  have h2 := hdN_le m (m.take n ++ [key])
  rw [List.length_take, List.length_append, List.length_take, List.length_singleton] at h
  unfold hdN at *
  omega
theorem heard_l0 (m y : List Int) (hy : y.length < 9223372036854775807) (hm : m.length ≤ maxLen) : ∀ x : Nat, x ≤ y.length → x ≤ m.length → Ev (fun k => puzzles_heard.l0 k m y (x : Int)) ((hdFrom m y x : Nat) : Int) := by
  intro x
  induction x with
  | zero =>
    intro h1 h2
    have hw : wrap64 ((y.length : Int) - ((0 : Nat) : Int)) = (y.length : Int) := by rw [w64 _ (by omega) (by omega)]; omega
    refine Ev.step (f := fun k => (slices_Equal_int_int.f k [] []).bind fun t => if t = true then some (((0 : Nat) : Int)) else (puzzles_heard.l0 k m y (wrap64 (((0 : Nat) : Int) - 1)))) (fun k => ?_) (Ev.bind (slEqual_ev [] [] (by simp)) ?_)
    · rw [puzzles_heard.l0, hw, if_pos (by omega), if_pos (by omega), if_pos (by omega), if_pos (by omega), Int.toNat_natCast, List.drop_length, Int.toNat_natCast, List.take_zero]
    · exact Ev.congr (fun k => by simp [hdFrom]) (Ev.now _)
  | succ x ih =>
    intro h1 h2
    have hw : wrap64 ((y.length : Int) - ((x + 1 : Nat) : Int)) = ((y.length - (x + 1) : Nat) : Int) := by rw [w64 _ (by omega) (by omega)]; omega
    have hw1 : wrap64 (((x + 1 : Nat) : Int) - 1) = (x : Int) := by unfold maxLen at hm; rw [w64 _ (by omega) (by omega)]; omega
    refine Ev.step (f := fun k => (slices_Equal_int_int.f k (y.drop (y.length - (x + 1))) (m.take (x + 1))).bind fun t => if t = true then some (((x + 1 : Nat) : Int)) else (puzzles_heard.l0 k m y (x : Int))) (fun k => ?_) (Ev.bind (slEqual_ev _ _ (by rw [List.length_drop]; unfold maxLen; omega)) ?_)
    · rw [puzzles_heard.l0, hw, hw1, if_pos (by omega), if_pos (by omega), if_pos (by omega), if_pos (by omega), Int.toNat_natCast, Int.toNat_natCast]
    · have hs : (y.drop (y.length - (x + 1)) = m.take (x + 1)) ↔ m.take (x + 1) <:+ y := by
        rw [List.suffix_iff_eq_drop, List.length_take, Nat.min_eq_left h2]
        exact eq_comm
      unfold hdFrom
      by_cases h : m.take (x + 1) <:+ y
      · rw [if_pos h, decide_eq_true (hs.2 h)]
        exact Ev.congr (fun k => if_pos rfl) (Ev.now _)
      · rw [if_neg h, decide_eq_false (fun e => h (hs.1 e))]
        exact Ev.congr (fun k => if_neg (by decide)) (ih (by omega) (by omega))
theorem heard_ev (m : List Int) (n : Nat) (key : Int) (hn : n ≤ m.length) (hm : m.length < 1000) : Ev (fun k => puzzles_heard.f k m (n : Int) key) ((hdN m (m.take n ++ [key]) : Nat) : Int) := by
  have hl : (m.take n ++ [key]).length = n + 1 := by rw [List.length_append, List.length_take, List.length_singleton]; omega
  have hmn : mn ((m.take n ++ [key]).length : Int) (m.length : Int) = ((min (n + 1) m.length : Nat) : Int) := by
    rw [hl]; unfold mn; split <;> omega
  have hd : hdN m (m.take n ++ [key]) = hdFrom m (m.take n ++ [key]) (min (n + 1) m.length) := by
    unfold hdN
    by_cases h : n + 1 ≤ m.length
    · rw [Nat.min_eq_left h, hdFrom_big _ _ m.length (Nat.le_refl _) (by omega), hl]
    · rw [Nat.min_eq_right (by omega)]
  rw [hd]
  refine Ev.congr (f := fun k => puzzles_heard.l0 k m (m.take n ++ [key]) ((min (n + 1) m.length : Nat) : Int)) (fun k => ?_) (heard_l0 m _ (by omega) (by unfold maxLen; omega) _ (by omega) (by omega))
  unfold puzzles_heard.f
  rw [if_pos (by omega), if_pos (by omega), Int.toNat_natCast, show slices_Clone_int_int.f (m.take n) = some (m.take n) from if_pos (by rw [List.length_take]; omega), Option.bind_some, if_pos (by rw [List.length_take]; omega), Option.bind_some, hmn]
theorem refheard_ev (m ks : List Int) (hm : m.length < 1000) (hk : ks.length < 9223372036854775807) : Ev (fun k => padlockref03_heard.f k m ks) ((hdN m ks : Nat) : Int) := by
  have key : ∀ (n i : Nat), n = m.length - i → i ≤ m.length → Ev (fun k => padlockref03_heard.l0 k m ks ((hdFrom m ks i : Nat) : Int) ((i : Int) + 1)) ((hdN m ks : Nat) : Int) := by
    intro n
    induction n with
    | zero =>
      intro i hn hi
      have : i = m.length := by omega
      subst this
      refine Ev.step (f := fun _ => some ((hdN m ks : Nat) : Int)) (fun k => ?_) (Ev.now _)
      rw [padlockref03_heard.l0, if_neg (by omega)]
      rfl
    | succ n ih =>
      intro i hn hi
      have hw : wrap64 ((i : Int) + 1 + 1) = ((i + 1 : Nat) : Int) + 1 := by rw [w64 _ (by omega) (by omega)]; omega
      refine Ev.step (f := fun k => (padlockref03_Ends.f k ks (m.take (i + 1))).bind fun t => if t = true then (padlockref03_heard.l0 k m ks ((i + 1 : Nat) : Int) (((i + 1 : Nat) : Int) + 1)) else (padlockref03_heard.l0 k m ks ((hdFrom m ks i : Nat) : Int) (((i + 1 : Nat) : Int) + 1))) (fun k => ?_) (Ev.bind (ends_ev ks (m.take (i + 1)) hk (by rw [List.length_take]; omega)) ?_)
      · rw [padlockref03_heard.l0, if_pos (by omega), if_pos (by omega), hw, show ((i : Int) + 1).toNat = i + 1 from by omega, show ((i : Int) + 1) = ((i + 1 : Nat) : Int) from by omega]
      · have IH := ih (i + 1) (by omega) (by omega)
        rw [hdFrom] at IH
        by_cases h : m.take (i + 1) <:+ ks
        · rw [if_pos h] at IH
          rw [decide_eq_true h]
          exact Ev.congr (fun k => if_pos rfl) IH
        · rw [if_neg h] at IH
          rw [decide_eq_false h]
          exact Ev.congr (fun k => if_neg (by decide)) IH
  exact Ev.congr (fun k => rfl) (key _ 0 rfl (by omega))
def noteB (x : Int) : Bool := decide (0 ≤ x) && decide (x ≤ 9)
def tuneB (m : List Int) : Bool := decide (1 ≤ m.length) && decide (m.length ≤ 16) && m.all noteB
theorem notes_val (l : List Int) : puzzles_notes.f l = some (l.all noteB) := by
  unfold puzzles_notes.f cf135.f inR noteB
  rw [Option.bind_some]
  congr 1
  rw [List.all_eq_not_any_not]
theorem within_val (a b c : Int) : puzzles_within.f a b c = some (decide (b ≤ a) && decide (a ≤ c)) := by
  unfold puzzles_within.f
  by_cases h : a ≥ b
  · rw [if_pos h, decide_eq_true (show b ≤ a from h), Bool.true_and]
  · rw [if_neg h, decide_eq_false (show ¬ b ≤ a from h), Bool.false_and]
theorem refwithin_val (a b c : Int) : padlockref03_Within.f a b c = some (decide (b ≤ a) && decide (a ≤ c)) := by
  unfold padlockref03_Within.f
  by_cases h : a ≥ b
  · rw [if_pos h, decide_eq_true (show b ≤ a from h), Bool.true_and]
  · rw [if_neg h, decide_eq_false (show ¬ b ≤ a from h), Bool.false_and]
theorem dec_cast (a b : Nat) : decide ((a : Int) ≤ (b : Int)) = decide (a ≤ b) := by
  by_cases h : a ≤ b
  · rw [decide_eq_true h, decide_eq_true (by omega)]
  · rw [decide_eq_false h, decide_eq_false (by omega)]
theorem tune_val (m : List Int) : puzzles_tune.f m = some (tuneB m) := by
  unfold puzzles_tune.f tuneB
  rw [within_val, Option.bind_some, notes_val]
  have e1 : decide ((1 : Int) ≤ (m.length : Int)) = decide (1 ≤ m.length) := dec_cast 1 m.length
  have e2 : decide ((m.length : Int) ≤ 16) = decide (m.length ≤ 16) := dec_cast m.length 16
  rw [e1, e2]
  cases decide (1 ≤ m.length) && decide (m.length ≤ 16) <;> simp
theorem tuned_ev (m : List Int) (hm : m.length < 9223372036854775807) : Ev (fun k => padlockref03_tuned.f k m) (tuneB m) := by
  have key : ∀ (n i : Nat), n = m.length - i → i ≤ m.length → (∀ j (h : j < m.length), j < i → noteB m[j] = true) → Ev (fun k => padlockref03_tuned.l0 k m (i : Int)) (tuneB m) := by
    intro n
    induction n with
    | zero =>
      intro i hn hi hall
      have ha : m.all noteB = true := by
        rw [List.all_eq_true]
        intro x hx
        obtain ⟨j, hj, rfl⟩ := List.getElem_of_mem hx
        exact hall j hj (by omega)
      refine Ev.step (f := fun _ => some (tuneB m)) (fun k => ?_) (Ev.now _)
      have e1 : decide ((1 : Int) ≤ (m.length : Int)) = decide (1 ≤ m.length) := dec_cast 1 m.length
      have e2 : decide ((m.length : Int) ≤ 16) = decide (m.length ≤ 16) := dec_cast m.length 16
      rw [padlockref03_tuned.l0, if_neg (by omega), refwithin_val, e1, e2, Option.bind_some]
      unfold tuneB
      rw [ha, Bool.and_true]
    | succ n ih =>
      intro i hn hi hall
      have hia : i < m.length := by omega
      have hw : wrap64 ((i : Int) + 1) = ((i + 1 : Nat) : Int) := by rw [w64 _ (by omega) (by omega)]; omega
      by_cases e : noteB m[i] = true
      · refine Ev.step (f := fun k => padlockref03_tuned.l0 k m ((i + 1 : Nat) : Int)) (fun k => ?_) (ih (i + 1) (by omega) (by omega) fun j hj hl => ?_)
        · rw [padlockref03_tuned.l0, if_pos (by omega), if_pos (by omega), rd_lt m i hia, refwithin_val, Option.bind_some, hw]
          exact if_pos e
        · by_cases ej : j = i
          · subst ej; exact e
          · exact hall j hj (by omega)
      · refine Ev.step (f := fun k => some false) (fun k => ?_) (Ev.eq (Ev.now _) ?_)
        · rw [padlockref03_tuned.l0, if_pos (by omega), if_pos (by omega), rd_lt m i hia, refwithin_val, Option.bind_some, hw]
          exact if_neg e
        · have ha : m.all noteB = false := by
            rw [Bool.eq_false_iff]
            intro ha
            rw [List.all_eq_true] at ha
            exact e (ha _ (List.getElem_mem hia))
          unfold tuneB
          rw [ha, Bool.and_false]
  exact Ev.congr (fun k => rfl) (key _ 0 rfl (by omega) (fun j _ h => by omega))
/-- What Press returns. -/
def pressR (m : List Int) (n key : Int) : Int × Int :=
  if tuneB m && (decide (0 ≤ n) && decide (n ≤ (m.length : Int) - 1)) && noteB key then (((hdN m (m.take n.toNat ++ [key]) : Nat) : Int), 0) else (0, 1)
theorem tuneB_len (m : List Int) (h : tuneB m = true) : 1 ≤ m.length ∧ m.length ≤ 16 := by
  unfold tuneB at h
  simp only [Bool.and_eq_true, decide_eq_true_eq] at h
  exact h.1
theorem press_ev (m : List Int) (n key : Int) : Ev (fun k => puzzles_Press.f k m n key) (pressR m n key) := by
  unfold puzzles_Press.f pressR
  rw [tune_val]
  simp only [Option.bind_some]
  cases ht : tuneB m with
  | false => exact Ev.congr (fun k => by rw [if_neg (by decide)]) (Ev.eq (Ev.now (0, 1)) (by simp))
  | true =>
    have hl := tuneB_len m ht
    have hw : wrap64 ((m.length : Int) - 1) = (m.length : Int) - 1 := w64 _ (by omega) (by omega)
    rw [hw, within_val]
    simp only [Option.bind_some]
    cases hn : decide (0 ≤ n) && decide (n ≤ (m.length : Int) - 1) with
    | false => exact Ev.congr (fun k => by simp) (Ev.eq (Ev.now (0, 1)) (by simp))
    | true =>
      rw [within_val]
      simp only [Option.bind_some]
      rw [show (decide (0 ≤ key) && decide (key ≤ 9)) = noteB key from rfl]
      cases hk : noteB key with
      | false => exact Ev.congr (fun k => by simp) (Ev.eq (Ev.now (0, 1)) (by simp))
      | true =>
        simp only [Bool.and_eq_true, decide_eq_true_eq] at hn
        obtain ⟨n', rfl⟩ : ∃ n' : Nat, n = (n' : Int) := ⟨n.toNat, by omega⟩
        refine Ev.congr (f := fun k => (puzzles_heard.f k m (n' : Int) key).bind fun t => some (t, 0)) (fun k => by simp) (Ev.eq (Ev.bind (heard_ev m n' key (by omega) (by omega)) (Ev.now _)) (by simp))
theorem refpress_ev (m : List Int) (n key : Int) (hm : m.length < 9223372036854775807) : Ev (fun k => padlockref03_Press.f k m n key) (pressR m n key) := by
  unfold padlockref03_Press.f pressR
  refine Ev.bind (tuned_ev m hm) ?_
  cases ht : tuneB m with
  | false => exact Ev.congr (fun k => by rw [if_neg (by decide)]) (Ev.eq (Ev.now (0, 1)) (by simp))
  | true =>
    have hl := tuneB_len m ht
    have hw : wrap64 ((m.length : Int) - 1) = (m.length : Int) - 1 := w64 _ (by omega) (by omega)
    rw [hw, refwithin_val]
    simp only [Option.bind_some]
    cases hn : decide (0 ≤ n) && decide (n ≤ (m.length : Int) - 1) with
    | false => exact Ev.congr (fun k => by simp) (Ev.eq (Ev.now (0, 1)) (by simp))
    | true =>
      rw [refwithin_val]
      simp only [Option.bind_some]
      rw [show (decide (0 ≤ key) && decide (key ≤ 9)) = noteB key from rfl]
      cases hk : noteB key with
      | false => exact Ev.congr (fun k => by simp) (Ev.eq (Ev.now (0, 1)) (by simp))
      | true =>
        simp only [Bool.and_eq_true, decide_eq_true_eq] at hn
        obtain ⟨n', rfl⟩ : ∃ n' : Nat, n = (n' : Int) := ⟨n.toNat, by omega⟩
        refine Ev.congr (f := fun k => (padlockref03_heard.f k m (m.take n' ++ [key])).bind fun t => some (t, 0)) (fun k => ?_) (Ev.eq (Ev.bind (refheard_ev m _ (by omega) (by rw [List.length_append, List.length_take, List.length_singleton]; omega)) (Ev.now _)) (by simp))
        simp only [if_true]
        rw [if_pos (by omega), if_pos (by omega), Int.toNat_natCast, if_pos (by rw [List.length_nil, List.length_take]; omega)]
        simp only [Option.bind_some, List.nil_append]
        rw [if_pos (by rw [List.length_take]; omega)]
/-- The first place from i on behind which the last keys are the melody. -/
def openFrom (m ks : List Int) : Nat → Nat → Int
  | 0, _ => -1
  | g + 1, i => if m <:+ ks.take i then (i : Int) else openFrom m ks g (i + 1)
def opensR (m ks : List Int) : Int × Int := if tuneB m then (if ks.length > 200 then (0, 2) else if ks.all noteB then (openFrom m ks ks.length 1, 0) else (0, 1)) else (0, 1)
theorem opens_l0 (m ks : List Int) (hm : m.length ≤ 16) (hk : ks.length ≤ 200) : ∀ (g i : Nat), g = ks.length - i → i ≤ ks.length → hdN m (ks.take i) < m.length →
    Ev (fun k => puzzles_Opens.l0 k m ((hdN m (ks.take i) : Nat) : Int) ks (ks.length : Int) (i : Int)) (openFrom m ks g (i + 1), 0) := by
  intro g
  induction g with
  | zero =>
    intro i hg hi hlt
    refine Ev.step (f := fun _ => some (-1, 0)) (fun k => ?_) (Ev.now _)
    rw [puzzles_Opens.l0, if_neg (by omega)]
  | succ g ih =>
    intro i hg hi hlt
    have hik : i < ks.length := by omega
    have hw : wrap64 ((i : Int) + 1) = ((i + 1 : Nat) : Int) := by rw [w64 _ (by omega) (by omega)]; omega
    have e : hdN m (m.take (hdN m (ks.take i)) ++ [ks[i]]) = hdN m (ks.take (i + 1)) := by
      rw [hdN_snoc, ← List.take_succ_eq_append_getElem hik]
    refine Ev.step (f := fun k => (puzzles_heard.f k m ((hdN m (ks.take i) : Nat) : Int) ks[i]).bind fun t => if t = (m.length : Int) then some (((i + 1 : Nat) : Int), 0) else puzzles_Opens.l0 k m t ks (ks.length : Int) ((i + 1 : Nat) : Int)) (fun k => ?_) (Ev.bind (heard_ev m (hdN m (ks.take i)) ks[i] (by omega) (by omega)) ?_)
    · rw [puzzles_Opens.l0, if_pos (by omega), if_pos (by omega), if_pos (by omega), rd_lt ks i hik, hw]
    · rw [e]
      unfold openFrom
      by_cases h : m <:+ ks.take (i + 1)
      · rw [if_pos h]
        exact Ev.congr (fun k => if_pos (by rw [(hdN_full m _).2 h])) (Ev.now _)
      · rw [if_neg h]
        have hne : hdN m (ks.take (i + 1)) ≠ m.length := fun e => h ((hdN_full m _).1 e)
        have hle := hdN_le m (ks.take (i + 1))
        exact Ev.congr (fun k => if_neg (by omega)) (ih (i + 1) (by omega) (by omega) (by omega))
theorem opens_ev (m ks : List Int) : Ev (fun k => puzzles_Opens.f k m ks) (opensR m ks) := by
  unfold puzzles_Opens.f opensR
  rw [tune_val]
  simp only [Option.bind_some]
  cases ht : tuneB m with
  | false => exact Ev.congr (fun k => by rw [if_neg (by decide)]) (Ev.eq (Ev.now (0, 1)) (by simp))
  | true =>
    have hl := tuneB_len m ht
    simp only [if_true]
    by_cases hk : ks.length > 200
    · rw [if_pos hk]
      exact Ev.congr (fun k => if_pos (by omega)) (Ev.now _)
    · rw [if_neg hk]
      refine Ev.congr (f := fun k => (puzzles_notes.f ks).bind fun t395 => (if t395 = true then (puzzles_Opens.l0 k m 0 ks (ks.length : Int) 0) else (some (0, 1)))) (fun k => if_neg (by omega)) ?_
      rw [notes_val]
      simp only [Option.bind_some]
      cases hn : ks.all noteB with
      | false => exact Ev.congr (fun k => by simp) (Ev.eq (Ev.now (0, 1)) (by simp))
      | true =>
        have h0 : hdN m (ks.take 0) < m.length := by
          have h1 := hdN_le m (ks.take 0)
          have h2 : hdN m (ks.take 0) ≠ m.length := fun e => by
            have := ((hdN_full m _).1 e).length_le
            rw [List.length_take] at this
            omega
          omega
        have h00 : hdN m (ks.take 0) = 0 := by
          have := (hdFrom_suf m (ks.take 0) m.length).length_le
          rw [List.length_take, List.length_take] at this
          unfold hdN at *
          omega
        have := opens_l0 m ks hl.2 (by omega) ks.length 0 (by omega) (by omega) h0
        rw [h00] at this
        exact Ev.congr (fun k => by simp) this
theorem refopens_l1 (m ks : List Int) (hm : m.length ≤ 16) (hk : ks.length ≤ 200) : ∀ (g i : Nat), g = ks.length + 1 - i → i ≤ ks.length + 1 → Ev (fun k => padlockref03_Opens.l1 k m ks (i : Int)) (openFrom m ks g i, 0) := by
  intro g
  induction g with
  | zero =>
    intro i hg hi
    refine Ev.step (f := fun _ => some (-1, 0)) (fun k => ?_) (Ev.now _)
    rw [padlockref03_Opens.l1, if_neg (by omega)]
  | succ g ih =>
    intro i hg hi
    have hw : wrap64 ((i : Int) + 1) = ((i + 1 : Nat) : Int) := by rw [w64 _ (by omega) (by omega)]; omega
    refine Ev.step (f := fun k => (padlockref03_Ends.f k (ks.take i) m).bind fun t => if t = true then some ((i : Int), 0) else padlockref03_Opens.l1 k m ks ((i + 1 : Nat) : Int)) (fun k => ?_) (Ev.bind (ends_ev (ks.take i) m (by rw [List.length_take]; omega) (by omega)) ?_)
    · rw [padlockref03_Opens.l1, if_pos (by omega), if_pos (by omega), hw, Int.toNat_natCast]
    · unfold openFrom
      by_cases h : m <:+ ks.take i
      · rw [if_pos h, decide_eq_true h]
        exact Ev.congr (fun k => if_pos rfl) (Ev.now _)
      · rw [if_neg h, decide_eq_false h]
        exact Ev.congr (fun k => if_neg (by decide)) (ih (i + 1) (by omega) (by omega))
theorem refopens_ev (m ks : List Int) (hm : m.length < 9223372036854775807) : Ev (fun k => padlockref03_Opens.f k m ks) (opensR m ks) := by
  unfold padlockref03_Opens.f opensR
  refine Ev.bind (tuned_ev m hm) ?_
  cases ht : tuneB m with
  | false => exact Ev.congr (fun k => by rw [if_neg (by decide)]) (Ev.eq (Ev.now (0, 1)) (by simp))
  | true =>
    have hl := tuneB_len m ht
    simp only [if_true]
    by_cases hk : ks.length > 200
    · rw [if_pos hk]
      exact Ev.congr (fun k => if_pos (by omega)) (Ev.now _)
    · rw [if_neg hk]
      refine Ev.congr (f := fun k => padlockref03_Opens.l0 k m ks ((0 : Nat) : Int)) (fun k => if_neg (by omega)) ?_
      have key : ∀ (n i : Nat), n = ks.length - i → i ≤ ks.length → (∀ j (h : j < ks.length), j < i → noteB ks[j] = true) → Ev (fun k => padlockref03_Opens.l0 k m ks (i : Int)) (if ks.all noteB = true then (openFrom m ks ks.length 1, 0) else (0, 1)) := by
        intro n
        induction n with
        | zero =>
          intro i hn hi hall
          have ha : ks.all noteB = true := by
            rw [List.all_eq_true]
            intro x hx
            obtain ⟨j, hj, rfl⟩ := List.getElem_of_mem hx
            exact hall j hj (by omega)
          rw [ha, if_pos rfl]
          refine Ev.step (f := fun k => padlockref03_Opens.l1 k m ks ((1 : Nat) : Int)) (fun k => ?_) (refopens_l1 m ks hl.2 (by omega) ks.length 1 (by omega) (by omega))
          rw [padlockref03_Opens.l0, if_neg (by omega)]
          rfl
        | succ n ih =>
          intro i hn hi hall
          have hia : i < ks.length := by omega
          have hw : wrap64 ((i : Int) + 1) = ((i + 1 : Nat) : Int) := by rw [w64 _ (by omega) (by omega)]; omega
          by_cases e : noteB ks[i] = true
          · refine Ev.step (f := fun k => padlockref03_Opens.l0 k m ks ((i + 1 : Nat) : Int)) (fun k => ?_) (ih (i + 1) (by omega) (by omega) fun j hj hl => ?_)
            · rw [padlockref03_Opens.l0, if_pos (by omega), if_pos (by omega), rd_lt ks i hia, refwithin_val, Option.bind_some, hw]
              exact if_pos e
            · by_cases ej : j = i
              · subst ej; exact e
              · exact hall j hj (by omega)
          · refine Ev.step (f := fun k => some (0, 1)) (fun k => ?_) (Ev.eq (Ev.now _) ?_)
            · rw [padlockref03_Opens.l0, if_pos (by omega), if_pos (by omega), rd_lt ks i hia, refwithin_val, Option.bind_some, hw]
              exact if_neg e
            · have ha : ks.all noteB = false := by
                rw [Bool.eq_false_iff]
                intro ha
                rw [List.all_eq_true] at ha
                exact e (ha _ (List.getElem_mem hia))
              rw [ha, if_neg (by decide)]
      exact key _ 0 rfl (by omega) (fun j _ h => by omega)

end Go.Proofs.Ytdhiijleafcfcaa.T
