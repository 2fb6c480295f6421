/- Next, in plain lists. -/
import Derived.Test.YtdhiijleafcfcaaProg
import Derived.Below
import Derived.Deep.Draws
import Derived.Deep.AppendLies
import Derived.Maps.AppendAt
import Derived.OwnWalk
import Derived.Laws.BytesArg
import Derived.Laws.MakeOwn
import Derived.Laws.OwnMore
import Derived.Deep.OwnRows
import Derived.Tactics
import Derived.Lib.ConvBytes
import Derived.Laws.Slices
import Derived.WalkKit
import Derived.KernelRfl
import Derived.RowKit3
import Derived.Deep.LoopGhost
import Derived.Deep.QuietTactic
import Derived.BigQuiet
import Derived.WideLaws
import Derived.Deep.DeepCutAuto
import Derived.Deep.CutBlock
import Derived.Deep.RegionHeld3
import Derived.Laws.Rows
import Derived.Lib.AppendStr
import Derived.ArgAppend
import Derived.Laws.IdiomCopy
import Derived.OrdersHeld
import Derived.Laws.BitsLemmas
import Derived.RowKit
import Derived.Test.YtdhiijleafcfcaaWWords
import Derived.Test.YtdhiijleafcfcaaWLast
import Derived.Test.YtdhiijleafcfcaaWTab
import Derived.Test.YtdhiijleafcfcaaWFour
import Derived.Test.YtdhiijleafcfcaaWQPut
import Derived.Test.YtdhiijleafcfcaaWApart
import Derived.Test.YtdhiijleafcfcaaWArr
import Derived.Test.YtdhiijleafcfcaaWZeros
import Derived.Test.YtdhiijleafcfcaaWFoot
import Derived.Test.YtdhiijleafcfcaaWKept
import Derived.Test.YtdhiijleafcfcaaWShare
import Derived.Test.YtdhiijleafcfcaaWN
import Derived.Test.YtdhiijleafcfcaaWFootNe
import Derived.Test.YtdhiijleafcfcaaWAt
import Derived.Test.YtdhiijleafcfcaaWEqStruct
import Derived.Test.YtdhiijleafcfcaaWRepsOne
import Derived.Test.YtdhiijleafcfcaaWInv
import Derived.Test.YtdhiijleafcfcaaWInvWords
import Derived.Test.YtdhiijleafcfcaaWGuard
import Derived.Test.YtdhiijleafcfcaaWNEv
import Derived.Test.YtdhiijleafcfcaaWMore
import Derived.Test.YtdhiijleafcfcaaP0
import Derived.Test.YtdhiijleafcfcaaTn
namespace Go.Proofs.Ytdhiijleafcfcaa.T
open Go.RowKit Go.Proofs.YtdhiijleafcfcaaW.PrintWords Go.Proofs.YtdhiijleafcfcaaW.PrintLast Go.Proofs.YtdhiijleafcfcaaW.PrintMore
attribute [local go_sem] max2_int min2_int max_two min_two max_three min_three max_four min_four
set_option linter.unusedVariables false
set_option linter.unusedSimpArgs false

def diffW : List Int → List Int
  | a :: b :: t => wrap64 (b - a) :: diffW (b :: t)
  | _ => []
theorem diffW_len : ∀ l : List Int, (diffW l).length = l.length - 1
  | [] => rfl
  | [_] => rfl
  | a :: b :: t => by simp [diffW, diffW_len (b :: t)]
theorem diffW_get : ∀ (l : List Int) (i : Nat) (h : i < (diffW l).length) (h1 : i < l.length) (h2 : i + 1 < l.length), (diffW l)[i] = wrap64 (l[i + 1] - l[i])
  | [], _, h, _, _ => by simp [diffW] at h
  | [_], _, h, _, _ => by simp [diffW] at h
  | a :: b :: t, 0, _, _, _ => by simp [diffW]
  | a :: b :: t, i + 1, h, h1, h2 => by
    have := diffW_get (b :: t) i (by simpa [diffW] using h) (by simpa using h1) (by simpa using h2)
    simpa [diffW] using this
def lastW (l : List Int) : Int := rd l ((l.length : Int) - 1)
def allEq (l : List Int) : Bool := l.all fun x => x == rd l 0
def in64 (x : Int) : Prop := -9223372036854775808 ≤ x ∧ x ≤ 9223372036854775807
theorem in64_wrap (x : Int) : in64 (wrap64 x) := by unfold in64 wrap64; omega
theorem diffW_in64 (l : List Int) : ∀ x ∈ diffW l, in64 x := by
  intro x hx
  obtain ⟨i, hi, rfl⟩ := List.getElem_of_mem hx
  have hl := diffW_len l
  rw [diffW_get l i hi (by omega) (by omega)]
  exact in64_wrap _
/-- The smallest of a row, from i on. -/
theorem min_l0 (l : List Int) (hm : l.length ≤ maxLen) : ∀ (n i : Nat) (m : Int), n = l.length - i → 0 < i → i ≤ l.length → m ∈ l → (∀ j (h : j < l.length), j < i → m ≤ l[j]) →
    ∃ r, Ev (fun k => slices_Min_int_int.l0 k l m (i : Int)) r ∧ r ∈ l ∧ ∀ j (h : j < l.length), r ≤ l[j] := by
  intro n
  induction n with
  | zero =>
    intro i m hn h0 hi hmem hle
    refine ⟨m, Ev.step (f := fun _ => some m) (fun k => ?_) (Ev.now _), hmem, fun j h => hle j h (by omega)⟩
    conv => lhs; unfold slices_Min_int_int.l0
    rw [if_neg (by omega)]
  | succ n ih =>
    intro i m hn h0 hi hmem hle
    have hia : i < l.length := by omega
    have hw : wrap64 ((i : Int) + 1) = ((i + 1 : Nat) : Int) := by
      rw [w64 _ (by omega) (by unfold maxLen at hm; omega)]; omega
    have hmn : mn m l[i] ∈ l := by unfold mn; split; exact List.getElem_mem hia; exact hmem
    obtain ⟨r, h1, h2, h3⟩ := ih (i + 1) (mn m l[i]) (by omega) (by omega) (by omega) hmn (fun j h hj => by
      by_cases e : j = i
      · subst e; unfold mn; split <;> omega
      · have := hle j h (by omega); unfold mn; split <;> omega)
    refine ⟨r, Ev.step (f := fun k => slices_Min_int_int.l0 k l (mn m l[i]) ((i + 1 : Nat) : Int)) (fun k => ?_) h1, h2, h3⟩
    conv => lhs; unfold slices_Min_int_int.l0
    rw [if_pos (by omega), if_pos (by omega), rd_lt l i hia, hw]
theorem max_l0 (l : List Int) (hm : l.length ≤ maxLen) : ∀ (n i : Nat) (m : Int), n = l.length - i → 0 < i → i ≤ l.length → m ∈ l → (∀ j (h : j < l.length), j < i → l[j] ≤ m) →
    ∃ r, Ev (fun k => slices_Max_int_int.l0 k l m (i : Int)) r ∧ r ∈ l ∧ ∀ j (h : j < l.length), l[j] ≤ r := by
  intro n
  induction n with
  | zero =>
    intro i m hn h0 hi hmem hle
    refine ⟨m, Ev.step (f := fun _ => some m) (fun k => ?_) (Ev.now _), hmem, fun j h => hle j h (by omega)⟩
    conv => lhs; unfold slices_Max_int_int.l0
    rw [if_neg (by omega)]
  | succ n ih =>
    intro i m hn h0 hi hmem hle
    have hia : i < l.length := by omega
    have hw : wrap64 ((i : Int) + 1) = ((i + 1 : Nat) : Int) := by
      rw [w64 _ (by omega) (by unfold maxLen at hm; omega)]; omega
    have hmn : mx m l[i] ∈ l := by unfold mx; split; exact List.getElem_mem hia; exact hmem
    obtain ⟨r, h1, h2, h3⟩ := ih (i + 1) (mx m l[i]) (by omega) (by omega) (by omega) hmn (fun j h hj => by
      by_cases e : j = i
      · subst e; unfold mx; split <;> omega
      · have := hle j h (by omega); unfold mx; split <;> omega)
    refine ⟨r, Ev.step (f := fun k => slices_Max_int_int.l0 k l (mx m l[i]) ((i + 1 : Nat) : Int)) (fun k => ?_) h1, h2, h3⟩
    conv => lhs; unfold slices_Max_int_int.l0
    rw [if_pos (by omega), if_pos (by omega), rd_lt l i hia, hw]
theorem rd_zero (l : List Int) (h : 0 < l.length) : rd l 0 = l[0] := rd_lt l 0 h
theorem minmax_ev (l : List Int) (hm : l.length ≤ maxLen) (h : 0 < l.length) : ∃ a b, Ev (fun k => slices_Min_int_int.f k l) a ∧ Ev (fun k => slices_Max_int_int.f k l) b ∧ (a = b ↔ allEq l = true) := by
  obtain ⟨a, h1, h2, h3⟩ := min_l0 l hm _ 1 l[0] rfl (by omega) (by omega) (List.getElem_mem h) (fun j hj e => by obtain rfl : j = 0 := (by omega); exact Int.le_refl _)
  obtain ⟨b, h4, h5, h6⟩ := max_l0 l hm _ 1 l[0] rfl (by omega) (by omega) (List.getElem_mem h) (fun j hj e => by obtain rfl : j = 0 := (by omega); exact Int.le_refl _)
  refine ⟨a, b, Ev.congr (fun k => ?_) h1, Ev.congr (fun k => ?_) h4, ?_⟩
  · unfold slices_Min_int_int.f
    rw [if_neg (by omega), if_pos (by omega), rd_zero l h]
    rfl
  · unfold slices_Max_int_int.f
    rw [if_neg (by omega), if_pos (by omega), rd_zero l h]
    rfl
  · unfold allEq
    rw [rd_zero l h, List.all_eq_true]
    constructor
    · intro e x hx
      obtain ⟨i, hi, rfl⟩ := List.getElem_of_mem hx
      have a1 := h3 i hi; have a2 := h6 i hi; have a3 := h3 0 h; have a4 := h6 0 h
      simp only [beq_iff_eq]
      omega
    · intro e
      have e1 := e a h2
      have e2 := e b h5
      simp only [beq_iff_eq] at e1 e2
      rw [e1, e2]
theorem equal_ev (l : List Int) (hm : l.length ≤ maxLen) (h : 0 < l.length) : Ev (fun k => padlockref03_equal.f k l) (allEq l) := by
  have key : ∀ (n i : Nat), n = l.length - i → i ≤ l.length → (∀ j (h : j < l.length), j < i → l[j] = l[0]) → Ev (fun k => padlockref03_equal.l0 k l (i : Int)) (allEq l) := by
    intro n
    induction n with
    | zero =>
      intro i hn hi hall
      refine Ev.step (f := fun _ => some true) (fun k => ?_) (Ev.eq (Ev.now _) ?_)
      · conv => lhs; unfold padlockref03_equal.l0
        rw [if_neg (by omega)]
      · unfold allEq
        rw [rd_zero l h, Eq.comm, List.all_eq_true]
        intro x hx
        obtain ⟨j, hj, rfl⟩ := List.getElem_of_mem hx
        exact beq_iff_eq.2 (hall j hj (by omega))
    | succ n ih =>
      intro i hn hi hall
      have hia : i < l.length := by omega
      have hw : wrap64 ((i : Int) + 1) = ((i + 1 : Nat) : Int) := by
        rw [w64 _ (by omega) (by unfold maxLen at hm; omega)]; omega
      by_cases e : l[i] = l[0]
      · refine Ev.step (f := fun k => padlockref03_equal.l0 k l ((i + 1 : Nat) : Int)) (fun k => ?_) (ih (i + 1) (by omega) (by omega) fun j hj hl => ?_)
        · conv => lhs; unfold padlockref03_equal.l0
          rw [if_pos (by omega), if_pos (by omega), if_pos (by omega), rd_lt l i hia, rd_zero l h, if_pos e, hw]
        · by_cases ej : j = i
          · subst ej; exact e
          · exact hall j hj (by omega)
      · refine Ev.step (f := fun k => some false) (fun k => ?_) (Ev.eq (Ev.now _) ?_)
        · conv => lhs; unfold padlockref03_equal.l0
          rw [if_pos (by omega), if_pos (by omega), if_pos (by omega), rd_lt l i hia, rd_zero l h, if_neg e]
        · unfold allEq
          rw [rd_zero l h, Eq.comm, Bool.eq_false_iff]
          intro ha
          rw [List.all_eq_true] at ha
          exact e (beq_iff_eq.1 (ha _ (List.getElem_mem hia)))
  exact Ev.congr (fun k => rfl) (key _ 0 rfl (by omega) (fun j _ hj => by omega))
theorem differences_ev (l : List Int) (hm : l.length < 17592186044416) : Ev (fun k => padlockref03_differences.f k l) (diffW l) := by
  have hd := diffW_len l
  have key : ∀ (n i : Nat), n = l.length - (i + 1) → i < (l.length) ∨ i = 0 → Ev (fun k => padlockref03_differences.l0 k l ((diffW l).take i) ((i : Int) + 1)) (diffW l) := by
    intro n
    induction n with
    | zero =>
      intro i hn hi
      refine Ev.step (f := fun _ => some ((diffW l).take i)) (fun k => ?_) (Ev.eq (Ev.now _) ?_)
      · conv => lhs; unfold padlockref03_differences.l0
        rw [if_neg (by omega)]
      · exact List.take_of_length_le (by omega)
    | succ n ih =>
      intro i hn hi
      have hw : wrap64 ((i : Int) + 1 + 1) = ((i + 1 : Nat) : Int) + 1 := by rw [w64 _ (by omega) (by omega)]; omega
      have hw1 : wrap64 ((i : Int) + 1 - 1) = (i : Int) := by rw [w64 _ (by omega) (by omega)]; omega
      refine Ev.step (f := fun k => padlockref03_differences.l0 k l ((diffW l).take (i + 1)) (((i + 1 : Nat) : Int) + 1)) (fun k => ?_) (ih (i + 1) (by omega) (by omega))
      conv => lhs; unfold padlockref03_differences.l0
      rw [hw1, if_pos (by omega), if_pos (by omega), if_pos (by omega), if_pos (by omega), if_pos (by rw [List.length_take]; omega), hw]
      rw [show ((i : Int) + 1) = ((i + 1 : Nat) : Int) from by omega, rd_lt l (i + 1) (by omega), rd_lt l i (by omega), List.take_succ_eq_append_getElem (by omega), diffW_get l i (by omega) (by omega) (by omega)]
  exact Ev.congr (fun k => by unfold padlockref03_differences.f; simp) (key _ 0 rfl (.inr rfl))
/-- The number that follows, n differences deep. -/
def followW : Nat → List Int → Int
  | 0, l => lastW l
  | n + 1, l => wrap64 (lastW l + followW n (diffW l))
theorem follow_ev : ∀ (n : Nat) (l : List Int), n < l.length → l.length < 17592186044416 → Ev (fun k => padlockref03_follow.f k l (n : Int)) (followW n l) := by
  intro n
  induction n with
  | zero =>
    intro l h hm
    have hw : wrap64 ((l.length : Int) - 1) = (l.length : Int) - 1 := w64 _ (by omega) (by omega)
    refine Ev.step (f := fun _ => some (lastW l)) (fun k => ?_) (Ev.now _)
    conv => lhs; unfold padlockref03_follow.f
    rw [hw, if_pos (by omega), if_pos (by omega), if_pos (by omega)]
    rfl
  | succ n ih =>
    intro l h hm
    have hw : wrap64 ((l.length : Int) - 1) = (l.length : Int) - 1 := w64 _ (by omega) (by omega)
    have hw1 : wrap64 (((n + 1 : Nat) : Int) - 1) = (n : Int) := by rw [w64 _ (by omega) (by omega)]; omega
    have hd := diffW_len l
    refine Ev.step (f := fun k => (padlockref03_differences.f k l).bind fun t => (padlockref03_follow.f k t (n : Int)).bind fun t130 => some (wrap64 (lastW l + t130))) (fun k => ?_) ?_
    · conv => lhs; unfold padlockref03_follow.f
      rw [hw, hw1, if_pos (by omega), if_pos (by omega), if_neg (by omega)]
      rfl
    · exact Ev.bind (differences_ev l hm) (Ev.bind (ih (diffW l) (by omega) (by omega)) (Ev.now _))
/-- Next, both roads at once: how many differences deep the row is even, and what that gives. -/
def nextW : Nat → Int → Nat → List Int → Int × Int × Int
  | 0, _, _, _ => (0, 0, 3)
  | f + 1, acc, d, l => if l.length < 2 then (0, 0, 3) else if allEq l then (wrap64 (acc + lastW l), (d : Int), 0) else nextW f (wrap64 (acc + lastW l)) (d + 1) (diffW l)
/-- The code's inner loop: the row turns into its differences where it lies. -/
theorem inner_ev (x2 x3 : Int) (l : List Int) (hl : 2 ≤ l.length) (hm : l.length < 17592186044416) (r : Int × Int × Int) (hr : Ev (fun k => puzzles_Next.l0 k x2 (wrap64 (x3 + 1)) (diffW l)) r) :
    Ev (fun k => puzzles_Next.l1 k x2 x3 l (wrap64 ((l.length : Int) - 1)) 0) r := by
  have hd := diffW_len l
  have hw : wrap64 ((l.length : Int) - 1) = (l.length : Int) - 1 := w64 _ (by omega) (by omega)
  have key : ∀ (n i : Nat), n = l.length - 1 - i → i ≤ l.length - 1 → Ev (fun k => puzzles_Next.l1 k x2 x3 ((diffW l).take i ++ l.drop i) ((l.length : Int) - 1) (i : Int)) r := by
    intro n
    induction n with
    | zero =>
      intro i hn hi
      have : i = l.length - 1 := by omega
      subst this
      have e1 : (diffW l).take (l.length - 1) = diffW l := List.take_of_length_le (by omega)
      have e2 : ((diffW l) ++ l.drop (l.length - 1)).length = l.length := by rw [List.length_append, List.length_drop]; omega
      rw [e1]
      refine Ev.step (fun k => ?_) hr
      conv => lhs; unfold puzzles_Next.l1
      rw [if_neg (by omega), e2, hw, if_pos (by omega), if_pos (by omega)]
      rw [show (((l.length : Int) - 1)).toNat = (diffW l).length from by omega, List.take_left]
    | succ n ih =>
      intro i hn hi
      have hwi : wrap64 ((i : Int) + 1) = ((i + 1 : Nat) : Int) := by rw [w64 _ (by omega) (by omega)]; omega
      have IH := ih (i + 1) (by omega) (by omega)
      clear ih
      obtain ⟨X, hX⟩ : ∃ X, (diffW l).take i ++ l.drop i = X := ⟨_, rfl⟩
      have hlen : X.length = l.length := by rw [← hX, List.length_append, List.length_take, List.length_drop]; omega
      have hti : ((diffW l).take i).length = i := by rw [List.length_take]; omega
      have b1 : (i : Int) < (l.length : Int) - 1 := by omega
      have b2 : (0 : Int) ≤ ((i + 1 : Nat) : Int) := by omega
      have b3 : ((i + 1 : Nat) : Int) < (X.length : Int) := by omega
      have b4 : (0 : Int) ≤ (i : Int) := by omega
      have b5 : (i : Int) < (X.length : Int) := by omega
      have b6 : i < X.length := by omega
      have b7 : i + 1 < X.length := by omega
      have b8 : i < (diffW l).length := by omega
      have b9 : i < l.length := by omega
      have b10 : i + 1 < l.length := by omega
      have b11 : ((diffW l).take i).length ≤ i := by omega
      have b12 : ((diffW l).take i).length ≤ i + 1 := by omega
      have g1 : rd X (i : Int) = l[i] := by
        rw [rd_lt X i b6]
        subst hX
        rw [List.getElem_append_right b11]
        simp [hti]
      have g2 : rd X ((i + 1 : Nat) : Int) = l[i + 1] := by
        rw [rd_lt X (i + 1) b7]
        subst hX
        rw [List.getElem_append_right b12]
        simp [hti]
      have hset : ((diffW l).take i ++ l.drop i).set i (wrap64 (l[i + 1] - l[i])) = (diffW l).take (i + 1) ++ l.drop (i + 1) := by
        rw [List.set_append_right _ _ b11, hti, Nat.sub_self, List.take_succ_eq_append_getElem b8, diffW_get l i b8 b9 b10, List.append_assoc]
        congr 1
        rw [List.drop_eq_getElem_cons b9]
        rfl
      rw [hX] at hset
      rw [← hset] at IH
      rw [hX]
      clear hX hset
      refine Ev.step (fun k => ?_) IH
      rw [puzzles_Next.l1, hwi, g1, g2, Int.toNat_natCast]
      rw [if_pos b1, if_pos b2, if_pos b3, if_pos b4, if_pos b5]
  have := key _ 0 rfl (by omega)
  rw [hw]
  simpa using this
theorem next_l0 : ∀ (f : Nat) (acc : Int) (d : Nat) (l : List Int), l.length ≤ f → l.length + d < 17592186044416 → Ev (fun k => puzzles_Next.l0 k acc (d : Int) l) (nextW f acc d l) := by
  intro f
  induction f with
  | zero =>
    intro acc d l hl hm
    refine Ev.step (f := fun _ => some (0, 0, 3)) (fun k => ?_) (Ev.now _)
    conv => lhs; unfold puzzles_Next.l0
    rw [if_neg (by omega)]
  | succ f ih =>
    intro acc d l hl hm
    by_cases h2 : l.length < 2
    · refine Ev.step (f := fun _ => some (0, 0, 3)) (fun k => ?_) (Ev.eq (Ev.now _) (by unfold nextW; rw [if_pos h2]))
      conv => lhs; unfold puzzles_Next.l0
      rw [if_neg (by omega)]
    · obtain ⟨a, b, ha, hb, hab⟩ := minmax_ev l (by unfold maxLen; omega) (by omega)
      have hw : wrap64 ((l.length : Int) - 1) = (l.length : Int) - 1 := w64 _ (by omega) (by omega)
      have hwd : wrap64 ((d : Int) + 1) = ((d + 1 : Nat) : Int) := by rw [w64 _ (by omega) (by omega)]; omega
      refine Ev.step (f := fun k => (slices_Min_int_int.f k l).bind fun t111 => (slices_Max_int_int.f k l).bind fun t112 => if t111 = t112 then some (wrap64 (acc + lastW l), (d : Int), 0) else puzzles_Next.l1 k (wrap64 (acc + lastW l)) (d : Int) l (wrap64 ((l.length : Int) - 1)) 0) (fun k => ?_) ?_
      · conv => lhs; unfold puzzles_Next.l0
        rw [if_pos (by omega), hw, if_pos (by omega), if_pos (by omega)]
        rfl
      · refine Ev.bind ha (Ev.bind hb ?_)
        unfold nextW
        rw [if_neg h2]
        by_cases e : a = b
        · rw [if_pos (hab.1 e)]
          refine Ev.congr (fun k => if_pos e) (Ev.now _)
        · have e' : allEq l ≠ true := fun h => e (hab.2 h)
          rw [if_neg e']
          refine Ev.congr (fun k => if_neg e) (inner_ev _ _ l (by omega) (by omega) _ ?_)
          rw [hwd]
          exact ih _ _ _ (by rw [diffW_len]; omega) (by rw [diffW_len]; omega)
def diffs : Nat → List Int → List Int
  | 0, l => l
  | n + 1, l => diffs n (diffW l)
theorem diffs_succ : ∀ (n : Nat) (l : List Int), diffs (n + 1) l = diffW (diffs n l)
  | 0, _ => rfl
  | n + 1, l => diffs_succ n (diffW l)
theorem diffs_len : ∀ (n : Nat) (l : List Int), (diffs n l).length = l.length - n
  | 0, _ => rfl
  | n + 1, l => by rw [diffs, diffs_len n, diffW_len]; omega
/-- The sum of the last numbers of the rows above. -/
def lastSum : Nat → List Int → Int
  | 0, _ => 0
  | n + 1, l => lastW l + lastSum n (diffW l)
theorem lastSum_succ : ∀ (n : Nat) (l : List Int), lastSum (n + 1) l = lastSum n l + lastW (diffs n l)
  | 0, l => by simp [lastSum, diffs]
  | n + 1, l => by
    have := lastSum_succ n (diffW l)
    rw [lastSum, this]
    simp only [lastSum, diffs]
    omega
theorem lastW_in64 (l : List Int) (h : ∀ x ∈ l, in64 x) : in64 (lastW l) := by
  unfold lastW rd
  rw [List.getD_eq_getElem?_getD]
  by_cases hi : ((l.length : Int) - 1).toNat < l.length
  · rw [List.getElem?_eq_getElem hi]; exact h _ (List.getElem_mem hi)
  · rw [List.getElem?_eq_none (by omega)]; simp [in64]
theorem followW_sum : ∀ (n : Nat) (l : List Int), (∀ x ∈ l, in64 x) → followW n l = wrap64 (lastSum n l + lastW (diffs n l))
  | 0, l, h => by
    have := lastW_in64 l h
    simp only [followW, lastSum, diffs, Int.zero_add]
    exact (w64 _ this.1 this.2).symm
  | n + 1, l, h => by
    rw [followW, followW_sum n (diffW l) (diffW_in64 l), w64_add']
    simp only [lastSum, diffs]
    congr 1
    omega
theorem ref_l1 (x0 : List Int) (hx : ∀ x ∈ x0, in64 x) (hm : x0.length < 17592186044416) : ∀ (f d : Nat) (acc : Int), (diffs d x0).length ≤ f → d ≤ x0.length → acc = wrap64 (lastSum d x0) →
    Ev (fun k => padlockref03_Next.l1 k x0 (diffs d x0) (d : Int)) (nextW f acc d (diffs d x0)) := by
  intro f
  induction f with
  | zero =>
    intro d acc hl hd ha
    refine Ev.step (f := fun _ => some (0, 0, 3)) (fun k => ?_) (Ev.now _)
    conv => lhs; unfold padlockref03_Next.l1
    rw [if_neg (by omega)]
  | succ f ih =>
    intro d acc hl hd ha
    have hlen := diffs_len d x0
    by_cases h2 : (diffs d x0).length < 2
    · refine Ev.step (f := fun _ => some (0, 0, 3)) (fun k => ?_) (Ev.eq (Ev.now _) (by unfold nextW; rw [if_pos h2]))
      conv => lhs; unfold padlockref03_Next.l1
      rw [if_neg (by omega)]
    · have hwd : wrap64 ((d : Int) + 1) = ((d + 1 : Nat) : Int) := by rw [w64 _ (by omega) (by omega)]; omega
      refine Ev.step (f := fun k => (padlockref03_equal.f k (diffs d x0)).bind fun t134 => if t134 = true then ((padlockref03_follow.f k x0 (d : Int)).bind fun t135 => some (t135, (d : Int), 0)) else ((padlockref03_differences.f k (diffs d x0)).bind fun t136 => padlockref03_Next.l1 k x0 t136 ((d + 1 : Nat) : Int))) (fun k => ?_) ?_
      · conv => lhs; unfold padlockref03_Next.l1
        rw [if_pos (by omega), hwd]
      · refine Ev.bind (equal_ev _ (by unfold maxLen; omega) (by omega)) ?_
        unfold nextW
        rw [if_neg h2]
        by_cases e : allEq (diffs d x0) = true
        · rw [if_pos e]
          refine Ev.congr (fun k => if_pos e) (Ev.eq (Ev.bind (follow_ev d x0 (by omega) hm) (Ev.now _)) ?_)
          rw [followW_sum d x0 hx, ha, w64_add]
        · rw [if_neg e]
          refine Ev.congr (fun k => if_neg e) (Ev.bind (differences_ev _ (by omega)) ?_)
          rw [← diffs_succ]
          refine ih (d + 1) _ (by rw [diffs_len]; omega) (by omega) ?_
          rw [lastSum_succ, ha, w64_add]
/-- What Next returns. -/
def nextB (l : List Int) : Bool := decide (2 ≤ l.length) && decide (l.length ≤ 20) && l.all fun x => decide (-10000 ≤ x) && decide (x ≤ 10000)
def nextR (l : List Int) : Int × Int × Int := if nextB l then nextW l.length 0 0 l else (0, 0, 1)
theorem next_ev (l : List Int) : Ev (fun k => puzzles_Next.f k l) (nextR l) := by
  unfold nextR nextB
  by_cases h1 : 2 ≤ l.length ∧ l.length ≤ 20
  · have ew : puzzles_within.f (l.length : Int) 2 20 = some true := by
      unfold puzzles_within.f
      rw [if_pos (by omega), decide_eq_true (by omega)]
    have e69 : cf69.f l = some (!l.all fun x => decide (-10000 ≤ x) && decide (x ≤ 10000)) := by
      unfold cf69.f inR
      rw [List.not_all_eq_any_not]
    rw [decide_eq_true h1.1, decide_eq_true h1.2]
    cases ha : l.all fun x => decide (-10000 ≤ x) && decide (x ≤ 10000) with
    | true =>
      rw [ha] at e69
      refine Ev.congr (f := fun k => puzzles_Next.j0 k l 0 0 false) (fun k => ?_) (Ev.step (f := fun k => puzzles_Next.l0 k 0 0 l) (fun k => ?_) (next_l0 l.length 0 0 l (Nat.le_refl _) (by omega)))
      · unfold puzzles_Next.f
        rw [ew, Option.bind_some, if_pos rfl, e69]
        rfl
      · conv => lhs; unfold puzzles_Next.j0
        dsimp only
        rw [if_neg (by decide), show slices_Clone_int_int.f l = some l from if_pos (by omega)]
        rfl
    | false =>
      rw [ha] at e69
      refine Ev.congr (f := fun k => puzzles_Next.j0 k l 0 0 true) (fun k => ?_) (Ev.step (f := fun k => some (0, 0, 1)) (fun k => ?_) (Ev.now _))
      · unfold puzzles_Next.f
        rw [ew, Option.bind_some, if_pos rfl, e69]
        rfl
      · conv => lhs; unfold puzzles_Next.j0
        dsimp only
        rw [if_pos rfl]
  · have ew : puzzles_within.f (l.length : Int) 2 20 = some false := by
      unfold puzzles_within.f
      by_cases h : (l.length : Int) ≥ 2
      · rw [if_pos h, decide_eq_false (by omega)]
      · rw [if_neg h]
    have hb : (decide (2 ≤ l.length) && decide (l.length ≤ 20)) = false := by
      rw [Bool.eq_false_iff]; simp only [ne_eq, Bool.and_eq_true, decide_eq_true_eq]; omega
    rw [hb]
    refine Ev.congr (f := fun k => puzzles_Next.j0 k l 0 0 true) (fun k => ?_) (Ev.step (f := fun k => some (0, 0, 1)) (fun k => ?_) (Ev.now _))
    · unfold puzzles_Next.f
      rw [ew, Option.bind_some, if_neg (by decide)]
    · conv => lhs; unfold puzzles_Next.j0
      dsimp only
      rw [if_pos rfl]
theorem refnext_ev (l : List Int) : Ev (fun k => padlockref03_Next.f k l) (nextR l) := by
  unfold nextR nextB
  by_cases h1 : 2 ≤ l.length ∧ l.length ≤ 20
  · have ew : padlockref03_Within.f (l.length : Int) 2 20 = some true := by
      unfold padlockref03_Within.f
      rw [if_pos (by omega), decide_eq_true (by omega)]
    rw [decide_eq_true h1.1, decide_eq_true h1.2]
    refine Ev.congr (f := fun k => padlockref03_Next.l0 k l ((0 : Nat) : Int)) (fun k => by unfold padlockref03_Next.f; rw [ew, Option.bind_some, if_pos rfl]; rfl) ?_
    have key : ∀ (n i : Nat), n = l.length - i → i ≤ l.length → (∀ j (h : j < l.length), j < i → -10000 ≤ l[j] ∧ l[j] ≤ 10000) →
        Ev (fun k => padlockref03_Next.l0 k l (i : Int)) (if (true && true && l.all fun x => decide (-10000 ≤ x) && decide (x ≤ 10000)) = true then nextW l.length 0 0 l else (0, 0, 1)) := by
      intro n
      induction n with
      | zero =>
        intro i hn hi hall
        have ha : (l.all fun x => decide (-10000 ≤ x) && decide (x ≤ 10000)) = true := by
          rw [List.all_eq_true]
          intro x hx
          obtain ⟨j, hj, rfl⟩ := List.getElem_of_mem hx
          have := hall j hj (by omega)
          simp [this]
        rw [ha, if_pos (by decide)]
        refine Ev.step (f := fun k => padlockref03_Next.l1 k l l 0) (fun k => ?_) (ref_l1 l (fun x hx => ?_) (by omega) l.length 0 0 (Nat.le_refl _) (by omega) (by simp [lastSum, wrap64]))
        · conv => lhs; unfold padlockref03_Next.l0
          rw [if_neg (by omega)]
        · obtain ⟨j, hj, rfl⟩ := List.getElem_of_mem hx
          have := hall j hj (by omega)
          unfold in64
          omega
      | succ n ih =>
        intro i hn hi hall
        have hia : i < l.length := by omega
        have hw : wrap64 ((i : Int) + 1) = ((i + 1 : Nat) : Int) := by rw [w64 _ (by omega) (by omega)]; omega
        by_cases e : -10000 ≤ l[i] ∧ l[i] ≤ 10000
        · refine Ev.step (f := fun k => padlockref03_Next.l0 k l ((i + 1 : Nat) : Int)) (fun k => ?_) (ih (i + 1) (by omega) (by omega) fun j hj hl => ?_)
          · conv => lhs; unfold padlockref03_Next.l0
            rw [if_pos (by omega), if_pos (by omega), rd_lt l i hia, hw]
            unfold padlockref03_Within.f
            rw [if_pos e.1, decide_eq_true e.2, Option.bind_some, if_pos rfl]
          · by_cases ej : j = i
            · subst ej; exact e
            · exact hall j hj (by omega)
        · have ha : (l.all fun x => decide (-10000 ≤ x) && decide (x ≤ 10000)) = false := by
            rw [Bool.eq_false_iff]
            intro ha
            rw [List.all_eq_true] at ha
            have := ha _ (List.getElem_mem hia)
            simp only [Bool.and_eq_true, decide_eq_true_eq] at this
            exact e this
          rw [ha, if_neg (by decide)]
          refine Ev.step (f := fun k => some (0, 0, 1)) (fun k => ?_) (Ev.now _)
          conv => lhs; unfold padlockref03_Next.l0
          rw [if_pos (by omega), if_pos (by omega), rd_lt l i hia, hw]
          unfold padlockref03_Within.f
          by_cases e1 : l[i] ≥ -10000
          · rw [if_pos e1, decide_eq_false (by omega), Option.bind_some, if_neg (by decide)]
          · rw [if_neg e1, Option.bind_some, if_neg (by decide)]
    exact key _ 0 rfl (by omega) (fun j _ hj => by omega)
  · have ew : padlockref03_Within.f (l.length : Int) 2 20 = some false := by
      unfold padlockref03_Within.f
      by_cases h : (l.length : Int) ≥ 2
      · rw [if_pos h, decide_eq_false (by omega)]
      · rw [if_neg h]
    have hb : (decide (2 ≤ l.length) && decide (l.length ≤ 20)) = false := by
      rw [Bool.eq_false_iff]; simp only [ne_eq, Bool.and_eq_true, decide_eq_true_eq]; omega
    rw [hb]
    refine Ev.congr (f := fun k => some (0, 0, 1)) (fun k => ?_) (Ev.now _)
    unfold padlockref03_Next.f
    rw [ew, Option.bind_some, if_neg (by decide)]

end Go.Proofs.Ytdhiijleafcfcaa.T
