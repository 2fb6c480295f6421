/- Next of a polynomial's terms, in plain lists. -/
import Derived.Test.YtdhiijleafcfcaaProg
import Derived.Below
import Derived.Deep.Draws
import Derived.Deep.AppendLies
import Derived.Maps.AppendAt
import Derived.OwnWalk
import Derived.Laws.BytesArg
import Derived.Laws.MakeOwn
import Derived.Laws.OwnMore
import Derived.Deep.OwnRows
import Derived.Tactics
import Derived.Lib.ConvBytes
import Derived.Laws.Slices
import Derived.WalkKit
import Derived.KernelRfl
import Derived.RowKit3
import Derived.Deep.LoopGhost
import Derived.Deep.QuietTactic
import Derived.BigQuiet
import Derived.WideLaws
import Derived.Deep.DeepCutAuto
import Derived.Deep.CutBlock
import Derived.Deep.RegionHeld3
import Derived.Laws.Rows
import Derived.Lib.AppendStr
import Derived.ArgAppend
import Derived.Laws.IdiomCopy
import Derived.OrdersHeld
import Derived.Laws.BitsLemmas
import Derived.RowKit
import Derived.Test.YtdhiijleafcfcaaWWords
import Derived.Test.YtdhiijleafcfcaaWLast
import Derived.Test.YtdhiijleafcfcaaWTab
import Derived.Test.YtdhiijleafcfcaaWFour
import Derived.Test.YtdhiijleafcfcaaWQPut
import Derived.Test.YtdhiijleafcfcaaWApart
import Derived.Test.YtdhiijleafcfcaaWArr
import Derived.Test.YtdhiijleafcfcaaWZeros
import Derived.Test.YtdhiijleafcfcaaWFoot
import Derived.Test.YtdhiijleafcfcaaWKept
import Derived.Test.YtdhiijleafcfcaaWShare
import Derived.Test.YtdhiijleafcfcaaWN
import Derived.Test.YtdhiijleafcfcaaWFootNe
import Derived.Test.YtdhiijleafcfcaaWAt
import Derived.Test.YtdhiijleafcfcaaWEqStruct
import Derived.Test.YtdhiijleafcfcaaWRepsOne
import Derived.Test.YtdhiijleafcfcaaWInv
import Derived.Test.YtdhiijleafcfcaaWInvWords
import Derived.Test.YtdhiijleafcfcaaWGuard
import Derived.Test.YtdhiijleafcfcaaWNEv
import Derived.Test.YtdhiijleafcfcaaWMore
import Derived.Test.YtdhiijleafcfcaaPN
import Derived.Test.YtdhiijleafcfcaaTf4
namespace Go.Proofs.Ytdhiijleafcfcaa.T
open Go.RowKit Go.Proofs.YtdhiijleafcfcaaW.PrintWords Go.Proofs.YtdhiijleafcfcaaW.PrintLast Go.Proofs.YtdhiijleafcfcaaW.PrintMore
attribute [local go_sem] max2_int min2_int max_two min_two max_three min_three max_four min_four
set_option linter.unusedVariables false
set_option linter.unusedSimpArgs false

def stepR : List Int → List Int
  | a :: b :: t => (a + b) :: stepR (b :: t)
  | l => l
theorem stepR_len : ∀ l : List Int, (stepR l).length = l.length
  | [] => rfl
  | [_] => rfl
  | a :: b :: t => by simp [stepR, stepR_len (b :: t)]
theorem stepR_getD : ∀ (l : List Int) (k : Nat), (stepR l).getD k 0 = l.getD k 0 + l.getD (k + 1) 0
  | [], k => by simp [stepR]
  | [a], 0 => by simp [stepR]
  | [a], k + 1 => by simp [stepR]
  | a :: b :: t, 0 => by simp [stepR]
  | a :: b :: t, k + 1 => by
    have := stepR_getD (b :: t) k
    simpa [stepR] using this
def iterR : Nat → List Int → List Int
  | 0, l => l
  | n + 1, l => stepR (iterR n l)
theorem iterR_len (l : List Int) : ∀ n, (iterR n l).length = l.length
  | 0 => rfl
  | n + 1 => by rw [iterR, stepR_len, iterR_len l n]
/-- The k-th difference at i. -/
def pol (row : List Int) (k i : Nat) : Int := (iterR i row).getD k 0
theorem pol_succ (row : List Int) (k i : Nat) : pol row k (i + 1) = pol row k i + pol row (k + 1) i := stepR_getD _ _
theorem pol_out (row : List Int) (k i : Nat) (h : row.length ≤ k) : pol row k i = 0 := by
  unfold pol
  rw [List.getD_eq_getElem?_getD, List.getElem?_eq_none (by rw [iterR_len]; exact h)]
  rfl
def polB : Nat → Nat → Int
  | k, 0 => if k < 5 then 9 else 0
  | k, i + 1 => polB k i + polB (k + 1) i
theorem pol_bound (row : List Int) (hr : ∀ x ∈ row, -9 ≤ x ∧ x ≤ 9) (hl : row.length ≤ 5) : ∀ i k, - polB k i ≤ pol row k i ∧ pol row k i ≤ polB k i
  | 0, k => by
    by_cases h : k < row.length
    · have := hr row[k] (List.getElem_mem h)
      have e : pol row k 0 = row[k] := by unfold pol iterR; rw [List.getD_eq_getElem?_getD, List.getElem?_eq_getElem h]; rfl
      rw [e]
      unfold polB
      rw [if_pos (by omega)]
      exact this
    · rw [pol_out row k 0 (by omega)]
      unfold polB
      split <;> omega
  | i + 1, k => by
    have h1 := pol_bound row hr hl i k
    have h2 := pol_bound row hr hl i (k + 1)
    rw [pol_succ, polB]
    omega
theorem polB_out : ∀ i k, 5 ≤ k → polB k i = 0
  | 0, k, h => by unfold polB; rw [if_neg (by omega)]
  | i + 1, k, h => by rw [polB, polB_out i k h, polB_out i (k + 1) (by omega)]; rfl
theorem polB_small : ∀ i < 14, ∀ k < 5, polB k i ≤ 20000 := by decide +kernel
theorem polB_small0 : ∀ i < 12, polB 0 i ≤ 10000 := by decide +kernel
theorem pol_in64 (row : List Int) (hr : ∀ x ∈ row, -9 ≤ x ∧ x ≤ 9) (hl : row.length ≤ 5) (i k : Nat) (hi : i < 14) : -20000 ≤ pol row k i ∧ pol row k i ≤ 20000 := by
  have h := pol_bound row hr hl i k
  by_cases hk : k < 5
  · have := polB_small i hi k hk
    omega
  · rw [polB_out i k (by omega)] at h
    omega
/-- The terms of the k-th differences. -/
def terms (row : List Int) (k n : Nat) : List Int := (List.range n).map (pol row k)
theorem terms_len (row : List Int) (k n : Nat) : (terms row k n).length = n := by simp [terms]
theorem terms_get (row : List Int) (k n i : Nat) (h : i < (terms row k n).length) : (terms row k n)[i] = pol row k i := by simp [terms]
theorem diffW_terms (row : List Int) (hr : ∀ x ∈ row, -9 ≤ x ∧ x ≤ 9) (hl : row.length ≤ 5) (k n : Nat) (hn : n < 14) : diffW (terms row k n) = terms row (k + 1) (n - 1) := by
  apply List.ext_getElem
  · rw [diffW_len, terms_len, terms_len]
  · intro i h1 h2
    rw [terms_len] at h2
    have l1 := terms_len row k n
    rw [diffW_get _ i h1 (by omega) (by omega), terms_get, terms_get, terms_get, pol_succ]
    have := pol_in64 row hr hl i (k + 1) (by omega)
    rw [show pol row k i + pol row (k + 1) i - pol row k i = pol row (k + 1) i from by omega]
    exact w64 _ (by omega) (by omega)
theorem lastW_terms (row : List Int) (k n : Nat) (hn : 0 < n) : lastW (terms row k n) = pol row k (n - 1) := by
  unfold lastW
  rw [terms_len, show ((n : Int) - 1) = ((n - 1 : Nat) : Int) from by omega, rd_lt _ (n - 1) (by rw [terms_len]; omega), terms_get]
theorem allEq_terms (row : List Int) (k n : Nat) (hn : 0 < n) : allEq (terms row k n) = true ↔ ∀ i < n, pol row k i = pol row k 0 := by
  unfold allEq
  rw [rd_zero _ (by rw [terms_len]; exact hn), terms_get, List.all_eq_true]
  constructor
  · intro h i hi
    have := h (pol row k i) (by simp only [terms, List.mem_map, List.mem_range]; exact ⟨i, hi, rfl⟩)
    simpa using this
  · intro h x hx
    simp only [terms, List.mem_map, List.mem_range] at hx
    obtain ⟨i, hi, rfl⟩ := hx
    simpa using h i hi
/-- A row of differences that is even stays so. -/
theorem pol_zero (row : List Int) (j t : Nat) (ht : row.length + 1 ≤ t) (hj : j < row.length) (h : ∀ i < t - j, pol row j i = pol row j 0) : ∀ i k, j < k → pol row k i = 0 := by
  have h1 : ∀ s i, i < t - j - 1 - s → pol row (j + 1 + s) i = 0 := by
    intro s
    induction s with
    | zero =>
      intro i hi
      have a := h i (by omega)
      have b := h (i + 1) (by omega)
      rw [pol_succ] at b
      show pol row (j + 1) i = 0
      omega
    | succ s ih =>
      intro i hi
      have a := ih i (by omega)
      have b := ih (i + 1) (by omega)
      rw [pol_succ] at b
      have e : j + 1 + s + 1 = j + 1 + (s + 1) := by omega
      rw [e] at b
      omega
  intro i
  induction i with
  | zero =>
    intro k hk
    by_cases hkm : k < row.length
    · have := h1 (k - j - 1) 0 (by omega)
      rwa [show j + 1 + (k - j - 1) = k from by omega] at this
    · exact pol_out row k 0 (by omega)
  | succ i ih =>
    intro k hk
    rw [pol_succ, ih k hk, ih (k + 1) (by omega)]
    rfl
/-- What comes next. -/
theorem nextW_terms (row : List Int) (hr : ∀ x ∈ row, -9 ≤ x ∧ x ≤ 9) (hl : row.length ≤ 5) (t : Nat) (ht : row.length + 1 ≤ t) (ht2 : t < 14) (h0 : 0 < row.length) :
    ∀ (g j f : Nat) (acc : Int), g = row.length - j → j < row.length → t - j ≤ f → acc = wrap64 (pol row 0 t - pol row j (t - j)) →
      ∃ d : Nat, nextW f acc j (terms row j (t - j)) = (pol row 0 t, (d : Int), 0) ∧ d < row.length := by
  intro g
  induction g with
  | zero => intro j f acc hg hj; omega
  | succ g ih =>
    intro j f acc hg hj hf ha
    obtain ⟨f, rfl⟩ : ∃ f', f = f' + 1 := ⟨f - 1, by omega⟩
    unfold nextW
    rw [if_neg (by rw [terms_len]; omega), lastW_terms _ _ _ (by omega)]
    have hstep : pol row j (t - j) = pol row j (t - j - 1) + pol row (j + 1) (t - j - 1) := by
      have := pol_succ row j (t - j - 1)
      rwa [show t - j - 1 + 1 = t - j from by omega] at this
    have hacc : wrap64 (acc + pol row j (t - j - 1)) = wrap64 (pol row 0 t - pol row (j + 1) (t - (j + 1))) := by
      rw [ha, w64_add]
      congr 1
      rw [show t - (j + 1) = t - j - 1 from by omega]
      omega
    by_cases e : allEq (terms row j (t - j)) = true
    · rw [if_pos e]
      have hz := pol_zero row j t ht hj ((allEq_terms row j (t - j) (by omega)).1 e) (t - (j + 1)) (j + 1) (by omega)
      rw [hacc, hz, Int.sub_zero]
      have := pol_in64 row hr hl t 0 ht2
      rw [w64 _ (by omega) (by omega)]
      exact ⟨j, rfl, hj⟩
    · rw [if_neg e, diffW_terms row hr hl j (t - j) (by omega)]
      have hj1 : j + 1 < row.length := by
        by_cases h : j + 1 < row.length
        · exact h
        · exfalso
          refine e ((allEq_terms row j (t - j) (by omega)).2 ?_)
          intro i _
          induction i with
          | zero => rfl
          | succ i ihi => rw [pol_succ, pol_out row (j + 1) i (by omega), ihi (by omega), Int.add_zero]
      rw [show t - j - 1 = t - (j + 1) from by omega]
      rw [show t - j - 1 = t - (j + 1) from by omega] at hacc
      exact ih (j + 1) f _ (by omega) hj1 (by omega) hacc
theorem nextR_terms (row : List Int) (hr : ∀ x ∈ row, -9 ≤ x ∧ x ≤ 9) (hl : row.length ≤ 5) (t : Nat) (ht : row.length + 1 ≤ t) (ht2 : t ≤ 12) (h0 : 0 < row.length) : ∃ d : Nat, nextR (terms row 0 t) = (pol row 0 t, (d : Int), 0) ∧ d < row.length := by
  have hB : nextB (terms row 0 t) = true := by
    unfold nextB
    rw [terms_len, decide_eq_true (by omega), decide_eq_true (by omega), Bool.true_and, Bool.true_and, List.all_eq_true]
    intro x hx
    simp only [terms, List.mem_map, List.mem_range] at hx
    obtain ⟨i, hi, rfl⟩ := hx
    have h := pol_bound row hr hl i 0
    have h2 := polB_small0 i (by omega)
    simp only [Bool.and_eq_true, decide_eq_true_eq]
    omega
  unfold nextR
  rw [if_pos hB, terms_len]
  exact nextW_terms row hr hl t ht (by omega) h0 _ 0 t 0 rfl h0 (by omega) (by rw [Nat.sub_zero, Int.sub_self]; exact (w64 0 (by omega) (by omega)).symm)
/-- The code's inner loop: the row goes on by one. -/
theorem powers_l2 (x0 : List Int) (x1 x8 : Int) (x7 : List Int) (row : List Int) (hl : row.length ≤ 5) (hb : ∀ k, -20000 ≤ (stepR row).getD k 0 ∧ (stepR row).getD k 0 ≤ 20000) (r : Bool)
    (hr : Ev (fun k => padlocklaw03_PuzzlesPowers.l1 k x0 x1 (stepR row) x7 (wrap64 (x8 + 1))) r) (h0 : 0 < row.length) :
    Ev (fun k => padlocklaw03_PuzzlesPowers.l2 k x0 x1 row x7 x8 0) r := by
  have hs := stepR_len row
  have key : ∀ (n i : Nat), n = row.length - 1 - i → i ≤ row.length - 1 → Ev (fun k => padlocklaw03_PuzzlesPowers.l2 k x0 x1 ((stepR row).take i ++ row.drop i) x7 x8 (i : Int)) r := by
    intro n
    induction n with
    | zero =>
      intro i hn hi
      have : i = row.length - 1 := by omega
      subst this
      have hX : (stepR row).take (row.length - 1) ++ row.drop (row.length - 1) = stepR row := by
        apply List.ext_getElem
        · rw [List.length_append, List.length_take, List.length_drop]; omega
        · intro j h1 h2
          by_cases hj : j < row.length - 1
          · rw [List.getElem_append_left (by rw [List.length_take]; omega), List.getElem_take]
          · have e : j = row.length - 1 := by omega
            subst e
            have q := stepR_getD row (row.length - 1)
            rw [List.getD_eq_getElem?_getD, List.getElem?_eq_getElem h2, List.getD_eq_getElem?_getD, List.getElem?_eq_getElem (show row.length - 1 < row.length by omega), List.getD_eq_getElem?_getD, List.getElem?_eq_none (by omega)] at q
            simp only [Option.getD_some, Option.getD_none, Int.add_zero] at q
            rw [q, List.getElem_append_right (by rw [List.length_take]; omega)]
            simp only [List.length_take, List.getElem_drop]
            congr 1
            omega
      rw [hX]
      refine Ev.step (fun k => ?_) hr
      have hw : wrap64 (((row.length - 1 : Nat) : Int) + 1) = (row.length : Int) := by rw [w64 _ (by omega) (by omega)]; omega
      rw [padlocklaw03_PuzzlesPowers.l2, hw, if_neg (by omega)]
    | succ n ih =>
      intro i hn hi
      have hwi : wrap64 ((i : Int) + 1) = ((i + 1 : Nat) : Int) := by rw [w64 _ (by omega) (by omega)]; omega
      have IH := ih (i + 1) (by omega) (by omega)
      clear ih
      obtain ⟨X, hX⟩ : ∃ X, (stepR row).take i ++ row.drop i = X := ⟨_, rfl⟩
      have hlen : X.length = row.length := by rw [← hX, List.length_append, List.length_take, List.length_drop]; omega
      have hti : ((stepR row).take i).length = i := by rw [List.length_take]; omega
      have b2 : (0 : Int) ≤ ((i + 1 : Nat) : Int) := by omega
      have b3 : ((i + 1 : Nat) : Int) < (X.length : Int) := by omega
      have b4 : (0 : Int) ≤ (i : Int) := by omega
      have b5 : (i : Int) < (X.length : Int) := by omega
      have b6 : i < X.length := by omega
      have b7 : i + 1 < X.length := by omega
      have b8 : i < (stepR row).length := by omega
      have b9 : i < row.length := by omega
      have b10 : i + 1 < row.length := by omega
      have b11 : ((stepR row).take i).length ≤ i := by omega
      have b12 : ((stepR row).take i).length ≤ i + 1 := by omega
      have hbi := hb i
      have q := stepR_getD row i
      have hq : (stepR row).getD i 0 = (stepR row)[i] := by rw [List.getD_eq_getElem?_getD, List.getElem?_eq_getElem b8]; rfl
      rw [hq] at hbi q
      rw [List.getD_eq_getElem?_getD, List.getElem?_eq_getElem b9, List.getD_eq_getElem?_getD, List.getElem?_eq_getElem b10] at q
      simp only [Option.getD_some] at q
      have hw : wrap64 (row[i] + row[i + 1]) = (stepR row)[i] := by rw [← q]; exact w64 _ (Int.le_trans (by decide) hbi.1) (Int.le_trans hbi.2 (by decide))
      have g1 : rd X (i : Int) = row[i] := by
        rw [rd_lt X i b6]
        subst hX
        rw [List.getElem_append_right b11]
        simp [hti]
      have g2 : rd X ((i + 1 : Nat) : Int) = row[i + 1] := by
        rw [rd_lt X (i + 1) b7]
        subst hX
        rw [List.getElem_append_right b12]
        simp [hti]
      have hset : ((stepR row).take i ++ row.drop i).set i (stepR row)[i] = (stepR row).take (i + 1) ++ row.drop (i + 1) := by
        rw [List.set_append_right _ _ b11, hti, Nat.sub_self, List.take_succ_eq_append_getElem b8, List.append_assoc]
        congr 1
        rw [List.drop_eq_getElem_cons b9]
        rfl
      rw [hX] at hset
      rw [← hset] at IH
      rw [hX]
      clear hX hset
      refine Ev.step (fun k => ?_) IH
      rw [padlocklaw03_PuzzlesPowers.l2, hwi, g1, g2, hw, Int.toNat_natCast]
      rw [if_pos b3, if_pos b4, if_pos b5, if_pos b2]
  have := key _ 0 rfl (by omega)
  simpa using this
theorem terms_succ (row : List Int) (n : Nat) : terms row 0 n ++ [pol row 0 n] = terms row 0 (n + 1) := by
  unfold terms
  rw [List.range_succ, List.map_append]
  rfl
theorem powers_l1 (row : List Int) (hr : ∀ x ∈ row, -9 ≤ x ∧ x ≤ 9) (hl : row.length ≤ 5) (t : Nat) (ht : row.length + 1 ≤ t) (ht2 : t ≤ 12) (h0 : 0 < row.length) :
    ∀ (g i : Nat), g = t + 1 - i → i ≤ t + 1 → Ev (fun k => padlocklaw03_PuzzlesPowers.l1 k row (t : Int) (iterR i row) (terms row 0 i) (i : Int)) true := by
  intro g
  induction g with
  | zero =>
    intro i hg hi
    have : i = t + 1 := by omega
    subst this
    have hlen := terms_len row 0 (t + 1)
    have htk : (terms row 0 (t + 1)).take t = terms row 0 t := by
      rw [← terms_succ, List.take_left' (terms_len row 0 t)]
    obtain ⟨d, hd, hdl⟩ := nextR_terms row hr hl t ht ht2 h0
    have hev := next_ev (terms row 0 t)
    rw [hd] at hev
    refine Ev.step (f := fun k => (puzzles_Next.f k (terms row 0 t)).bind fun bt183 => if bt183.2.2 = 0 then (if bt183.1 = pol row 0 t then (if bt183.2.1 < (row.length : Int) then ((padlocklaw03_works.f k).bind fun t187 => (some t187)) else (some false)) else (some false)) else (some false)) (fun k => ?_) ?_
    · rw [padlocklaw03_PuzzlesPowers.l1, if_neg (by omega), if_pos (by omega), if_pos (by omega), Int.toNat_natCast, htk]
      congr 1
      funext bt
      rw [if_pos (show (t : Int) < ((terms row 0 (t + 1)).length : Int) by omega), rd_lt _ t (by omega), terms_get]
    · refine Ev.bind hev ?_
      simp only [if_true]
      have hd2 : (d : Int) < (row.length : Int) := by omega
      exact Ev.congr (fun k => if_pos hd2) (Ev.bind works_ev (Ev.now _))
  | succ g ih =>
    intro i hg hi
    have hlen := terms_len row 0 i
    have hil := iterR_len row i
    have hwi : wrap64 ((i : Int) + 1) = ((i + 1 : Nat) : Int) := by rw [w64 _ (by omega) (by omega)]; omega
    have IH := ih (i + 1) (by omega) (by omega)
    rw [← hwi] at IH
    refine Ev.step (f := fun k => padlocklaw03_PuzzlesPowers.l2 k row (t : Int) (iterR i row) (terms row 0 (i + 1)) (i : Int) 0) (fun k => ?_) (powers_l2 row t i _ (iterR i row) (by omega) (fun k => pol_in64 row hr hl (i + 1) k (by omega)) true IH (by omega))
    rw [padlocklaw03_PuzzlesPowers.l1, if_pos (by omega), if_pos (by omega), if_pos (by omega), ← terms_succ]
    have e : rd (iterR i row) 0 = pol row 0 i := by
      unfold rd pol
      rfl
    rw [e]
theorem powers_l0 (row : List Int) (hl : row.length ≤ 5) (t : Nat) (ht : row.length + 1 ≤ t) (ht2 : t ≤ 12) (h0 : 0 < row.length) :
    ∀ (n i : Nat), n = row.length - i → i ≤ row.length → (∀ j (h : j < row.length), j < i → -9 ≤ row[j] ∧ row[j] ≤ 9) → Ev (fun k => padlocklaw03_PuzzlesPowers.l0 k row (t : Int) row (i : Int)) true := by
  intro n
  induction n with
  | zero =>
    intro i hn hi hall
    refine Ev.step (f := fun k => padlocklaw03_PuzzlesPowers.l1 k row (t : Int) row [] 0) (fun k => ?_) (powers_l1 row (fun x hx => ?_) hl t ht ht2 h0 (t + 1) 0 (by omega) (by omega))
    · rw [padlocklaw03_PuzzlesPowers.l0, if_neg (by omega)]
    · obtain ⟨j, hj, rfl⟩ := List.getElem_of_mem hx
      exact hall j hj (by omega)
  | succ n ih =>
    intro i hn hi hall
    have hia : i < row.length := by omega
    have hw : wrap64 ((i : Int) + 1) = ((i + 1 : Nat) : Int) := by rw [w64 _ (by omega) (by omega)]; omega
    by_cases e1 : row[i] < -9
    · refine Ev.step (f := fun k => (padlocklaw03_works.f k).bind fun t => some t) (fun k => ?_) (Ev.bind works_ev (Ev.now _))
      rw [padlocklaw03_PuzzlesPowers.l0, if_pos (by omega), if_pos (by omega), rd_lt _ i hia, if_pos e1]
    · by_cases e2 : row[i] > 9
      · refine Ev.step (f := fun k => (padlocklaw03_works.f k).bind fun t => some t) (fun k => ?_) (Ev.bind works_ev (Ev.now _))
        rw [padlocklaw03_PuzzlesPowers.l0, if_pos (by omega), if_pos (by omega), rd_lt _ i hia, if_neg e1, if_pos e2]
      · refine Ev.step (f := fun k => padlocklaw03_PuzzlesPowers.l0 k row (t : Int) row ((i + 1 : Nat) : Int)) (fun k => ?_) (ih (i + 1) (by omega) (by omega) fun j hj hl2 => ?_)
        · rw [padlocklaw03_PuzzlesPowers.l0, if_pos (by omega), if_pos (by omega), rd_lt _ i hia, if_neg e1, if_neg e2, hw]
        · by_cases ej : j = i
          · subst ej
            exact ⟨by omega, by omega⟩
          · exact hall j hj (by omega)
theorem powers_ev (l : List Int) (a : Int) : Ev (fun k => padlocklaw03_PuzzlesPowers.f k l a) true := by
  have hj : Ev (fun k => padlocklaw03_PuzzlesPowers.j0 k l a true) true := by
    refine Ev.step (f := fun k => (padlocklaw03_works.f k).bind fun t => some t) (fun k => ?_) (Ev.bind works_ev (Ev.now _))
    rw [padlocklaw03_PuzzlesPowers.j0, if_pos rfl]
  by_cases c1 : (l.length : Int) > 5
  · exact Ev.congr (fun k => by unfold padlocklaw03_PuzzlesPowers.f; rw [if_pos c1]) hj
  by_cases c2 : (l.length : Int) = 0
  · exact Ev.congr (fun k => by unfold padlocklaw03_PuzzlesPowers.f; rw [if_neg c1, if_pos c2]) hj
  by_cases c3 : a < 2
  · exact Ev.congr (fun k => by unfold padlocklaw03_PuzzlesPowers.f; rw [if_neg c1, if_neg c2, if_pos c3]) hj
  by_cases c4 : a > 12
  · exact Ev.congr (fun k => by unfold padlocklaw03_PuzzlesPowers.f; rw [if_neg c1, if_neg c2, if_neg c3, if_pos c4]) hj
  have hw : wrap64 (a - 1) = a - 1 := w64 _ (by omega) (by omega)
  by_cases c5 : (l.length : Int) > a - 1
  · exact Ev.congr (fun k => by unfold padlocklaw03_PuzzlesPowers.f; rw [if_neg c1, if_neg c2, if_neg c3, if_neg c4, hw, decide_eq_true c5]) hj
  obtain ⟨t, rfl⟩ : ∃ t : Nat, a = (t : Int) := ⟨a.toNat, by omega⟩
  refine Ev.congr (f := fun k => padlocklaw03_PuzzlesPowers.j0 k l t false) (fun k => by unfold padlocklaw03_PuzzlesPowers.f; rw [if_neg c1, if_neg c2, if_neg c3, if_neg c4, hw, decide_eq_false c5]) ?_
  refine Ev.step (f := fun k => padlocklaw03_PuzzlesPowers.l0 k l (t : Int) l ((0 : Nat) : Int)) (fun k => ?_) (powers_l0 l (by omega) t (by omega) (by omega) (by omega) _ 0 rfl (by omega) fun j _ h => by omega)
  rw [padlocklaw03_PuzzlesPowers.j0, if_neg (by decide), if_pos (by rw [List.length_nil]; omega), List.nil_append]
  rfl

end Go.Proofs.Ytdhiijleafcfcaa.T
