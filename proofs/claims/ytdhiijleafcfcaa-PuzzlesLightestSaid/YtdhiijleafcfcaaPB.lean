/- Balances, in plain lists. -/
import Derived.Test.YtdhiijleafcfcaaProg
import Derived.Below
import Derived.Deep.Draws
import Derived.Deep.AppendLies
import Derived.Maps.AppendAt
import Derived.OwnWalk
import Derived.Laws.BytesArg
import Derived.Laws.MakeOwn
import Derived.Laws.OwnMore
import Derived.Deep.OwnRows
import Derived.Tactics
import Derived.Lib.ConvBytes
import Derived.Laws.Slices
import Derived.WalkKit
import Derived.KernelRfl
import Derived.RowKit3
import Derived.Deep.LoopGhost
import Derived.Deep.QuietTactic
import Derived.BigQuiet
import Derived.WideLaws
import Derived.Deep.DeepCutAuto
import Derived.Deep.CutBlock
import Derived.Deep.RegionHeld3
import Derived.Laws.Rows
import Derived.Lib.AppendStr
import Derived.ArgAppend
import Derived.Laws.IdiomCopy
import Derived.OrdersHeld
import Derived.Laws.BitsLemmas
import Derived.RowKit
import Derived.Test.YtdhiijleafcfcaaWWords
import Derived.Test.YtdhiijleafcfcaaWLast
import Derived.Test.YtdhiijleafcfcaaWTab
import Derived.Test.YtdhiijleafcfcaaWFour
import Derived.Test.YtdhiijleafcfcaaWQPut
import Derived.Test.YtdhiijleafcfcaaWApart
import Derived.Test.YtdhiijleafcfcaaWArr
import Derived.Test.YtdhiijleafcfcaaWZeros
import Derived.Test.YtdhiijleafcfcaaWFoot
import Derived.Test.YtdhiijleafcfcaaWKept
import Derived.Test.YtdhiijleafcfcaaWShare
import Derived.Test.YtdhiijleafcfcaaWN
import Derived.Test.YtdhiijleafcfcaaWFootNe
import Derived.Test.YtdhiijleafcfcaaWAt
import Derived.Test.YtdhiijleafcfcaaWEqStruct
import Derived.Test.YtdhiijleafcfcaaWRepsOne
import Derived.Test.YtdhiijleafcfcaaWInv
import Derived.Test.YtdhiijleafcfcaaWInvWords
import Derived.Test.YtdhiijleafcfcaaWGuard
import Derived.Test.YtdhiijleafcfcaaWNEv
import Derived.Test.YtdhiijleafcfcaaWMore
import Derived.Test.YtdhiijleafcfcaaP0
import Derived.Test.YtdhiijleafcfcaaTb
import Derived.Test.YtdhiijleafcfcaaTbw
import Derived.Test.YtdhiijleafcfcaaWe
namespace Go.Proofs.Ytdhiijleafcfcaa.T
open Go.RowKit Go.Proofs.YtdhiijleafcfcaaW.PrintWords Go.Proofs.YtdhiijleafcfcaaW.PrintLast Go.Proofs.YtdhiijleafcfcaaW.PrintMore
attribute [local go_sem] max2_int min2_int max_two min_two max_three min_three max_four min_four
set_option linter.unusedVariables false
set_option linter.unusedSimpArgs false

def usedN : List Int → Int
  | [] => 0
  | x :: t => (if x = 0 then 0 else 1) + usedN t
theorem usedN_append : ∀ a b : List Int, usedN (a ++ b) = usedN a + usedN b
  | [], b => by simp [usedN]
  | x :: t, b => by simp only [List.cons_append, usedN, usedN_append t b]; omega
theorem usedN_bound : ∀ l : List Int, 0 ≤ usedN l ∧ usedN l ≤ l.length
  | [] => by simp [usedN]
  | x :: t => by
    have := usedN_bound t
    simp only [usedN, List.length_cons]
    split <;> omega
theorem used_ev (l : List Int) (hm : l.length ≤ 9223372036854775807) : Ev (fun k => padlockref03_Used.f k l) (usedN l) := by
  have key : ∀ (n i : Nat), n = l.length - i → i ≤ l.length → Ev (fun k => padlockref03_Used.l0 k l (usedN (l.take i)) (i : Int)) (usedN l) := by
    intro n
    induction n with
    | zero =>
      intro i hn hi
      refine Ev.step (f := fun _ => some (usedN (l.take i))) (fun k => ?_) (Ev.eq (Ev.now _) (by rw [List.take_of_length_le (by omega)]))
      rw [padlockref03_Used.l0, if_neg (by omega)]
    | succ n ih =>
      intro i hn hi
      have hia : i < l.length := by omega
      have hw : wrap64 ((i : Int) + 1) = ((i + 1 : Nat) : Int) := by rw [w64 _ (by omega) (by omega)]; omega
      have hb := usedN_bound (l.take i)
      rw [List.length_take] at hb
      have hu : wrap64 (usedN (l.take i) + 1) = usedN (l.take i) + 1 := w64 _ (by omega) (by omega)
      have IH := ih (i + 1) (by omega) (by omega)
      rw [List.take_succ_eq_append_getElem hia, usedN_append] at IH
      by_cases h : l[i] = 0
      · rw [show usedN [l[i]] = 0 from by simp [usedN, h], Int.add_zero] at IH
        refine Ev.step (fun k => ?_) IH
        rw [padlockref03_Used.l0, if_pos (by omega), if_pos (by omega), rd_lt l i hia, if_pos h, hw]
      · rw [show usedN [l[i]] = 1 from by simp [usedN, h]] at IH
        refine Ev.step (fun k => ?_) IH
        rw [padlockref03_Used.l0, if_pos (by omega), if_pos (by omega), rd_lt l i hia, if_neg h, hw, hu]
  exact Ev.congr (fun k => rfl) (key _ 0 rfl (by omega))
theorem all_inR (l : List Int) (lo hi : Int) : (!l.any fun x => !inR lo hi x) = l.all (inR lo hi) := by rw [List.all_eq_not_any_not]
theorem weighable_ev (l : List Int) (a : Int) (hm : l.length ≤ 9223372036854775807) : Ev (fun k => padlockref03_weighable.f k l a) (weighedB l a) := by
  have key : ∀ (n i : Nat), n = l.length - i → i ≤ l.length → (∀ j (h : j < l.length), j < i → inR 1 10000 l[j] = true) → Ev (fun k => padlockref03_weighable.l0 k l a (i : Int)) (weighedB l a) := by
    intro n
    induction n with
    | zero =>
      intro i hn hi hall
      have ha : l.all (inR 1 10000) = true := by
        rw [List.all_eq_true]
        intro x hx
        obtain ⟨j, hj, rfl⟩ := List.getElem_of_mem hx
        exact hall j hj (by omega)
      unfold weighedB
      rw [all_inR, ha, Bool.and_true]
      by_cases c : l.length ≤ 10
      · refine Ev.step (f := fun _ => some (inR 0 10000 a)) (fun k => ?_) (Ev.eq (Ev.now _) (by rw [decide_eq_true c, Bool.true_and]))
        rw [padlockref03_weighable.l0, if_neg (by omega), if_pos (by omega), refwithin_val, Option.bind_some]
        rfl
      · refine Ev.step (f := fun _ => some false) (fun k => ?_) (Ev.eq (Ev.now _) (by rw [decide_eq_false c, Bool.false_and]))
        rw [padlockref03_weighable.l0, if_neg (by omega), if_neg (by omega)]
    | succ n ih =>
      intro i hn hi hall
      have hia : i < l.length := by omega
      have hw : wrap64 ((i : Int) + 1) = ((i + 1 : Nat) : Int) := by rw [w64 _ (by omega) (by omega)]; omega
      by_cases e : inR 1 10000 l[i] = true
      · refine Ev.step (f := fun k => padlockref03_weighable.l0 k l a ((i + 1 : Nat) : Int)) (fun k => ?_) (ih (i + 1) (by omega) (by omega) fun j hj hl => ?_)
        · rw [padlockref03_weighable.l0, if_pos (by omega), if_pos (by omega), rd_lt l i hia, refwithin_val, Option.bind_some, hw]
          exact if_pos e
        · by_cases ej : j = i
          · subst ej; exact e
          · exact hall j hj (by omega)
      · refine Ev.step (f := fun k => some false) (fun k => ?_) (Ev.eq (Ev.now _) ?_)
        · rw [padlockref03_weighable.l0, if_pos (by omega), if_pos (by omega), rd_lt l i hia, refwithin_val, Option.bind_some, hw]
          exact if_neg e
        · have ha : l.all (inR 1 10000) = false := by
            rw [Bool.eq_false_iff]
            intro ha
            rw [List.all_eq_true] at ha
            exact e (ha _ (List.getElem_mem hia))
          unfold weighedB
          rw [all_inR, ha, Bool.and_false]
  exact Ev.congr (fun k => rfl) (key _ 0 rfl (by omega) (fun j _ h => by omega))
/-- The right side's weight. -/
def dotN : List Int → List Int → Int
  | w :: ws, s :: ss => s * w + dotN ws ss
  | _, _ => 0
theorem dotN_snoc : ∀ (ws ss : List Int) (w s : Int), ws.length = ss.length → dotN (ws ++ [w]) (ss ++ [s]) = dotN ws ss + s * w
  | [], [], w, s, _ => by simp [dotN]
  | [], _ :: _, _, _, h => by simp at h
  | _ :: _, [], _, _, h => by simp at h
  | a :: ws, b :: ss, w, s, h => by
    simp only [List.cons_append, dotN, dotN_snoc ws ss w s (by simpa using h)]
    omega
theorem mul_bound (s w : Int) (h1 : -1 ≤ s) (h2 : s ≤ 1) (h3 : 0 ≤ w) (h4 : w ≤ 10000) : -10000 ≤ s * w ∧ s * w ≤ 10000 := by
  have : s = -1 ∨ s = 0 ∨ s = 1 := by omega
  rcases this with rfl | rfl | rfl <;> omega
theorem dotN_bound : ∀ (ws ss : List Int), (∀ w ∈ ws, 0 ≤ w ∧ w ≤ 10000) → (∀ s ∈ ss, -1 ≤ s ∧ s ≤ 1) → -10000 * (ws.length : Int) ≤ dotN ws ss ∧ dotN ws ss ≤ 10000 * (ws.length : Int)
  | [], ss, _, _ => by simp [dotN]
  | w :: ws, [], _, _ => by simp only [dotN, List.length_cons]; omega
  | w :: ws, s :: ss, hw, hs => by
    have ih := dotN_bound ws ss (fun x hx => hw x (List.mem_cons_of_mem _ hx)) (fun x hx => hs x (List.mem_cons_of_mem _ hx))
    have h1 := hw w List.mem_cons_self
    have h2 := hs s List.mem_cons_self
    have := mul_bound s w h2.1 h2.2 h1.1 h1.2
    simp only [dotN, List.length_cons]
    omega
theorem tips_sum (l ss : List Int) (hw : ∀ w ∈ l, 0 ≤ w ∧ w ≤ 10000) (hs : ∀ s ∈ ss, -1 ≤ s ∧ s ≤ 1) (hl : l.length = ss.length) (hn : l.length ≤ 10) (i : Nat) (hi : i < l.length) (a : Int) (ha : 0 ≤ a ∧ a ≤ 10000) (h2 : i < ss.length) :
    wrap64 ((-a + dotN (l.take i) (ss.take i)) + wrap64 (ss[i] * l[i])) = -a + dotN (l.take (i + 1)) (ss.take (i + 1)) := by
  have hb := dotN_bound (l.take i) (ss.take i) (fun x hx => hw x (List.mem_of_mem_take hx)) (fun x hx => hs x (List.mem_of_mem_take hx))
  rw [List.length_take] at hb
  have h3 := hw _ (List.getElem_mem hi)
  have h4 := hs _ (List.getElem_mem h2)
  have hm := mul_bound _ _ h4.1 h4.2 h3.1 h3.2
  rw [List.take_succ_eq_append_getElem hi, List.take_succ_eq_append_getElem h2, dotN_snoc _ _ _ _ (by rw [List.length_take, List.length_take]; omega)]
  generalize ss[i] * l[i] = m at hm ⊢
  generalize dotN (l.take i) (ss.take i) = D at hb ⊢
  rw [w64 m (by omega) (by omega), w64 _ (by omega) (by omega)]
  omega
theorem tips_ev (l ss : List Int) (a : Int) (hw : ∀ w ∈ l, 0 ≤ w ∧ w ≤ 10000) (hs : ∀ s ∈ ss, -1 ≤ s ∧ s ≤ 1) (hl : l.length = ss.length) (hn : l.length ≤ 10) (ha : 0 ≤ a ∧ a ≤ 10000) :
    Ev (fun k => padlockref03_tips.f k l ss a) (-a + dotN l ss) := by
  have key : ∀ (n i : Nat), n = l.length - i → i ≤ l.length → Ev (fun k => padlockref03_tips.l0 k l ss (-a + dotN (l.take i) (ss.take i)) (i : Int)) (-a + dotN l ss) := by
    intro n
    induction n with
    | zero =>
      intro i hn' hi
      refine Ev.step (f := fun _ => some (-a + dotN (l.take i) (ss.take i))) (fun k => ?_) (Ev.eq (Ev.now _) (by rw [List.take_of_length_le (by omega), List.take_of_length_le (by omega)]))
      rw [padlockref03_tips.l0, if_neg (by omega)]
    | succ n ih =>
      intro i hn' hi
      have hia : i < l.length := by omega
      have hib : i < ss.length := by omega
      have hwi : wrap64 ((i : Int) + 1) = ((i + 1 : Nat) : Int) := by rw [w64 _ (by omega) (by omega)]; omega
      refine Ev.step (fun k => ?_) (ih (i + 1) (by omega) (by omega))
      rw [padlockref03_tips.l0, if_pos (by omega), if_pos (by omega), if_pos (by omega), rd_lt l i hia, rd_lt ss i hib, hwi, tips_sum l ss hw hs hl hn i hia a ha hib]
  have hna : wrap64 (-a) = -a := w64 _ (by omega) (by omega)
  refine Ev.congr (fun k => ?_) (key _ 0 rfl (by omega))
  unfold padlockref03_tips.f
  rw [hna]
  simp [dotN]
/-- The n-th choice of sides. -/
def dig : Nat → Nat → List Int
  | 0, _ => []
  | t + 1, n => (((n / 3 ^ t % 3 : Nat) : Int) - 1) :: dig t n
theorem dig_len : ∀ t n, (dig t n).length = t
  | 0, _ => rfl
  | t + 1, n => by simp [dig, dig_len t n]
theorem dig_range : ∀ t n, ∀ s ∈ dig t n, -1 ≤ s ∧ s ≤ 1
  | 0, _, s, h => by simp [dig] at h
  | t + 1, n, s, h => by
    rcases List.mem_cons.1 h with rfl | h
    · have := Nat.mod_lt (n / 3 ^ t) (show 0 < 3 by omega)
      omega
    · exact dig_range t n s h
theorem dig_shift : ∀ t q r m, t ≤ m → dig t (q * 3 ^ m + r) = dig t r
  | 0, _, _, _, _ => rfl
  | t + 1, q, r, m, h => by
    have e : (q * 3 ^ m + r) / 3 ^ t % 3 = r / 3 ^ t % 3 := by
      obtain ⟨d, rfl⟩ : ∃ d, m = t + 1 + d := ⟨m - (t + 1), by omega⟩
      have hp : 0 < 3 ^ t := Nat.pow_pos (by omega)
      have e3 : q * 3 ^ (t + 1 + d) + r = r + 3 ^ t * (3 * (q * 3 ^ d)) := by
        rw [Nat.pow_add, Nat.pow_succ, Nat.add_comm]
        congr 1
        ac_rfl
      rw [e3]
      rw [Nat.add_mul_div_left _ _ hp, Nat.add_mul_mod_self_left]
    rw [dig, dig, e, dig_shift t q r m (by omega)]
theorem dig_head (m q r : Nat) (hq : q < 3) (hr : r < 3 ^ m) : dig (m + 1) (q * 3 ^ m + r) = ((q : Int) - 1) :: dig m r := by
  have hp : 0 < 3 ^ m := Nat.pow_pos (by omega)
  rw [dig, dig_shift m q r m (Nat.le_refl _)]
  congr 2
  rw [Nat.add_comm, Nat.add_mul_div_right _ _ hp, Nat.div_eq_of_lt hr, Nat.zero_add, Nat.mod_eq_of_lt hq]
theorem range_three (m : Nat) : List.range (3 ^ (m + 1)) = ((List.range (3 ^ m)).map (fun r => 0 * 3 ^ m + r) ++ (List.range (3 ^ m)).map (fun r => 1 * 3 ^ m + r)) ++ (List.range (3 ^ m)).map (fun r => 2 * 3 ^ m + r) := by
  rw [Nat.pow_succ, show 3 ^ m * 3 = (3 ^ m + 3 ^ m) + 3 ^ m by omega, List.range_add, List.range_add]
  simp [Nat.two_mul]
/-- All choices with which nothing tips. -/
theorem wOuts_dig : ∀ (l p : List Int) (s u : Int), (wOuts l p s u).map (·.1) = (((List.range (3 ^ l.length)).map (dig l.length)).filter fun d => decide (s + dotN l d = 0)).map (p ++ ·)
  | [], p, s, u => by
    unfold wOuts
    by_cases h : s = 0
    · subst h
      simp [dig, dotN]
    · simp [dig, dotN, h]
  | v :: l, p, s, u => by
    have part : ∀ (q : Nat) (hq : q < 3) (c : Int), c = (q : Int) - 1 → (wOuts l (p ++ [c]) (s + c * v) (u + c * c)).map (·.1) =
        ((((List.range (3 ^ l.length)).map (fun r => q * 3 ^ l.length + r)).map (dig (l.length + 1))).filter fun d => decide (s + dotN (v :: l) d = 0)).map (p ++ ·) := by
      intro q hq c hc
      rw [wOuts_dig l _ _ _]
      have e : (((List.range (3 ^ l.length)).map (fun r => q * 3 ^ l.length + r)).map (dig (l.length + 1))) = ((List.range (3 ^ l.length)).map (dig l.length)).map (c :: ·) := by
        rw [List.map_map, List.map_map]
        apply List.map_congr_left
        intro r hr
        simp only [Function.comp, dig_head l.length q r hq (List.mem_range.1 hr), hc]
      rw [e]
      generalize (List.range (3 ^ l.length)).map (dig l.length) = R
      induction R with
      | nil => rfl
      | cons d R ih =>
        have e2 : decide (s + c * v + dotN l d = 0) = decide (s + dotN (v :: l) (c :: d) = 0) := decide_eq_decide.2 (by simp only [dotN]; constructor <;> intro h <;> omega)
        simp only [List.map_cons, List.filter_cons, e2]
        cases decide (s + dotN (v :: l) (c :: d) = 0) with
        | true =>
          simp only [if_true, List.map_cons]
          rw [ih]
          simp
        | false => simpa using ih
    rw [List.length_cons, range_three, wOuts]
    simp only [List.map_append, List.filter_append]
    rw [part 0 (by omega) (-1) (by omega), part 1 (by omega) 0 (by omega), part 2 (by omega) 1 (by omega)]
theorem wOuts_used : ∀ (l p : List Int) (s u : Int), u = usedN p → ∀ x ∈ wOuts l p s u, x.2 = usedN x.1
  | [], p, s, u, h, x, hx => by
    unfold wOuts at hx
    split at hx
    · rw [List.mem_singleton.1 hx]
      exact h
    · simp at hx
  | v :: l, p, s, u, h, x, hx => by
    unfold wOuts at hx
    rcases List.mem_append.1 hx with hx | hx
    · rcases List.mem_append.1 hx with hx | hx
      · exact wOuts_used l _ _ _ (by rw [usedN_append, h]; rfl) x hx
      · exact wOuts_used l _ _ _ (by rw [usedN_append, h]; rfl) x hx
    · exact wOuts_used l _ _ _ (by rw [usedN_append, h]; rfl) x hx

theorem dig_take_len (m n t : Nat) : (List.replicate (m - t) (0 : Int) ++ dig t n).length = m - t + t := by simp [dig_len]
/-- The reference goes through all choices. -/
theorem weighings_ev (l : List Int) (a : Int) (hB : weighedB l a = true) : Ev (fun k => padlockref03_weighings.f k l a) ((wOuts l [] (-a) 0).map (·.1)) := by
  obtain ⟨hn, ha, hws⟩ := weighedB_facts l a hB
  have hw : ∀ w ∈ l, 0 ≤ w ∧ w ≤ 10000 := by
    intro w hw
    obtain ⟨j, hj, rfl⟩ := List.getElem_of_mem hw
    have := hws j hj
    rw [List.getD_eq_getElem?_getD, List.getElem?_eq_getElem hj, Option.getD_some] at this
    omega
  have hall : (wOuts l [] (-a) 0).map (·.1) = ((List.range (3 ^ l.length)).map (dig l.length)).filter fun d => decide (-a + dotN l d = 0) := by
    rw [wOuts_dig]
    simp
  rw [hall]
  have hmany : 3 ^ l.length ≤ 59049 := by
    have : 3 ^ l.length ≤ 3 ^ 10 := Nat.pow_le_pow_right (by omega) hn
    omega
  obtain ⟨M, hM⟩ : ∃ M, 3 ^ l.length = M := ⟨_, rfl⟩
  rw [hM] at hmany ⊢
  obtain ⟨out, hout⟩ : ∃ out : Nat → List (List Int), out = fun i => ((List.range i).map (dig l.length)).filter fun d => decide (-a + dotN l d = 0) := ⟨_, rfl⟩
  have hsucc : ∀ i, out (i + 1) = out i ++ (if -a + dotN l (dig l.length i) = 0 then [dig l.length i] else []) := by
    intro i
    rw [hout]
    simp only [List.range_succ, List.map_append, List.filter_append, List.map_singleton]
    congr 1
    by_cases h : -a + dotN l (dig l.length i) = 0
    · rw [if_pos h]
      simp [List.filter_cons, h]
    · rw [if_neg h]
      simp [List.filter_cons, h]
  have hlen : ∀ i, (out i).length ≤ i := by
    intro i
    rw [hout]
    exact Nat.le_trans (List.length_filter_le _ _) (by simp)
  have hgoal : (((List.range M).map (dig l.length)).filter fun d => decide (-a + dotN l d = 0)) = out M := by rw [hout]
  rw [hgoal]
  -- the filling of one choice
  have fill : ∀ (n : Nat), n < M → ∀ (r : List (List Int)) (hr : r.length < 59050),
      Ev (fun k => padlockref03_weighings.l1 k l a (M : Int) (r ++ (if -a + dotN l (dig l.length n) = 0 then [dig l.length n] else [])) ((n + 1 : Nat) : Int)) (out M) →
      ∀ t, t ≤ l.length → Ev (fun k => padlockref03_weighings.l2 k l a (M : Int) r (n : Int) (List.replicate (l.length - t) 0 ++ dig t n) ((n / 3 ^ t : Nat) : Int) (((l.length : Int) - 1) - (t : Int))) (out M) := by
    intro n hnM r hr hnext t ht
    have hwn : wrap64 ((n : Int) + 1) = ((n + 1 : Nat) : Int) := by rw [w64 _ (by omega) (by omega)]; omega
    obtain ⟨g, hg⟩ : ∃ g, g = l.length - t := ⟨_, rfl⟩
    induction g generalizing t with
    | zero =>
      have : t = l.length := by omega
      subst this
      have e0 : List.replicate (l.length - l.length) (0 : Int) ++ dig l.length n = dig l.length n := by simp
      rw [e0]
      refine Ev.step (f := fun k => (padlockref03_tips.f k l (dig l.length n) a).bind fun t213 => (if t213 = 0 then (if r.length < 5864062014805 then (padlockref03_weighings.l1 k l a (M : Int) (r ++ [dig l.length n]) ((n + 1 : Nat) : Int)) else (none)) else (padlockref03_weighings.l1 k l a (M : Int) r ((n + 1 : Nat) : Int)))) (fun k => ?_) (Ev.bind (tips_ev l (dig l.length n) a hw (dig_range _ _) (by rw [dig_len]) hn ha) ?_)
      · rw [padlockref03_weighings.l2, if_neg (by omega), hwn]
      · by_cases h : -a + dotN l (dig l.length n) = 0
        · rw [if_pos h] at hnext
          exact Ev.congr (fun k => by rw [if_pos h, if_pos (by omega)]) hnext
        · rw [if_neg h, List.append_nil] at hnext
          exact Ev.congr (fun k => by rw [if_neg h]) hnext
    | succ g ih =>
      have IH := ih (t + 1) (by omega) (by omega)
      have hX : (List.replicate (l.length - t) (0 : Int) ++ dig t n).length = l.length := by rw [dig_take_len]; omega
      have hq : n / 3 ^ t ≤ n := Nat.div_le_self _ _
      have hmod := Nat.mod_lt (n / 3 ^ t) (show 0 < 3 by omega)
      have hm1 : Int.tmod ((n / 3 ^ t : Nat) : Int) 3 = ((n / 3 ^ t % 3 : Nat) : Int) := rfl
      have hm2 : wrap64 (Int.tmod ((n / 3 ^ t : Nat) : Int) 3 - 1) = ((n / 3 ^ t % 3 : Nat) : Int) - 1 := by rw [hm1]; exact w64 _ (by omega) (by omega)
      have hd1 : Int.tdiv ((n / 3 ^ t : Nat) : Int) 3 = ((n / 3 ^ t / 3 : Nat) : Int) := rfl
      have hd2 : wrap64 (Int.tdiv ((n / 3 ^ t : Nat) : Int) 3) = ((n / 3 ^ (t + 1) : Nat) : Int) := by
        have e4 : n / 3 ^ t / 3 = n / 3 ^ (t + 1) := by rw [Nat.div_div_eq_div_mul, Nat.pow_succ]
        have : n / 3 ^ (t + 1) ≤ n := Nat.div_le_self _ _
        rw [hd1, e4]
        generalize n / 3 ^ (t + 1) = q at this ⊢
        exact w64 _ (by omega) (by omega)
      have hi : wrap64 ((l.length : Int) - 1 - (t : Int) - 1) = (l.length : Int) - 1 - ((t + 1 : Nat) : Int) := by rw [w64 _ (by omega) (by omega)]; omega
      have hset : (List.replicate (l.length - t) (0 : Int) ++ dig t n).set (l.length - t - 1) (((n / 3 ^ t % 3 : Nat) : Int) - 1) = List.replicate (l.length - (t + 1)) 0 ++ dig (t + 1) n := by
        rw [List.set_append_left _ _ (by rw [List.length_replicate]; omega)]
        rw [show l.length - t = (l.length - (t + 1)) + 1 from by omega, List.replicate_succ', show l.length - (t + 1) + 1 - 1 = l.length - (t + 1) from by omega]
        rw [List.set_append_right _ _ (by rw [List.length_replicate]; exact Nat.le_refl _), List.length_replicate, Nat.sub_self]
        simp [dig]
      have hz : ((l.length : Int) - 1 - (t : Int)).toNat = l.length - t - 1 := by omega
      rw [← hset] at IH
      refine Ev.step (fun k => ?_) IH
      rw [padlockref03_weighings.l2, if_pos (by omega), if_pos (by omega), if_pos (by rw [hX]; omega), hm2, hd2, hi, hz]
  have l1 : ∀ (g n : Nat), g = M - n → n ≤ M → Ev (fun k => padlockref03_weighings.l1 k l a (M : Int) (out n) (n : Int)) (out M) := by
    intro g
    induction g with
    | zero =>
      intro n hg hnM
      have : n = M := by omega
      subst this
      refine Ev.step (f := fun _ => some (out n)) (fun k => ?_) (Ev.now _)
      rw [padlockref03_weighings.l1, if_neg (by omega)]
    | succ g ih =>
      intro n hg hnM
      have IH := ih (n + 1) (by omega) (by omega)
      rw [hsucc] at IH
      have hln := hlen n
      have := fill n (by omega) (out n) (by omega) IH 0 (by omega)
      have hw1 : wrap64 ((l.length : Int) - 1) = (l.length : Int) - 1 := w64 _ (by omega) (by omega)
      refine Ev.step (fun k => ?_) this
      rw [padlockref03_weighings.l1, if_pos (by omega), if_pos (by omega), if_pos (by omega), hw1]
      simp [dig]
  have h0 : out 0 = [] := by rw [hout]; rfl
  have l0 : ∀ (g i : Nat), g = l.length - i → i ≤ l.length → Ev (fun k => padlockref03_weighings.l0 k l a ((3 ^ i : Nat) : Int) (i : Int)) (out M) := by
    intro g
    induction g with
    | zero =>
      intro i hg hi
      have : i = l.length := by omega
      subst this
      have := l1 M 0 (by omega) (by omega)
      rw [h0] at this
      refine Ev.step (fun k => ?_) this
      rw [padlockref03_weighings.l0, if_neg (by omega), hM]
      rfl
    | succ g ih =>
      intro i hg hi
      have hw3 : 3 ^ i ≤ 3 ^ l.length := Nat.pow_le_pow_right (by omega) hi
      have e1 : wrap64 (((3 ^ i : Nat) : Int) * 3) = ((3 ^ (i + 1) : Nat) : Int) := by
        rw [Nat.pow_succ]
        generalize 3 ^ i = q at hw3 ⊢
        rw [w64 _ (by omega) (by omega)]; omega
      have e2 : wrap64 ((i : Int) + 1) = ((i + 1 : Nat) : Int) := by rw [w64 _ (by omega) (by omega)]; omega
      refine Ev.step (fun k => ?_) (ih (i + 1) (by omega) (by omega))
      rw [padlockref03_weighings.l0, if_pos (by omega), e1, e2]
  exact Ev.congr (fun k => rfl) (l0 _ 0 rfl (by omega))

end Go.Proofs.Ytdhiijleafcfcaa.T
