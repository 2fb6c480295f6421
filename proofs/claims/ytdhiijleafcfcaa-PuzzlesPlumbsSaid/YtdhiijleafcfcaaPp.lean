/- Plumb and Plumbings in plain lists: the document goes through all turns. -/
import Derived.Test.YtdhiijleafcfcaaT0
import Derived.Test.YtdhiijleafcfcaaPFr
import Derived.Test.YtdhiijleafcfcaaPb
import Derived.Test.YtdhiijleafcfcaaTq
namespace Go.Proofs.Ytdhiijleafcfcaa.T
open Go.RowKit Go.Proofs.YtdhiijleafcfcaaW.PrintWords Go.Proofs.YtdhiijleafcfcaaW.PrintLast Go.Proofs.YtdhiijleafcfcaaW.PrintMore
attribute [local go_sem] max2_int min2_int max_two min_two max_three min_three max_four min_four
set_option linter.unusedVariables false
set_option linter.unusedSimpArgs false

open Mz
def sumN : List Int → Int
 | [] => 0
 | x :: t => x + sumN t
theorem sumN_append : ∀ a b : List Int, sumN (a ++ b) = sumN a + sumN b
 | [], b => by simp [sumN]
 | x :: t, b => by simp only [List.cons_append, sumN, sumN_append t b]; omega
/-- The n-th choice of turns. -/
def dig4 : Nat → Nat → List Int
 | 0, _ => []
 | t + 1, n => ((n / 4 ^ t % 4 : Nat) : Int) :: dig4 t n
theorem dig4_len : ∀ t n, (dig4 t n).length = t
 | 0, _ => rfl
 | t + 1, n => by simp [dig4, dig4_len t n]
theorem dig4_range : ∀ t n, ∀ s ∈ dig4 t n, 0 ≤ s ∧ s ≤ 3
 | 0, _, s, h => by simp [dig4] at h
 | t + 1, n, s, h => by
  rcases List.mem_cons.1 h with rfl | h
  ·have := Nat.mod_lt (n / 4 ^ t) (show 0 < 4 by omega)
   omega
  ·exact dig4_range t n s h
theorem sumN_bd : ∀ l : List Int, (∀ s ∈ l, 0 ≤ s ∧ s ≤ 3) → 0 ≤ sumN l ∧ sumN l ≤ 3 * l.length
 | [], _ => by simp [sumN]
 | x :: t, h => by
  have := h x (by simp)
  have := sumN_bd t (fun s hs => h s (by simp [hs]))
  simp only [sumN, List.length_cons]
  omega
theorem dig4_shift : ∀ t q r m, t ≤ m → dig4 t (q * 4 ^ m + r) = dig4 t r
 | 0, _, _, _, _ => rfl
 | t + 1, q, r, m, h => by
  have e : (q * 4 ^ m + r) / 4 ^ t % 4 = r / 4 ^ t % 4 := by
   obtain ⟨d, rfl⟩ : ∃ d, m = t + 1 + d := ⟨m - (t + 1), by omega⟩
   have hp : 0 < 4 ^ t := Nat.pow_pos (by omega)
   have e3 : q * 4 ^ (t + 1 + d) + r = r + 4 ^ t * (4 * (q * 4 ^ d)) := by
    rw [Nat.pow_add, Nat.pow_succ, Nat.add_comm]
    congr 1
    ac_rfl
   rw [e3]
   rw [Nat.add_mul_div_left _ _ hp, Nat.add_mul_mod_self_left]
  rw [dig4, dig4, e, dig4_shift t q r m (by omega)]
theorem dig4_head (m q r : Nat) (hq : q < 4) (hr : r < 4 ^ m) : dig4 (m + 1) (q * 4 ^ m + r) = (q : Int) :: dig4 m r := by
 have hp : 0 < 4 ^ m := Nat.pow_pos (by omega)
 rw [dig4, dig4_shift m q r m (Nat.le_refl _)]
 congr 2
 rw [Nat.add_comm, Nat.add_mul_div_right _ _ hp, Nat.div_eq_of_lt hr, Nat.zero_add, Nat.mod_eq_of_lt hq]
theorem range_four (m : Nat) : List.range (4 ^ (m + 1)) = (((List.range (4 ^ m)).map (fun r => 0 * 4 ^ m + r) ++ (List.range (4 ^ m)).map (fun r => 1 * 4 ^ m + r)) ++ (List.range (4 ^ m)).map (fun r => 2 * 4 ^ m + r)) ++ (List.range (4 ^ m)).map (fun r => 3 * 4 ^ m + r) := by
 rw [Nat.pow_succ, show 4 ^ m * 4 = ((4 ^ m + 4 ^ m) + 4 ^ m) + 4 ^ m by omega, List.range_add, List.range_add, List.range_add]
 have e : 4 ^ m + 4 ^ m + 4 ^ m = 3 * 4 ^ m := by omega
 simp [Nat.two_mul, e]
/-- All choices that solve. -/
theorem pOuts_dig (F : List Int → Bool) : ∀ (m : Nat) (p : List Int) (s : Int), pOuts F m p s = (((List.range (4 ^ m)).map (dig4 m)).filter fun d => F (p ++ d)).map fun d => (p ++ d, s + sumN d)
 | 0, p, s => by
  unfold pOuts
  cases h : F p <;> simp [dig4, sumN, h]
 | m + 1, p, s => by
  have part : ∀ (q : Nat) (hq : q < 4), pOuts F m (p ++ [(q : Int)]) (s + (q : Int)) = ((((List.range (4 ^ m)).map (fun r => q * 4 ^ m + r)).map (dig4 (m + 1))).filter fun d => F (p ++ d)).map fun d => (p ++ d, s + sumN d) := by
   intro q hq
   rw [pOuts_dig F m _ _]
   have e : (((List.range (4 ^ m)).map (fun r => q * 4 ^ m + r)).map (dig4 (m + 1))) = ((List.range (4 ^ m)).map (dig4 m)).map ((q : Int) :: ·) := by
    rw [List.map_map, List.map_map]
    apply List.map_congr_left
    intro r hr
    simp only [Function.comp, dig4_head m q r hq (List.mem_range.1 hr)]
   rw [e]
   generalize (List.range (4 ^ m)).map (dig4 m) = R
   induction R with
   | nil => rfl
   | cons d R ih =>
    simp only [List.map_cons, List.filter_cons, List.append_assoc, List.singleton_append]
    cases h : F (p ++ (q : Int) :: d) with
    | true =>
     simp only [if_true, List.map_cons, List.append_assoc, List.singleton_append, sumN]
     simp only [List.append_assoc, List.singleton_append] at ih
     rw [ih, Int.add_assoc]
    | false =>
     simp only [List.append_assoc, List.singleton_append] at ih
     simpa using ih
  rw [range_four, pOuts]
  simp only [List.map_append, List.filter_append]
  rw [← part 0 (by omega), ← part 1 (by omega), ← part 2 (by omega), ← part 3 (by omega)]
  rfl
theorem bestO_pos : ∀ (n : Nat) (o : List (List Int × Int)), o.length = n → (∀ x ∈ o, 0 ≤ x.2) → o ≠ [] → 0 ≤ (bestO o).2 ∧ bestO o ∈ o := by
 intro n
 induction n with
 | zero => intro o hl _ h; exact absurd (List.length_eq_zero_iff.1 hl) h
 | succ n ih =>
  intro o' hl h _
  obtain ⟨o, x, rfl⟩ : ∃ o x, o' = o ++ [x] := ⟨o'.dropLast, o'.getLast (fun e => by rw [e] at hl; simp at hl), (List.dropLast_concat_getLast _).symm⟩
  rw [bestO_snoc]
  by_cases c : (bestO o).2 < 0 ∨ x.2 < (bestO o).2
  ·rw [if_pos c]
   exact ⟨h x (by simp), by simp⟩
  ·rw [if_neg c]
   by_cases e : o = []
   ·subst e
    exact absurd (.inl (by decide)) c
   ·have := ih o (by simpa using hl) (fun y hy => h y (by simp [hy])) e
    exact ⟨this.1, by simp [this.2]⟩
/-- What the document keeps behind some solutions. -/
def bestD (o : List (List Int × Int)) : List Int × Int := if o = [] then ([], 0) else bestO o
theorem plumb_many : ∀ i : Nat, i ≤ 9 → (4 : Int) ^ i ≤ 262144 ∧ 1 ≤ (4 : Int) ^ i := by
 intro i hi
 have : i = 0 ∨ i = 1 ∨ i = 2 ∨ i = 3 ∨ i = 4 ∨ i = 5 ∨ i = 6 ∨ i = 7 ∨ i = 8 ∨ i = 9 := by omega
 rcases this with rfl | rfl | rfl | rfl | rfl | rfl | rfl | rfl | rfl | rfl <;> decide
section
variable {a0 a1 : Int} {pc : List Int} {a3 a4 : Int}
/-- The document's way through all turns. -/
theorem refplumbings_ev {F : List Int → Bool} (h : plumbB a0 a1 pc a3 a4 = true) (hF : Tells F a0 a1 pc a3 a4) : Ev (fun k => padlockref03_plumbings.f k a0 a1 pc a3 a4) (((pOuts F pc.length [] 0).length : Int), (bestD (pOuts F pc.length [] 0)).1) := by
 obtain ⟨p1, p2, p3, p4, p5, n9, p7, p8, p9⟩ := plumbB_facts h
 obtain ⟨out, hout⟩ : ∃ out : Nat → List (List Int × Int), out = fun i => (((List.range i).map (dig4 pc.length)).filter F).map fun d => (d, sumN d) := ⟨_, rfl⟩
 have hall : pOuts F pc.length [] 0 = out (4 ^ pc.length) := by
  rw [pOuts_dig, hout]
  simp
 rw [hall]
 have hsucc : ∀ i, out (i + 1) = out i ++ (if F (dig4 pc.length i) = true then [(dig4 pc.length i, sumN (dig4 pc.length i))] else []) := by
  intro i
  rw [hout]
  simp only [List.range_succ, List.map_append, List.filter_append, List.map_singleton]
  congr 1
  cases hh : F (dig4 pc.length i) <;> simp [List.filter_cons, hh]
 have hlen : ∀ i, (out i).length ≤ i := by
  intro i
  rw [hout]
  simp only [List.length_map]
  exact Nat.le_trans (List.length_filter_le _ _) (by simp)
 have hpos : ∀ i, ∀ x ∈ out i, 0 ≤ x.2 ∧ x.2 ≤ 27 := by
  intro i x hx
  rw [hout] at hx
  simp only [List.mem_map, List.mem_filter] at hx
  obtain ⟨d, ⟨⟨r, _, rfl⟩, _⟩, rfl⟩ := hx
  have := sumN_bd _ (dig4_range pc.length r)
  rw [dig4_len] at this
  simp only
  omega
 obtain ⟨M, hM⟩ : ∃ M, 4 ^ pc.length = M := ⟨_, rfl⟩
 have hmany : M ≤ 262144 := by
  rw [← hM]
  exact Nat.pow_le_pow_right (n := 4) (by omega) n9
 rw [hM]
 obtain ⟨R, hR⟩ : ∃ R, (((out M).length : Int), (bestD (out M)).1) = R := ⟨_, rfl⟩
 rw [hR]
 -- one choice, filled from its end
 have fill : ∀ (n : Nat), n < M → Ev (fun k => padlockref03_plumbings.l1 k (M : Int) ((out (n + 1)).length : Int) (bestD (out (n + 1))).2 (bestD (out (n + 1))).1 ((n + 1 : Nat) : Int) a0 a1 pc a3 a4) R →
   ∀ g t, g = pc.length - t → t ≤ pc.length → Ev (fun k => padlockref03_plumbings.l2 k (M : Int) ((out n).length : Int) (bestD (out n)).2 (bestD (out n)).1 (n : Int) (List.replicate (pc.length - t) 0 ++ dig4 t n) ((n / 4 ^ t : Nat) : Int) (sumN (dig4 t n)) (((pc.length : Int) - 1) - (t : Int)) a0 a1 pc a3 a4) R := by
  intro n hnM hnext g
  have hwn : wrap64 ((n : Int) + 1) = ((n + 1 : Nat) : Int) := by rw [w64 _ (by omega) (by omega)]; omega
  induction g with
  | zero =>
   intro t hg ht
   obtain rfl : t = pc.length := by omega
   have e0 : List.replicate (pc.length - pc.length) (0 : Int) ++ dig4 pc.length n = dig4 pc.length n := by simp
   rw [e0]
   have P := pl_of h (dig4_len pc.length n) (dig4_range pc.length n)
   obtain ⟨r, e1, L, D, hr, rfl⟩ := flows_ev P a0 a1 a4
   obtain ⟨k0, hk0⟩ := e1.rounds
   have hsv := hF _ _ _ hk0
   unfold okR at hsv
   simp only at hsv
   have e2 := refflows_ev P D hr a4
   have hs := hsucc n
   have hln := hlen n
   have step : ∀ b, b = !(F (dig4 pc.length n)) → Ev (fun k => padlockref03_plumbings.j3 k (M : Int) ((out n).length : Int) (bestD (out n)).2 (bestD (out n)).1 (n : Int) (dig4 pc.length n) (sumN (dig4 pc.length n)) b a0 a1 pc a3 a4) R := by
    intro b hb
    cases hFd : F (dig4 pc.length n) with
    | false =>
     rw [hFd, if_neg (by decide), List.append_nil] at hs
     rw [hs] at hnext
     rw [hFd] at hb
     subst hb
     refine Ev.step (fun k => ?_) hnext
     rw [padlockref03_plumbings.j3, if_pos (by decide), hwn]
    | true =>
     rw [hFd, if_pos rfl] at hs
     rw [hFd] at hb
     subst hb
     have hl1 : wrap64 (((out n).length : Int) + 1) = ((out (n + 1)).length : Int) := by rw [hs, w64 _ (by omega) (by omega)]; simp
     have hne : out (n + 1) ≠ [] := by rw [hs]; simp
     have hb1 : bestD (out (n + 1)) = if (bestO (out n)).2 < 0 ∨ sumN (dig4 pc.length n) < (bestO (out n)).2 then (dig4 pc.length n, sumN (dig4 pc.length n)) else bestO (out n) := by
      unfold bestD
      rw [if_neg hne, hs, bestO_snoc]
     by_cases c1 : out n = []
     ·rw [hb1, c1, if_pos (.inl (by decide))] at hnext
      refine Ev.step (fun k => ?_) hnext
      rw [padlockref03_plumbings.j3, if_neg (by decide), hwn, hl1, if_pos (by rw [hs, c1]; rfl)]
     ·have hbp := bestO_pos _ (out n) rfl (fun x hx => (hpos n x hx).1) c1
      have hd : bestD (out n) = bestO (out n) := if_neg c1
      have hl2 : ¬ ((out (n + 1)).length : Int) = 1 := by
       have : 0 < (out n).length := List.length_pos_iff.2 c1
       rw [hs]
       simp
       omega
      by_cases c2 : sumN (dig4 pc.length n) < (bestO (out n)).2
      ·rw [hb1, if_pos (.inr c2)] at hnext
       refine Ev.step (fun k => ?_) hnext
       rw [padlockref03_plumbings.j3, if_neg (by decide), hwn, hl1, if_neg hl2, hd, if_pos c2]
      ·rw [hb1, if_neg (by omega)] at hnext
       refine Ev.step (fun k => ?_) hnext
       rw [padlockref03_plumbings.j3, if_neg (by decide), hwn, hl1, if_neg hl2, hd, if_neg c2]
   refine Ev.step (f := fun k => (padlockref03_flows.f k a0 a1 pc a3 a4 (dig4 pc.length n)).bind fun bt570 => (if 0 ≤ a4 then (if a4 < (bt570.1.length : Int) then (if rdOf false bt570.1 a4 = true then (padlockref03_plumbings.j3 k (M : Int) ((out n).length : Int) (bestD (out n)).2 (bestD (out n)).1 (n : Int) (dig4 pc.length n) (sumN (dig4 pc.length n)) (decide (bt570.2 > 0)) a0 a1 pc a3 a4) else (padlockref03_plumbings.j3 k (M : Int) ((out n).length : Int) (bestD (out n)).2 (bestD (out n)).1 (n : Int) (dig4 pc.length n) (sumN (dig4 pc.length n)) true a0 a1 pc a3 a4)) else (none)) else (none))) (fun k => ?_) (Ev.bind e2 ?_)
   ·rw [padlockref03_plumbings.l2, if_neg (by omega)]
   ·have hl : a4 < ((mks pc.length L).length : Int) := by rw [tab_len]; exact p8.2
    cases hwv : rdOf false (mks pc.length L) a4 with
    | true =>
     refine Ev.congr (fun k => by rw [if_pos p8.1, if_pos hl, if_pos rfl]) (step _ ?_)
     rw [hsv, hwv, Bool.and_true, Bool.not_not]
    | false =>
     refine Ev.congr (fun k => by rw [if_pos p8.1, if_pos hl, if_neg (by decide)]) (step _ ?_)
     rw [hsv, hwv, Bool.and_false]
     rfl
  | succ g ih =>
   intro t hg ht
   have IH := ih (t + 1) (by omega) (by omega)
   have hX : (List.replicate (pc.length - t) (0 : Int) ++ dig4 t n).length = pc.length := by rw [List.length_append, List.length_replicate, dig4_len]; omega
   have hq : n / 4 ^ t ≤ n := Nat.div_le_self _ _
   have hmod := Nat.mod_lt (n / 4 ^ t) (show 0 < 4 by omega)
   have hm1 : Int.tmod ((n / 4 ^ t : Nat) : Int) 4 = ((n / 4 ^ t % 4 : Nat) : Int) := rfl
   have hd1 : Int.tdiv ((n / 4 ^ t : Nat) : Int) 4 = ((n / 4 ^ t / 4 : Nat) : Int) := rfl
   have hd2 : wrap64 (Int.tdiv ((n / 4 ^ t : Nat) : Int) 4) = ((n / 4 ^ (t + 1) : Nat) : Int) := by
    have e4 : n / 4 ^ t / 4 = n / 4 ^ (t + 1) := by rw [Nat.div_div_eq_div_mul, Nat.pow_succ]
    have : n / 4 ^ (t + 1) ≤ n := Nat.div_le_self _ _
    rw [hd1, e4]
    generalize n / 4 ^ (t + 1) = q at this ⊢
    exact w64 _ (by omega) (by omega)
   have hi : wrap64 ((pc.length : Int) - 1 - (t : Int) - 1) = (pc.length : Int) - 1 - ((t + 1 : Nat) : Int) := by rw [w64 _ (by omega) (by omega)]; omega
   have hset : (List.replicate (pc.length - t) (0 : Int) ++ dig4 t n).set (pc.length - t - 1) ((n / 4 ^ t % 4 : Nat) : Int) = List.replicate (pc.length - (t + 1)) 0 ++ dig4 (t + 1) n := by
    rw [List.set_append_left _ _ (by rw [List.length_replicate]; omega)]
    rw [show pc.length - t = (pc.length - (t + 1)) + 1 from by omega, List.replicate_succ', show pc.length - (t + 1) + 1 - 1 = pc.length - (t + 1) from by omega]
    rw [List.set_append_right _ _ (by rw [List.length_replicate]; exact Nat.le_refl _), List.length_replicate, Nat.sub_self]
    simp [dig4]
   have hz : ((pc.length : Int) - 1 - (t : Int)).toNat = pc.length - t - 1 := by omega
   have hrd : rd (List.replicate (pc.length - (t + 1)) 0 ++ dig4 (t + 1) n) ((pc.length : Int) - 1 - (t : Int)) = ((n / 4 ^ t % 4 : Nat) : Int) := by
    unfold rd
    rw [hz, List.getD_eq_getElem?_getD, List.getElem?_append_right (by rw [List.length_replicate]; omega), List.length_replicate, show pc.length - t - 1 - (pc.length - (t + 1)) = 0 from by omega]
    rfl
   have hsb := sumN_bd _ (dig4_range t n)
   rw [dig4_len] at hsb
   have hsum : wrap64 (sumN (dig4 t n) + ((n / 4 ^ t % 4 : Nat) : Int)) = sumN (dig4 (t + 1) n) := by
    simp only [dig4, sumN]
    generalize sumN (dig4 t n) = S at hsb ⊢
    generalize n / 4 ^ t % 4 = q at hmod ⊢
    rw [w64 _ (by omega) (by omega)]
    omega
   have c1 : (pc.length : Int) - 1 - (t : Int) ≥ 0 := by omega
   have c2 : (pc.length : Int) - 1 - (t : Int) < (pc.length : Int) := by omega
   refine Ev.step (fun k => ?_) IH
   rw [padlockref03_plumbings.l2, if_pos c1, if_pos c1, if_pos (by rw [hX]; exact c2), Option.bind_some, hz, hm1, hset, hrd, hsum, hi, hd2]
 have run : ∀ (m i : Nat), i + m = M → Ev (fun k => padlockref03_plumbings.l1 k (M : Int) ((out i).length : Int) (bestD (out i)).2 (bestD (out i)).1 (i : Int) a0 a1 pc a3 a4) R := by
  intro m
  induction m with
  | zero =>
   intro i hi
   obtain rfl : i = M := by omega
   refine Ev.step (f := fun _ => some R) (fun k => ?_) (Ev.now _)
   rw [padlockref03_plumbings.l1, if_neg (by omega), hR]
  | succ m ih =>
   intro i hi
   have := fill i (by omega) (ih (i + 1) (by omega)) pc.length 0 (by omega) (by omega)
   refine Ev.step (fun k => ?_) this
   rw [padlockref03_plumbings.l1, if_pos (by omega), if_pos (by omega), if_pos (by omega), Option.bind_some, Int.toNat_natCast, List.length_replicate, w64 _ (by omega) (by omega)]
   simp [dig4, sumN]
 have count : ∀ (m i : Nat), i + m = pc.length → Ev (fun k => padlockref03_plumbings.l0 k ((4 : Int) ^ i) (i : Int) a0 a1 pc a3 a4) R := by
  intro m
  induction m with
  | zero =>
   intro i hi
   obtain rfl : i = pc.length := by omega
   refine Ev.step (fun k => ?_) (run M 0 (by omega))
   rw [padlockref03_plumbings.l0, if_neg (by omega), ← hM, hout]
   simp [bestD]
  | succ m ih =>
   intro i hi
   have := plumb_many i (by omega)
   refine Ev.step (fun k => ?_) (ih (i + 1) (by omega))
   rw [padlockref03_plumbings.l0, if_pos (by omega), w64 ((i : Int) + 1) (by omega) (by omega), Int.pow_succ]
   generalize (4 : Int) ^ i = q at this ⊢
   rw [w64 (q * 4) (by omega) (by omega)]
   rfl
 exact Ev.congr (fun k => rfl) (count pc.length 0 (by omega))
end
/-- All sums are at least 0. -/
theorem pOuts_pos (F : List Int → Bool) (m : Nat) : ∀ x ∈ pOuts F m [] 0, 0 ≤ x.2 ∧ x.1.length = m ∧ (∀ s ∈ x.1, 0 ≤ s ∧ s ≤ 3) ∧ x.2 = sumN x.1 ∧ F x.1 = true := by
 intro x hx
 rw [pOuts_dig] at hx
 simp only [List.mem_map, List.mem_filter, List.nil_append] at hx
 obtain ⟨d, ⟨⟨r, _, rfl⟩, h2⟩, rfl⟩ := hx
 have := sumN_bd _ (dig4_range m r)
 exact ⟨by simp only; omega, dig4_len _ _, dig4_range m r, by simp, h2⟩
theorem refPlumb_ev {F : List Int → Bool} (a0 a1 : Int) (l : List Int) (a3 a4 : Int) (hF : Tells F a0 a1 l a3 a4) : Ev (fun k => padlockref03_Plumb.f k a0 a1 l a3 a4) (if plumbB a0 a1 l a3 a4 = true then plumbR (pOuts F l.length [] 0) else ([], 30)) := by
 unfold padlockref03_Plumb.f
 refine Ev.bind (checkpipes_ev a0 a1 l a3 a4) ?_
 by_cases h : plumbB a0 a1 l a3 a4 = true
 ·rw [if_pos h, if_pos h]
  refine Ev.congr (fun k => if_pos rfl) (Ev.bind (refplumbings_ev h hF) ?_)
  have hpos := pOuts_pos F l.length
  unfold plumbR
  generalize pOuts F l.length [] 0 = o at hpos ⊢
  by_cases c : o = []
  ·subst c
   exact Ev.now _
  ·have hb := bestO_pos _ o rfl (fun x hx => (hpos x hx).1) c
   have hl : ¬ (o.length : Int) = 0 := by have := List.length_pos_iff.2 c; omega
   refine Ev.congr (fun k => ?_) (Ev.now _)
   rw [if_neg hl, if_neg (by omega)]
   unfold bestD
   rw [if_neg c]
 ·rw [if_neg h, if_neg h]
  exact Ev.congr (fun k => if_neg (by decide)) (Ev.now _)
theorem refPlumbings_ev {F : List Int → Bool} (a0 a1 : Int) (l : List Int) (a3 a4 : Int) (hF : Tells F a0 a1 l a3 a4) : Ev (fun k => padlockref03_Plumbings.f k a0 a1 l a3 a4) (if plumbB a0 a1 l a3 a4 = true then (((pOuts F l.length [] 0).length : Int), 0) else (0, 30)) := by
 unfold padlockref03_Plumbings.f
 refine Ev.bind (checkpipes_ev a0 a1 l a3 a4) ?_
 by_cases h : plumbB a0 a1 l a3 a4 = true
 ·rw [if_pos h, if_pos h]
  exact Ev.congr (fun k => if_pos rfl) (Ev.bind (refplumbings_ev h hF) (Ev.now _))
 ·rw [if_neg h, if_neg h]
  exact Ev.congr (fun k => if_neg (by decide)) (Ev.now _)

end Go.Proofs.Ytdhiijleafcfcaa.T
