/- The reference's hangings, in plain lists. -/
import Derived.Test.YtdhiijleafcfcaaT0
import Derived.Test.YtdhiijleafcfcaaP0
import Derived.Test.YtdhiijleafcfcaaThr
import Derived.Test.YtdhiijleafcfcaaTh
import Derived.Test.YtdhiijleafcfcaaHg
namespace Go.Proofs.Ytdhiijleafcfcaa.T
open Go.RowKit Go.Proofs.YtdhiijleafcfcaaW.PrintWords Go.Proofs.YtdhiijleafcfcaaW.PrintLast Go.Proofs.YtdhiijleafcfcaaW.PrintMore
attribute [local go_sem] max2_int min2_int max_two min_two max_three min_three max_four min_four
set_option linter.unusedVariables false
set_option linter.unusedSimpArgs false

theorem place_l0 (p : List Int) (x : Int) (hp : p.length ≤ 100) : ∀ (m i : Nat), i + m = p.length → Ev (fun k => padlockref03_place.l0 k p x (i : Int)) (if x ∈ p.drop i then ((i + (p.drop i).idxOf x : Nat) : Int) else -1) := by
 intro m
 induction m with
 | zero =>
  intro i hi
  refine Ev.step (f := fun _ => some (-1)) (fun k => ?_) (Ev.eq (Ev.now _) ?_)
  ·rw [padlockref03_place.l0, if_neg (by omega)]
  ·rw [List.drop_of_length_le (by omega)]
   simp
 | succ m ih =>
  intro i hi
  have hlt : i < p.length := by omega
  have e1 : wrap64 ((i : Int) + 1) = ((i + 1 : Nat) : Int) := by rw [w64 _ (by omega) (by omega)]; omega
  rw [List.drop_eq_getElem_cons hlt]
  by_cases q : p[i] = x
  ·refine Ev.step (f := fun _ => some (i : Int)) (fun k => ?_) (Ev.eq (Ev.now _) ?_)
   ·rw [padlockref03_place.l0, if_pos (by omega), if_pos (by omega), rd_lt p i hlt, if_pos q]
   ·rw [if_pos (by simp [q]), List.idxOf_cons, q]
    simp
  ·refine Ev.step (f := fun k => padlockref03_place.l0 k p x ((i + 1 : Nat) : Int)) (fun k => ?_) (Ev.eq (ih (i + 1) (by omega)) ?_)
   ·conv => lhs; rw [padlockref03_place.l0, if_pos (by omega), if_pos (by omega), rd_lt p i hlt, if_neg q, e1]
   ·have hq : ¬ x = p[i] := fun e => q e.symm
    by_cases r : x ∈ p.drop (i + 1)
    ·rw [if_pos r, if_pos (List.mem_cons.2 (.inr r)), List.idxOf_cons]
     have : (p[i] == x) = false := by simpa using q
     rw [this]
     simp only [cond_false]
     omega
    ·rw [if_neg r, if_neg (fun h => by rcases List.mem_cons.1 h with h | h; exact hq h; exact r h)]
theorem place_ev (p : List Int) (x : Int) (hp : p.length ≤ 100) : Ev (fun k => padlockref03_place.f k p x) (posI p x) := by
 refine Ev.congr (f := fun k => padlockref03_place.l0 k p x ((0 : Nat) : Int)) (fun k => rfl) (Ev.eq (place_l0 p x hp p.length 0 (by omega)) ?_)
 simp only [List.drop_zero, Nat.zero_add]
 rfl
theorem true_ev (s : S76) (p : List Int) (N : Nat) (h1 : 1 ≤ N) (hp : p.length ≤ 100) (hs : saidB s (N : Int) = true) : Ev (fun k => padlockref03_True.f k s.f0 s.f1 s.f2 s.f3 s.f4 p) (holdsB s (plOf N p)) := by
 obtain ⟨f0, f1, f2, f3, f4⟩ := s
 unfold padlockref03_True.f
 refine Ev.bind (place_ev p f1 hp) (Ev.bind (place_ev p f2 hp) ?_)
 unfold holdsB
 unfold saidB inR at hs
 simp only at hs ⊢
 have r1 := posI_range p f1
 have r2 := posI_range p f2
 by_cases c1 : f0 = 1
 ·simp only [c1, if_true, Bool.and_eq_true, decide_eq_true_eq, beq_iff_eq] at hs ⊢
  rw [plOf_rd N p f1 (by omega) (by omega)]
  exact Ev.now _
 ·rw [if_neg c1] at hs
  by_cases c2 : f0 = 2
  ·rw [if_pos (.inl c2)] at hs
   simp only [Bool.and_eq_true, decide_eq_true_eq, beq_iff_eq] at hs
   rw [if_neg c1, if_pos c2, plOf_rd N p f1 (by omega) (by omega), plOf_rd N p f2 (by omega) (by omega)]
   simp only [if_neg c1, if_pos c2]
   exact Ev.now _
  ·by_cases c3 : f0 = 3
   ·rw [if_pos (.inr c3)] at hs
    simp only [Bool.and_eq_true, decide_eq_true_eq, beq_iff_eq] at hs
    rw [if_neg c1, if_neg c2, if_pos c3, plOf_rd N p f1 (by omega) (by omega), plOf_rd N p f2 (by omega) (by omega)]
    simp only [if_neg c1, if_neg c2, if_pos c3]
    exact Ev.now _
   ·rw [if_neg (by omega)] at hs
    by_cases c4 : f0 = 4
    ·rw [if_pos c4] at hs
     simp only [Bool.and_eq_true, decide_eq_true_eq] at hs
     rw [if_neg c1, if_neg c2, if_neg c3, if_pos c4, plOf_rd N p f1 (by omega) (by omega), plOf_rd N p f2 (by omega) (by omega)]
     simp only [if_neg c1, if_neg c2, if_neg c3, if_pos c4]
     refine Ev.eq (Ev.now _) ?_
     congr 1
     rw [w64 (posI p f1 - posI p f2) (by omega) (by omega), w64 (posI p f2 - posI p f1) (by omega) (by omega)]
     have hm : -200 ≤ mx (posI p f1 - posI p f2) (posI p f2 - posI p f1) ∧ mx (posI p f1 - posI p f2) (posI p f2 - posI p f1) ≤ 200 := by
      unfold mx
      split <;> omega
     rw [w64 _ (by omega) (by omega), decide_eq_decide]
     omega
    ·rw [if_neg c4] at hs
     cases hs
theorem leaf_l0 (l : List S76) (p : List Int) (N : Nat) (h1 : 1 ≤ N) (hp : p.length ≤ 100) (hl : l.length ≤ 20) (hs : ∀ s ∈ l, saidB s (N : Int) = true) : ∀ (m i : Nat), i + m = l.length → Ev (fun k => padlockref03_hangings.l0 k l p (i : Int)) (if ((l.drop i).any fun s => !holdsB s (plOf N p)) = true then [] else [p]) := by
 intro m
 induction m with
 | zero =>
  intro i hi
  refine Ev.step (f := fun _ => some [p]) (fun k => ?_) (Ev.eq (Ev.now _) ?_)
  ·rw [padlockref03_hangings.l0, if_neg (by omega)]
  ·rw [List.drop_of_length_le (by omega)]
   rfl
 | succ m ih =>
  intro i hi
  have hlt : i < l.length := by omega
  have e1 : wrap64 ((i : Int) + 1) = ((i + 1 : Nat) : Int) := by rw [w64 _ (by omega) (by omega)]; omega
  have hrd : rd_T76 l (i : Int) = l[i] := by unfold rd_T76; rw [Int.toNat_natCast, List.getD_eq_getElem?_getD, List.getElem?_eq_getElem hlt, Option.getD_some]
  rw [List.drop_eq_getElem_cons hlt, List.any_cons]
  refine Ev.step (f := fun k => (padlockref03_True.f k l[i].f0 l[i].f1 l[i].f2 l[i].f3 l[i].f4 p).bind fun t => if t = true then padlockref03_hangings.l0 k l p ((i + 1 : Nat) : Int) else some []) (fun k => ?_) ?_
  ·conv => lhs; rw [padlockref03_hangings.l0, if_pos (by omega), if_pos (by omega), hrd, e1]
  ·refine Ev.bind (true_ev l[i] p N h1 hp (hs _ (List.getElem_mem hlt))) ?_
   cases holdsB l[i] (plOf N p) with
   | true => exact Ev.congr (fun k => if_pos rfl) (Ev.eq (ih (i + 1) (by omega)) (by simp))
   | false => exact Ev.congr (fun k => if_neg (by decide)) (Ev.eq (Ev.now _) (by simp))
theorem pow_bd (N m : Nat) (h6 : N ≤ 6) (hm : m ≤ 6) : N ^ m ≤ 46656 := Nat.le_trans (Nat.pow_le_pow_left h6 m) (Nat.le_trans (Nat.pow_le_pow_right (by omega) hm) (by decide))
def hl1F (k : Nat) (n : Int) (l : List S76) (p : List Int) (acc : List (List Int)) (j : Int) (t724 : Int) : Option (List (List Int)) := (if t724 < 0 then (if ([] : List Int).length + p.length < 17592186044416 then ((some (([] : List Int) ++ p : List Int)).bind fun y725 => (if y725.length < 17592186044416 then ((padlockref03_hangings.f k n l (y725 ++ [j])).bind fun t731 => (if acc.length + t731.length < 5864062014805 then (padlockref03_hangings.l1 k n l p (acc ++ t731) (wrap64 (j + 1))) else (none))) else (none))) else (none)) else (padlockref03_hangings.l1 k n l p acc (wrap64 (j + 1))))
theorem hl1_step (k : Nat) (n : Int) (l : List S76) (p : List Int) (acc : List (List Int)) (j : Int) : padlockref03_hangings.l1 (k + 1) n l p acc j = if j < n then (padlockref03_place.f k p j).bind (hl1F k n l p acc j) else some acc := by
 rw [padlockref03_hangings.l1]
 rfl
theorem hangings_ev (l : List S76) (N : Nat) (h1 : 1 ≤ N) (h6 : N ≤ 6) (hl : l.length ≤ 20) (hs : ∀ s ∈ l, saidB s (N : Int) = true) : ∀ (m : Nat) (p : List Int), p.length + m = N → Ev (fun k => padlockref03_hangings.f k (N : Int) l p) (hOuts N (okH N l) m p) := by
 intro m
 induction m with
 | zero =>
  intro p hp
  refine Ev.step (f := fun k => padlockref03_hangings.l0 k l p ((0 : Nat) : Int)) (fun k => ?_) (Ev.eq (leaf_l0 l p N h1 (by omega) hl hs l.length 0 (by omega)) ?_)
  ·rw [padlockref03_hangings.f, if_pos (by omega)]
   rfl
  ·rw [List.drop_zero]
   unfold hOuts okH
   cases (l.any fun s => !holdsB s (plOf N p)) <;> rfl
 | succ m ih =>
  intro p hp
  have loop : ∀ (d j : Nat), j + d = N → Ev (fun k => padlockref03_hangings.l1 k (N : Int) l p (hUpto N (okH N l) m p j) (j : Int)) (hOuts N (okH N l) (m + 1) p) := by
   intro d
   induction d with
   | zero =>
    intro j hj
    obtain rfl : j = N := by omega
    refine Ev.step (f := fun _ => some _) (fun k => ?_) (Ev.eq (Ev.now _) (hUpto_all _ _ _ _))
    rw [padlockref03_hangings.l1, if_neg (by omega)]
   | succ d ihd =>
    intro j hj
    have hlt : (j : Int) < (N : Int) := by omega
    have e1 : wrap64 ((j : Int) + 1) = ((j + 1 : Nat) : Int) := by rw [w64 _ (by omega) (by omega)]; omega
    have hn := ihd (j + 1) (by omega)
    rw [hUpto_succ] at hn
    refine Ev.step (f := fun k => (padlockref03_place.f k p (j : Int)).bind (hl1F k (N : Int) l p (hUpto N (okH N l) m p j) (j : Int))) (fun k => ?_) (Ev.bind (place_ev p (j : Int) (by omega)) ?_)
    ·rw [hl1_step, if_pos hlt]
    ·by_cases q : (j : Int) ∈ p
     ·rw [if_pos q, List.append_nil] at hn
      refine Ev.congr (fun k => ?_) hn
      unfold hl1F
      rw [if_neg (by have := (posI_nonneg p (j : Int)).2 q; omega), e1]
     ·rw [if_neg q] at hn
      have hneg : posI p (j : Int) < 0 := by
       have := posI_nonneg p (j : Int)
       rcases Int.lt_or_le (posI p (j : Int)) 0 with h | h
       ·exact h
       ·exact absurd (this.1 h) q
      refine Ev.congr (f := fun k => (padlockref03_hangings.f k (N : Int) l (p ++ [(j : Int)])).bind fun t => if (hUpto N (okH N l) m p j).length + t.length < 5864062014805 then padlockref03_hangings.l1 k (N : Int) l p (hUpto N (okH N l) m p j ++ t) ((j + 1 : Nat) : Int) else none) (fun k => ?_) (Ev.bind (ih (p ++ [(j : Int)]) (by simp only [List.length_append, List.length_singleton]; omega)) (Ev.congr (fun k => if_pos ?_) hn))
      ·unfold hl1F
       rw [if_pos hneg, if_pos (by simp; omega), Option.bind_some, List.nil_append, if_pos (by omega), e1]
      ·have b1 := pow_bd N m h6 (by omega)
       have b2 := hUpto_len N (okH N l) m p (N ^ m) (fun x => hOuts_len N (okH N l) m _) j
       have b3 := hOuts_len N (okH N l) m (p ++ [(j : Int)])
       have b4 : j * N ^ m ≤ 6 * 46656 := Nat.mul_le_mul (by omega) b1
       omega
  refine Ev.step (f := fun k => padlockref03_hangings.l1 k (N : Int) l p (hUpto N (okH N l) m p 0) ((0 : Nat) : Int)) (fun k => ?_) (loop N 0 (by omega))
  rw [padlockref03_hangings.f, if_neg (by omega)]
  rfl
/-- The checks. -/
theorem refwin (a b c : Int) : padlockref03_Within.f a b c = some (inR b c a) := refwithin_val a b c
/-- Is a sentence valid, if t says whether the other portrait is? -/
def cpOk (n f0 f1 f2 f3 : Int) (t : Bool) : Bool := if f0 = 1 then f2 == 0 && inR 0 (n - 1) f3 && inR 0 (n - 1) f1 else if f0 = 2 ∨ f0 = 3 then t && f3 == 0 && inR 0 (n - 1) f1 else if f0 = 4 then t && inR 0 n f3 && inR 0 (n - 1) f1 else false
theorem cp_j {n : Int} {l : List S76} {i : Nat} {R : Int} (e1 : wrap64 ((i : Int) + 1) = ((i + 1 : Nat) : Int)) (e2 : wrap64 (n - 1) = n - 1) (hn : Ev (fun k => padlockref03_CheckPortraits.l0 k n l ((i + 1 : Nat) : Int)) R) (t : Bool) (f0 f1 f2 f3 : Int) (f4 : Bool) :
  Ev (fun k => padlockref03_CheckPortraits.j1 k n l (i : Int) t f0 f1 f2 f3 f4) (if cpOk n f0 f1 f2 f3 t = true then R else 31) := by
 have fin : ∀ (b : Bool), Ev (fun k => if b = true then padlockref03_CheckPortraits.l0 k n l ((i + 1 : Nat) : Int) else some 31) (if b = true then R else 31) := by
  intro b
  cases b
  ·exact Ev.congr (fun k => if_neg (by decide)) (Ev.eq (Ev.now _) rfl)
  ·exact Ev.congr (fun k => if_pos rfl) (Ev.eq hn rfl)
 unfold cpOk
 by_cases c1 : f0 = 1
 ·refine Ev.step (f := fun k => if (f2 == 0 && inR 0 (n - 1) f3 && inR 0 (n - 1) f1) = true then padlockref03_CheckPortraits.l0 k n l ((i + 1 : Nat) : Int) else some 31) (fun k => ?_) (by rw [if_pos c1]; exact fin _)
  rw [padlockref03_CheckPortraits.j1, if_pos c1]
  simp only [refwin, e1, e2, Option.bind_some]
  by_cases d : f2 = 0 <;> cases inR 0 (n - 1) f3 <;> cases inR 0 (n - 1) f1 <;> simp [d]
 ·rw [if_neg c1]
  have j2 : ∀ x51 : Bool, x51 = (decide (f0 = 2) || decide (f0 = 3)) → Ev (fun k => padlockref03_CheckPortraits.j2 k n l (i : Int) t false f0 x51 f0 f1 f2 f3 f4) (if (if f0 = 2 ∨ f0 = 3 then t && f3 == 0 && inR 0 (n - 1) f1 else if f0 = 4 then t && inR 0 n f3 && inR 0 (n - 1) f1 else false) = true then R else 31) := by
   intro x51 hx
   by_cases c2 : f0 = 2 ∨ f0 = 3
   ·have hx2 : x51 = true := by rw [hx]; rcases c2 with c2 | c2 <;> simp [c2]
    refine Ev.step (f := fun k => if (t && f3 == 0 && inR 0 (n - 1) f1) = true then padlockref03_CheckPortraits.l0 k n l ((i + 1 : Nat) : Int) else some 31) (fun k => ?_) (by rw [if_pos c2]; exact fin _)
    rw [padlockref03_CheckPortraits.j2, if_pos hx2]
    simp only [refwin, e1, e2, Option.bind_some]
    by_cases d : f3 = 0 <;> cases t <;> cases inR 0 (n - 1) f1 <;> simp [d]
   ·have hx2 : ¬ x51 = true := by rw [hx]; simp; omega
    rw [if_neg c2]
    by_cases c4 : f0 = 4
    ·refine Ev.step (f := fun k => if (t && inR 0 n f3 && inR 0 (n - 1) f1) = true then padlockref03_CheckPortraits.l0 k n l ((i + 1 : Nat) : Int) else some 31) (fun k => ?_) (by rw [if_pos c4]; exact fin _)
     rw [padlockref03_CheckPortraits.j2, if_neg hx2, if_pos c4]
     simp only [refwin, e1, e2, Option.bind_some]
     cases t <;> cases inR 0 n f3 <;> cases inR 0 (n - 1) f1 <;> simp
    ·refine Ev.step (f := fun k => some 31) (fun k => ?_) (by rw [if_neg c4]; exact Ev.eq (Ev.now _) rfl)
     rw [padlockref03_CheckPortraits.j2, if_neg hx2, if_neg c4, if_neg (by decide)]
  by_cases c2 : f0 = 2
  ·refine Ev.step (f := fun k => padlockref03_CheckPortraits.j2 k n l (i : Int) t false f0 (f0 == 2) f0 f1 f2 f3 f4) (fun k => ?_) (j2 _ (by simp [c2]))
   rw [padlockref03_CheckPortraits.j1, if_neg c1, if_pos c2]
  ·refine Ev.step (f := fun k => padlockref03_CheckPortraits.j2 k n l (i : Int) t false f0 (f0 == 3) f0 f1 f2 f3 f4) (fun k => ?_) (j2 _ (by
    by_cases c3 : f0 = 3
    ·simp [c3]
    ·simp [c2, c3]))
   rw [padlockref03_CheckPortraits.j1, if_neg c1, if_neg c2]
theorem cpOk_said (n : Int) (x : S76) : cpOk n x.f0 x.f1 x.f2 x.f3 (inR 0 (n - 1) x.f2 && x.f1 != x.f2) = saidB x n := by
 unfold cpOk saidB
 generalize inR 0 (n - 1) x.f1 = p
 generalize inR 0 (n - 1) x.f2 = q
 generalize inR 0 (n - 1) x.f3 = r
 generalize inR 0 n x.f3 = s
 generalize (x.f1 != x.f2) = t
 by_cases c1 : x.f0 = 1
 ·rw [if_pos c1, if_pos c1]
  cases (x.f2 == 0) <;> cases p <;> cases r <;> rfl
 ·rw [if_neg c1, if_neg c1]
  by_cases c2 : x.f0 = 2 ∨ x.f0 = 3
  ·rw [if_pos c2, if_pos c2]
   cases (x.f3 == 0) <;> cases p <;> cases q <;> cases t <;> rfl
  ·rw [if_neg c2, if_neg c2]
   by_cases c4 : x.f0 = 4
   ·rw [if_pos c4, if_pos c4]
    cases s <;> cases p <;> cases q <;> cases t <;> rfl
   ·rw [if_neg c4, if_neg c4]
theorem cp_l0 (n : Int) (l : List S76) (h1 : 1 ≤ n) (h6 : n ≤ 6) (hl : l.length ≤ 20) : ∀ (m i : Nat), i + m = l.length → Ev (fun k => padlockref03_CheckPortraits.l0 k n l (i : Int)) (if ((l.drop i).any fun s => !saidB s n) = true then 31 else 0) := by
 intro m
 induction m with
 | zero =>
  intro i hi
  refine Ev.step (f := fun _ => some 0) (fun k => ?_) (Ev.eq (Ev.now _) ?_)
  ·rw [padlockref03_CheckPortraits.l0, if_neg (by omega)]
  ·rw [List.drop_of_length_le (by omega)]
   rfl
 | succ m ih =>
  intro i hi
  have hlt : i < l.length := by omega
  have e1 : wrap64 ((i : Int) + 1) = ((i + 1 : Nat) : Int) := by rw [w64 _ (by omega) (by omega)]; omega
  have e2 : wrap64 (n - 1) = n - 1 := w64 _ (by omega) (by omega)
  have hrd : rd_T76 l (i : Int) = l[i] := by unfold rd_T76; rw [Int.toNat_natCast, List.getD_eq_getElem?_getD, List.getElem?_eq_getElem hlt, Option.getD_some]
  have hn := ih (i + 1) (by omega)
  rw [List.drop_eq_getElem_cons hlt, List.any_cons]
  generalize hx : l[i] = x at hrd ⊢
  generalize hR : (if ((l.drop (i + 1)).any fun s => !saidB s n) = true then (31 : Int) else 0) = R at hn ⊢
  have hgoal : (if ((!saidB x n) || (l.drop (i + 1)).any fun s => !saidB s n) = true then (31 : Int) else 0) = if saidB x n = true then R else 31 := by
   rw [← hR]
   cases saidB x n <;> simp
  rw [hgoal]
  refine Ev.step (f := fun k => padlockref03_CheckPortraits.j1 k n l (i : Int) (inR 0 (n - 1) x.f2 && x.f1 != x.f2) x.f0 x.f1 x.f2 x.f3 x.f4) (fun k => ?_) (Ev.eq (cp_j e1 e2 hn _ _ _ _ _ _) (by rw [cpOk_said]))
  conv => lhs; rw [padlockref03_CheckPortraits.l0, if_pos (by omega), if_pos (by omega), hrd, refwin, e2, Option.bind_some]
  cases inR 0 (n - 1) x.f2 <;> rfl
theorem checkref_ev (n : Int) (l : List S76) : Ev (fun k => padlockref03_CheckPortraits.f k n l) (cpB n l) := by
 unfold padlockref03_CheckPortraits.f cpB
 simp only [refwin, Option.bind_some]
 cases q : inR 1 6 n with
 | false => exact Ev.congr (fun k => if_neg (by decide)) (Ev.eq (Ev.now _) rfl)
 | true =>
  simp only [if_true]
  by_cases q2 : 20 < l.length
  ·rw [if_pos q2]
   exact Ev.congr (fun k => if_pos (by omega)) (Ev.now _)
  ·rw [if_neg q2]
   have hn : 1 ≤ n ∧ n ≤ 6 := by simpa [inR] using q
   refine Ev.congr (f := fun k => padlockref03_CheckPortraits.l0 k n l ((0 : Nat) : Int)) (fun k => if_neg (by omega)) (Ev.eq (cp_l0 n l hn.1 hn.2 (by omega) l.length 0 (by omega)) (by rw [List.drop_zero]))
theorem hOuts_mem (N : Nat) (F : List Int → Bool) : ∀ (m : Nat) (p q : List Int), q ∈ hOuts N F m p → q.length = p.length + m
 | 0, p, q, h => by
  unfold hOuts at h
  split at h
  ·rw [List.mem_singleton.1 h]; rfl
  ·cases h
 | m + 1, p, q, h => by
  unfold hOuts at h
  obtain ⟨x, _, hx⟩ := List.mem_flatMap.1 h
  split at hx
  ·cases hx
  ·have := hOuts_mem N F m _ q hx
   simp only [List.length_append, List.length_singleton] at this
   omega
theorem hangO_mem {n : Int} {l : List S76} (h1 : 1 ≤ n) (h6 : n ≤ 6) (q : List Int) (hq : q ∈ hangO n l) : q.length ≤ 6 := by
 have := hOuts_mem _ _ _ _ _ hq
 simp only [List.length_nil] at this
 omega
theorem hangO_len {n : Int} {l : List S76} (h6 : n ≤ 6) : (hangO n l).length ≤ 46656 := Nat.le_trans (hOuts_len _ _ _ _) (pow_bd _ _ (by omega) (by omega))
theorem refhangings_ev {n : Int} {l : List S76} (h : cpB n l = 0) : Ev (fun k => padlockref03_hangings.f k n l []) (hangO n l) := by
 obtain ⟨h1, h6, hs, hl⟩ := cpB_ok h
 have e : ((n.toNat : Nat) : Int) = n := Int.toNat_of_nonneg (by omega)
 have := hangings_ev l n.toNat (by omega) (by omega) hl (by rw [e]; exact hs) n.toNat [] (by simp)
 rw [e] at this
 exact this
theorem refHangings_ev (n : Int) (l : List S76) : Ev (fun k => padlockref03_Hangings.f k n l) (if cpB n l = 0 then (((hangO n l).length : Int), 0) else (0, cpB n l)) := by
 unfold padlockref03_Hangings.f
 refine Ev.bind (checkref_ev n l) ?_
 by_cases h : cpB n l = 0
 ·rw [if_pos h]
  refine Ev.congr (fun k => if_pos h) (Ev.bind (refhangings_ev h) (Ev.now _))
 ·rw [if_neg h]
  exact Ev.congr (fun k => if_neg h) (Ev.now _)
theorem refHang_ev (n : Int) (l : List S76) (most : Int) : Ev (fun k => padlockref03_Hang.f k n l most) (if cpB n l = 0 then (if inR 1 64 most = true then ((hangO n l).take most.toNat, 0) else ([], 1)) else ([], cpB n l)) := by
 unfold padlockref03_Hang.f
 refine Ev.bind (checkref_ev n l) ?_
 by_cases h : cpB n l = 0
 ·rw [if_pos h]
  refine Ev.congr (fun k => if_pos h) ?_
  simp only [refwin, Option.bind_some]
  by_cases hm : inR 1 64 most = true
  ·rw [if_pos hm]
   have hm2 : 1 ≤ most ∧ most ≤ 64 := by simpa [inR] using hm
   refine Ev.congr (fun k => if_pos hm) (Ev.bind (refhangings_ev h) ?_)
   generalize hangO n l = o
   have hmn : 0 ≤ mn (o.length : Int) most ∧ mn (o.length : Int) most ≤ (o.length : Int) := by
    unfold mn
    split <;> omega
   refine Ev.congr (f := fun _ => some (o.take (mn (o.length : Int) most).toNat, 0)) (fun k => by rw [if_pos hmn.1, if_pos hmn.2]) (Ev.eq (Ev.now _) ?_)
   congr 1
   unfold mn
   split
   ·rfl
   ·rw [List.take_of_length_le (by omega), List.take_of_length_le (by omega)]
  ·rw [if_neg hm]
   exact Ev.congr (fun k => if_neg hm) (Ev.now _)
 ·rw [if_neg h]
  exact Ev.congr (fun k => if_neg h) (Ev.now _)

end Go.Proofs.Ytdhiijleafcfcaa.T
