/- The law Dry, in plain lists. -/
import Derived.Test.YtdhiijleafcfcaaT0
import Derived.Test.YtdhiijleafcfcaaPF
import Derived.Test.YtdhiijleafcfcaaPb
import Derived.Test.YtdhiijleafcfcaaTo
import Derived.Test.YtdhiijleafcfcaaFl43
import Derived.Test.YtdhiijleafcfcaaTf14
namespace Go.Proofs.Ytdhiijleafcfcaa.T
open Go.RowKit Go.Proofs.YtdhiijleafcfcaaW.PrintWords Go.Proofs.YtdhiijleafcfcaaW.PrintLast Go.Proofs.YtdhiijleafcfcaaW.PrintMore
attribute [local go_sem] max2_int min2_int max_two min_two max_three min_three max_four min_four
set_option linter.unusedVariables false
set_option linter.unusedSimpArgs false

open Mz
def sumD : List Int → Int
 | [] => 0
 | x :: t => x + sumD t
theorem sumD_append : ∀ a b : List Int, sumD (a ++ b) = sumD a + sumD b
 | [], b => by simp [sumD]
 | x :: t, b => by simp only [List.cons_append, sumD, sumD_append t b]; omega
theorem sumD_bd : ∀ l : List Int, (∀ s ∈ l, 0 ≤ s ∧ s ≤ 3) → 0 ≤ sumD l ∧ sumD l ≤ 3 * l.length
 | [], _ => by simp [sumD]
 | x :: t, h => by
  have := h x (by simp)
  have := sumD_bd t (fun s hs => h s (by simp [hs]))
  simp only [sumD, List.length_cons]
  omega
theorem pO_sound (F : List Int → Bool) : ∀ (m : Nat) (p : List Int) (s : Int), ∀ x ∈ pOuts F m p s, ∃ d, x.1 = p ++ d ∧ d.length = m ∧ (∀ y ∈ d, 0 ≤ y ∧ y ≤ 3) ∧ x.2 = s + sumD d ∧ F x.1 = true
 | 0, p, s, x, hx => by
  unfold pOuts at hx
  split at hx
  ·rename_i h
   rw [List.mem_singleton.1 hx]
   exact ⟨[], by simp, rfl, by simp, by simp [sumD], h⟩
  ·simp at hx
 | m + 1, p, s, x, hx => by
  have part : ∀ c : Int, 0 ≤ c → c ≤ 3 → x ∈ pOuts F m (p ++ [c]) (s + c) → ∃ d, x.1 = p ++ d ∧ d.length = m + 1 ∧ (∀ y ∈ d, 0 ≤ y ∧ y ≤ 3) ∧ x.2 = s + sumD d ∧ F x.1 = true := by
   intro c h1 h2 hc
   obtain ⟨d, e1, e2, e3, e4, e5⟩ := pO_sound F m _ _ x hc
   refine ⟨c :: d, by rw [e1]; simp, by simp [e2], fun y hy => ?_, by simp only [sumD]; omega, e5⟩
   rcases List.mem_cons.1 hy with rfl | hy
   ·exact ⟨h1, h2⟩
   ·exact e3 y hy
  unfold pOuts at hx
  rcases List.mem_append.1 hx with hx | hx
  ·rcases List.mem_append.1 hx with hx | hx
   ·rcases List.mem_append.1 hx with hx | hx
    ·exact part 0 (by omega) (by omega) hx
    ·exact part 1 (by omega) (by omega) hx
   ·exact part 2 (by omega) (by omega) hx
  ·exact part 3 (by omega) (by omega) hx
theorem pO_mem (F : List Int → Bool) : ∀ (m : Nat) (p : List Int) (s : Int) (d : List Int), d.length = m → (∀ y ∈ d, 0 ≤ y ∧ y ≤ 3) → F (p ++ d) = true → (p ++ d, s + sumD d) ∈ pOuts F m p s
 | 0, p, s, d, hl, _, hF => by
  obtain rfl : d = [] := List.length_eq_zero_iff.1 hl
  rw [List.append_nil] at hF ⊢
  unfold pOuts
  rw [if_pos hF]
  simp [sumD]
 | m + 1, p, s, [], hl, _, _ => by simp at hl
 | m + 1, p, s, c :: d, hl, hd, hF => by
  have hc := hd c List.mem_cons_self
  have ih := pO_mem F m (p ++ [c]) (s + c) d (by simpa using hl) (fun y hy => hd y (List.mem_cons_of_mem _ hy)) (by rw [List.append_assoc, List.singleton_append]; exact hF)
  have e1 : p ++ [c] ++ d = p ++ c :: d := by simp
  have e2 : s + c + sumD d = s + sumD (c :: d) := by simp only [sumD]; omega
  rw [e1, e2] at ih
  unfold pOuts
  have : c = 0 ∨ c = 1 ∨ c = 2 ∨ c = 3 := by omega
  rcases this with rfl | rfl | rfl | rfl
  ·exact List.mem_append_left _ (List.mem_append_left _ (List.mem_append_left _ ih))
  ·exact List.mem_append_left _ (List.mem_append_left _ (List.mem_append_right _ ih))
  ·exact List.mem_append_left _ (List.mem_append_right _ ih)
  ·exact List.mem_append_right _ ih
/-- a comes before b. -/
def LexD (a b : List Int) : Prop := ∃ p x y s t, a = p ++ x :: s ∧ b = p ++ y :: t ∧ x < y
theorem pO_sorted (F : List Int → Bool) : ∀ (m : Nat) (p : List Int) (s : Int), (pOuts F m p s).Pairwise fun x y => LexD x.1 y.1
 | 0, p, s => by
  unfold pOuts
  split <;> simp
 | m + 1, p, s => by
  have pre : ∀ (c : Int) (x : List Int × Int), x ∈ pOuts F m (p ++ [c]) (s + c) → ∃ t, x.1 = p ++ c :: t := by
   intro c x hx
   obtain ⟨d, e1, _⟩ := pO_sound F m _ _ x hx
   exact ⟨d, by rw [e1]; simp⟩
  have cross : ∀ (c c' : Int), c < c' → ∀ x ∈ pOuts F m (p ++ [c]) (s + c), ∀ y ∈ pOuts F m (p ++ [c']) (s + c'), LexD x.1 y.1 := by
   intro c c' h x hx y hy
   obtain ⟨t, ht⟩ := pre c x hx
   obtain ⟨t', ht'⟩ := pre c' y hy
   exact ⟨p, c, c', t, t', ht, ht', h⟩
  unfold pOuts
  rw [List.pairwise_append, List.pairwise_append, List.pairwise_append]
  refine ⟨⟨⟨pO_sorted F m _ _, pO_sorted F m _ _, cross 0 1 (by omega)⟩, pO_sorted F m _ _, fun x hx y hy => ?_⟩, pO_sorted F m _ _, fun x hx y hy => ?_⟩
  ·rcases List.mem_append.1 hx with hx | hx
   ·exact cross 0 2 (by omega) x hx y hy
   ·exact cross 1 2 (by omega) x hx y hy
  ·rcases List.mem_append.1 hx with hx | hx
   ·rcases List.mem_append.1 hx with hx | hx
    ·exact cross 0 3 (by omega) x hx y hy
    ·exact cross 1 3 (by omega) x hx y hy
   ·exact cross 2 3 (by omega) x hx y hy
theorem bestO_in : ∀ (n : Nat) (o : List (List Int × Int)), o.length = n → (∀ x ∈ o, 0 ≤ x.2) → o ≠ [] → 0 ≤ (bestO o).2 ∧ bestO o ∈ o ∧ ∃ pre post, o = pre ++ bestO o :: post ∧ (∀ x ∈ pre, (bestO o).2 < x.2) ∧ ∀ x ∈ post, (bestO o).2 ≤ x.2 := by
 intro n
 induction n with
 | zero => intro o hl _ h; exact absurd (List.length_eq_zero_iff.1 hl) h
 | succ n ih =>
  intro o' hl h _
  obtain ⟨o, x, rfl⟩ : ∃ o x, o' = o ++ [x] := ⟨o'.dropLast, o'.getLast (fun e => by rw [e] at hl; simp at hl), (List.dropLast_concat_getLast _).symm⟩
  rw [bestO_snoc]
  by_cases e : o = []
  ·subst e
   rw [if_pos (.inl (by decide))]
   exact ⟨h x (by simp), by simp, [], [], rfl, by simp, by simp⟩
  ·obtain ⟨hb, hi, pre, post, h1, h2, h3⟩ := ih o (by simpa using hl) (fun y hy => h y (by simp [hy])) e
   by_cases c : (bestO o).2 < 0 ∨ x.2 < (bestO o).2
   ·rw [if_pos c]
    refine ⟨h x (by simp), by simp, o, [], rfl, fun y hy => ?_, by simp⟩
    rw [h1] at hy
    rcases List.mem_append.1 hy with hy | hy
    ·have := h2 y hy; omega
    ·rcases List.mem_cons.1 hy with rfl | hy
     ·omega
     ·have := h3 y hy; omega
   ·rw [if_neg c]
    refine ⟨hb, by simp [hi], pre, post ++ [x], ?_, h2, fun y hy => ?_⟩
    ·conv => lhs; rw [h1]
     simp
    ·rcases List.mem_append.1 hy with hy | hy
     ·exact h3 y hy
     ·rw [List.mem_singleton.1 hy]; omega
/-- What Plumb returns is the best of all that solve. -/
theorem best_dry (F : List Int → Bool) (m : Nat) (d : List Int) (hl : d.length = m) (hd : ∀ y ∈ d, 0 ≤ y ∧ y ≤ 3) (hF : F d = true) :
  pOuts F m [] 0 ≠ [] ∧ ((bestO (pOuts F m [] 0)).2 < sumD d ∨ (bestO (pOuts F m [] 0)).1 = d ∨ ((bestO (pOuts F m [] 0)).2 = sumD d ∧ LexD (bestO (pOuts F m [] 0)).1 d)) := by
 have hm := pO_mem F m [] 0 d hl hd (by simpa using hF)
 rw [List.nil_append, Int.zero_add] at hm
 have hne : pOuts F m [] 0 ≠ [] := fun e => by rw [e] at hm; simp at hm
 have hpos : ∀ x ∈ pOuts F m [] 0, 0 ≤ x.2 := fun x hx => by
  obtain ⟨d', _, _, e3, e4, _⟩ := pO_sound F m [] 0 x hx
  have := (sumD_bd d' e3).1
  omega
 have hso := pO_sorted F m [] 0
 refine ⟨hne, ?_⟩
 obtain ⟨_, _, pre, post, h1, h2, h3⟩ := bestO_in _ _ rfl hpos hne
 generalize bestO (pOuts F m [] 0) = b at *
 rw [h1] at hm hso
 rcases List.mem_append.1 hm with hm | hm
 ·exact .inl (h2 _ hm)
 ·rcases List.mem_cons.1 hm with hm | hm
  ·exact .inr (.inl (by rw [← hm]))
  ·have h4 := (List.pairwise_append.1 hso).2.1
   have h5 := h3 _ hm
   simp only at h5
   by_cases e : b.2 < sumD d
   ·exact .inl e
   ·exact .inr (.inr ⟨by omega, (List.pairwise_cons.1 h4).1 _ hm⟩)
theorem lexD_first (b d : List Int) (h : LexD b d) (i : Nat) (hi : i < b.length) (hi2 : i < d.length) (ht : d.take i = b.take i) (hne : b[i] ≠ d[i]) : b[i] < d[i] := by
 obtain ⟨p, x, y, s, t, rfl, rfl, hxy⟩ := h
 by_cases h1 : i < p.length
 ·exfalso
  apply hne
  rw [List.getElem_append_left h1, List.getElem_append_left h1]
 ·by_cases h2 : i = p.length
  ·subst h2
   simpa using hxy
  ·exfalso
   have e := congrArg (fun l : List Int => l[p.length]?) ht
   simp only [List.getElem?_take_of_lt (show p.length < i by omega)] at e
   simp at e
   omega
/-- Does a list have a number? -/
theorem has_ev (l : List Int) (n : Int) (hm : l.length ≤ 9223372036854775806) : Ev (fun k => padlocklaw03_has.f k l n) (decide (n ∈ l)) := by
 have key : ∀ (m i : Nat), i + m = l.length → Ev (fun k => padlocklaw03_has.l0 k l n (i : Int)) (decide (n ∈ l.drop i)) := by
  intro m
  induction m with
  | zero =>
   intro i hi
   refine Ev.step (f := fun _ => some false) (fun k => ?_) (Ev.eq (Ev.now _) ?_)
   ·rw [padlocklaw03_has.l0, if_neg (by omega)]
   ·rw [List.drop_of_length_le (by omega)]
    simp
  | succ m ih =>
   intro i hi
   have hlt : i < l.length := by omega
   have e1 : wrap64 ((i : Int) + 1) = ((i + 1 : Nat) : Int) := by rw [w64 _ (by omega) (by omega)]; omega
   rw [List.drop_eq_getElem_cons hlt]
   by_cases q : l[i] = n
   ·refine Ev.step (f := fun _ => some true) (fun k => ?_) (Ev.eq (Ev.now _) (by simp [q]))
    rw [padlocklaw03_has.l0, if_pos (by omega), if_pos (by omega), rd_lt l i hlt, if_pos q]
   ·refine Ev.step (fun k => ?_) (Ev.eq (ih (i + 1) (by omega)) ?_)
    ·rw [padlocklaw03_has.l0, if_pos (by omega), if_pos (by omega), rd_lt l i hlt, if_neg q, e1]
    ·rw [decide_eq_decide, List.mem_cons]
     constructor
     ·exact .inr
     ·rintro (h | h)
      ·exact absurd h.symm q
      ·exact h
 have := key l.length 0 (by omega)
 rw [List.drop_zero] at this
 exact Ev.congr (fun k => rfl) this
theorem mem_wetIdx (n : Int) : ∀ (w : List Bool) (i : Nat), n ∈ wetIdx w i ↔ ∃ j : Nat, n = ((i + j : Nat) : Int) ∧ w[j]? = some true
 | [], i => by simp [wetIdx]
 | b :: t, i => by
  rw [wetIdx, List.mem_append, mem_wetIdx n t (i + 1)]
  constructor
  ·rintro (h | ⟨j, h1, h2⟩)
   ·cases b with
    | true => exact ⟨0, by simpa using h, rfl⟩
    | false => simp at h
   ·exact ⟨j + 1, by omega, by simpa using h2⟩
  ·rintro ⟨j, h1, h2⟩
   cases j with
   | zero =>
    simp only [List.getElem?_cons_zero, Option.some.injEq] at h2
    subst h2
    exact .inl (by simpa using h1)
   | succ j => exact .inr ⟨j, by omega, by simpa using h2⟩
theorem cf98_val' (tn : List Int) : cf98.f tn = some (tn.any fun x => !inR 0 3 x) := rfl
/-- What the law's look at turns answers. -/
theorem solves_ev {F : List Int → Bool} {a0 a1 : Int} {l : List Int} {a3 a4 : Int} (h : plumbB a0 a1 l a3 a4 = true) (hF : Tells F a0 a1 l a3 a4) (tn : List Int) :
  Ev (fun k => padlocklaw03_solves.f k a0 a1 l a3 a4 tn) (decide (tn.length = l.length) && (tn.all (inR 0 3) && F tn)) := by
 have hf := plumbB_facts h
 have hcv : (tn.any fun x => !inR 0 3 x) = !(tn.all (inR 0 3)) := by rw [List.all_eq_not_any_not, Bool.not_not]
 have out : ∀ {r : List Int × Int × Int} {b : Bool}, Ev (fun k => puzzles_Flows.f k a0 a1 l a3 a4 tn) r → Ev (fun k => if r.2.2 = 0 then (if r.2.1 = 0 then ((padlocklaw03_has.f k r.1 a4).bind fun t681 => (some t681)) else (some false)) else (some false)) b → Ev (fun k => padlocklaw03_solves.f k a0 a1 l a3 a4 tn) b := fun h1 h2 => Ev.congr (fun k => rfl) (Ev.bind h1 h2)
 by_cases q2 : tn.length = l.length
 ·rw [decide_eq_true q2, Bool.true_and]
  by_cases q3 : tn.all (inR 0 3) = true
  ·rw [q3, Bool.true_and]
   have hv : ∀ x ∈ tn, 0 ≤ x ∧ x ≤ 3 := fun x hx => by
    have := List.all_eq_true.1 q3 x hx
    unfold inR at this
    simpa using this
   obtain ⟨r, e1, L, D, hr, rfl⟩ := flows_ev (pl_of h q2 hv) a0 a1 a4
   obtain ⟨k0, hk0⟩ := e1.rounds
   have hFv := hF tn k0 _ hk0
   unfold okR at hFv
   simp only at hFv
   have hlen : (mks l.length L).length = l.length := tab_len _ _
   have hfl : Ev (fun k => puzzles_Flows.f k a0 a1 l a3 a4 tn) (wetIdx (mks l.length L) 0, lsum (lk a0 a1 l tn) L, 0) := by
    refine Ev.congr (fun k => ?_) (Ev.bind e1 (f := fun k bt => if bt.1.length < 17592186044416 then some (wetIdx bt.1 0, bt.2, 0) else none) ?_)
    ·unfold puzzles_Flows.f
     rw [if_pos h, if_pos (by omega), cf98_val', Option.bind_some, hcv, q3, if_neg (by decide)]
    ·exact Ev.const (if_pos (by simp only; omega))
   refine out hfl ?_
   simp only [if_true]
   have hlb := lsum_bd (lk a0 a1 l tn) (fun c => lkU_bd a0 a1 l tn c 4) L
   have hwl : ∀ (w : List Bool) (i : Nat), (wetIdx w i).length ≤ w.length := by
    intro w
    induction w with
    | nil => intro i; simp [wetIdx]
    | cons b t ih => intro i; have := ih (i + 1); simp only [wetIdx, List.length_append, List.length_cons]; split <;> simp <;> omega
   have hwl0 := hwl (mks l.length L) 0
   by_cases q4 : lsum (lk a0 a1 l tn) L = 0
   ·refine Ev.congr (fun k => if_pos q4) (Ev.bind (has_ev _ _ (by omega)) (Ev.eq (Ev.now _) ?_))
    rw [hFv, q4]
    simp only [show decide ((0 : Int) > 0) = false from rfl, Bool.not_false, Bool.true_and]
    rw [Bool.eq_iff_iff, decide_eq_true_eq, mem_wetIdx]
    unfold rdOf
    constructor
    ·rintro ⟨j, h1, h2⟩
     rw [show a4.toNat = j from by omega, List.getD_eq_getElem?_getD, h2]
     rfl
    ·intro h1
     refine ⟨a4.toNat, by have := hf.2.2.2.2.2.2.2.1; omega, ?_⟩
     rw [List.getD_eq_getElem?_getD] at h1
     cases hh : (mks l.length L)[a4.toNat]? with
     | none => rw [hh] at h1; cases h1
     | some b => rw [hh] at h1; simp at h1; rw [h1]
   ·refine Ev.congr (fun k => if_neg q4) (Ev.eq (Ev.now _) ?_)
    rw [hFv]
    rw [show decide (lsum (lk a0 a1 l tn) L > 0) = true from decide_eq_true (by omega)]
    rfl
  ·rw [Bool.not_eq_true] at q3
   rw [q3, Bool.false_and]
   refine out (r := ([], 0, 1)) (Ev.congr (fun k => ?_) (Ev.now _)) (Ev.congr (fun k => if_neg (by decide)) (Ev.now _))
   unfold puzzles_Flows.f
   rw [if_pos h, if_pos (by omega), cf98_val', Option.bind_some, hcv, q3]
   rfl
 ·rw [decide_eq_false q2, Bool.false_and]
  refine out (r := ([], 0, 1)) (Ev.congr (fun k => ?_) (Ev.now _)) (Ev.congr (fun k => if_neg (by decide)) (Ev.now _))
  unfold puzzles_Flows.f
  rw [if_pos h, if_neg (by omega)]
theorem works_bind : Ev (fun k => (padlocklaw03_works.f k).bind fun t => some t) true := Ev.bind works_ev (Ev.now _)
/-- The comparison at the end. -/
theorem dry_l1 (tn best : List Int) (hl : best.length = tn.length) (hn : tn.length ≤ 9) (h : sumD best < sumD tn ∨ best = tn ∨ (sumD best = sumD tn ∧ LexD best tn)) : ∀ (m i : Nat), i + m = tn.length → tn.take i = best.take i →
  Ev (fun k => padlocklaw03_PuzzlesDry.l1 k tn best (sumD best) (sumD tn) (i : Int)) true := by
 intro m
 induction m with
 | zero =>
  intro i hi _
  refine Ev.step (fun k => ?_) works_bind
  rw [padlocklaw03_PuzzlesDry.l1, if_neg (by omega)]
 | succ m ih =>
  intro i hi ht
  have hia : i < tn.length := by omega
  have hib : i < best.length := by omega
  have e1 : wrap64 ((i : Int) + 1) = ((i + 1 : Nat) : Int) := by rw [w64 _ (by omega) (by omega)]; omega
  by_cases e : best[i] = tn[i]
  ·refine Ev.step (fun k => ?_) (ih (i + 1) (by omega) (by rw [List.take_succ_eq_append_getElem hia, List.take_succ_eq_append_getElem hib, ht, e]))
   rw [padlocklaw03_PuzzlesDry.l1, if_pos (by omega), if_pos (by omega), if_pos (by omega), rd_lt best i hib, rd_lt tn i hia, if_pos e, e1]
  ·refine Ev.step (f := fun k => if sumD best < sumD tn then ((padlocklaw03_works.f k).bind fun t698 => (some t698)) else (if sumD best = sumD tn then (if best[i] < tn[i] then ((padlocklaw03_works.f k).bind fun t701 => (some t701)) else (some false)) else (some false))) (fun k => ?_) ?_
   ·rw [padlocklaw03_PuzzlesDry.l1, if_pos (by omega), if_pos (by omega), if_pos (by omega), rd_lt best i hib, rd_lt tn i hia, if_neg e]
   ·rcases h with h | h | ⟨h1, h2⟩
    ·exact Ev.congr (fun k => if_pos h) works_bind
    ·subst h; exact absurd rfl e
    ·have := lexD_first best tn h2 i hib hia ht e
     refine Ev.congr (fun k => ?_) works_bind
     rw [if_neg (by omega), if_pos h1, if_pos this]
theorem dry_l0 (tn best : List Int) (hl : best.length = tn.length) (hn : tn.length ≤ 9) (hb : ∀ s ∈ best, 0 ≤ s ∧ s ≤ 3) (ht : ∀ s ∈ tn, 0 ≤ s ∧ s ≤ 3) (next : Ev (fun k => padlocklaw03_PuzzlesDry.l1 k tn best (sumD best) (sumD tn) 0) true) : ∀ (m i : Nat), i + m = tn.length →
  Ev (fun k => padlocklaw03_PuzzlesDry.l0 k tn best (sumD (best.take i)) (sumD (tn.take i)) (i : Int)) true := by
 intro m
 induction m with
 | zero =>
  intro i hi
  refine Ev.step (fun k => ?_) next
  rw [padlocklaw03_PuzzlesDry.l0, if_neg (by omega), List.take_of_length_le (by omega), List.take_of_length_le (by omega)]
 | succ m ih =>
  intro i hi
  have hia : i < tn.length := by omega
  have hib : i < best.length := by omega
  have e1 : wrap64 ((i : Int) + 1) = ((i + 1 : Nat) : Int) := by rw [w64 _ (by omega) (by omega)]; omega
  have step : ∀ (l : List Int) (hl : i < l.length), l.length ≤ 9 → (∀ s ∈ l, 0 ≤ s ∧ s ≤ 3) → wrap64 (sumD (l.take i) + rd l (i : Int)) = sumD (l.take (i + 1)) := by
   intro l hll h9 hv
   have b1 := sumD_bd (l.take i) (fun s hs => hv s (List.mem_of_mem_take hs))
   have b2 := hv l[i] (List.getElem_mem hll)
   rw [List.length_take] at b1
   rw [rd_lt l i hll, List.take_succ_eq_append_getElem hll, sumD_append]
   simp only [sumD, Int.add_zero]
   generalize sumD (l.take i) = S at b1 ⊢
   generalize l[i] = x at b2 ⊢
   exact w64 _ (by omega) (by omega)
  have s1 := step best hib (by omega) hb
  have s2 := step tn hia (by omega) ht
  refine Ev.step (fun k => ?_) (ih (i + 1) (by omega))
  rw [padlocklaw03_PuzzlesDry.l0, if_pos (by omega), if_pos (by omega), if_pos (by omega), s1, s2, e1]
/-- The law. -/
theorem dry_law (a0 a1 : Int) (l : List Int) (a3 a4 : Int) (tn : List Int) : Ev (fun k => padlocklaw03_PuzzlesDry.f k a0 a1 l a3 a4 tn) true := by
 obtain ⟨F, hF⟩ := tells_ex a0 a1 l a3 a4
 by_cases h6 : (l.length : Int) > 6
 ·refine Ev.congr (fun k => ?_) works_bind
  unfold padlocklaw03_PuzzlesDry.f
  rw [if_pos h6]
 have start : ∀ {b : Bool}, Ev (fun k => (puzzles_Plumb.f k a0 a1 l a3 a4).bind fun bt684 => ((puzzles_Plumbings.f k a0 a1 l a3 a4).bind fun bt688 => (if bt688.2 = 0 then (if ((bt684.2 == 0) != (decide (bt688.1 > 0))) = true then (padlocklaw03_PuzzlesDry.j0 k tn bt684.1 bt684.2 true a0 a1 l a3 a4) else (if bt684.2 = 0 then ((padlocklaw03_solves.f k a0 a1 l a3 a4 bt684.1).bind fun t691 => (padlocklaw03_PuzzlesDry.j0 k tn bt684.1 bt684.2 (!t691) a0 a1 l a3 a4)) else (padlocklaw03_PuzzlesDry.j0 k tn bt684.1 bt684.2 false a0 a1 l a3 a4))) else (if bt684.2 = bt688.2 then ((padlocklaw03_works.f k).bind fun t690 => (some t690)) else (some false))))) b → Ev (fun k => padlocklaw03_PuzzlesDry.f k a0 a1 l a3 a4 tn) b := fun h => by
  refine Ev.congr (fun k => ?_) h
  unfold padlocklaw03_PuzzlesDry.f
  rw [if_neg h6]
 refine start (Ev.bind (Plumb_ev a0 a1 l a3 a4 hF) (Ev.bind (Plumbings_ev a0 a1 l a3 a4 hF) ?_))
 by_cases h : plumbB a0 a1 l a3 a4 = true
 ·rw [if_pos h, if_pos h]
  have n9 := (plumbB_facts h).2.2.2.2.2.1
  simp only [if_true]
  have hsol := solves_ev h hF
  have hsnd := pO_sound F l.length [] 0
  have hbest := best_dry F l.length
  have hpos : ∀ x ∈ pOuts F l.length [] 0, 0 ≤ x.2 := fun x hx => by
   obtain ⟨d', _, _, e3, e4, _⟩ := hsnd x hx
   have := (sumD_bd d' e3).1
   omega
  generalize pOuts F l.length [] 0 = o at hsnd hbest hpos ⊢
  -- what the given turns come to
  have tail : ∀ (best : List Int) (e : Int), (decide (tn.length = l.length) && (tn.all (inR 0 3) && F tn)) = true → e = 0 ∧ best.length = tn.length ∧ (∀ s ∈ best, 0 ≤ s ∧ s ≤ 3) ∧ (sumD best < sumD tn ∨ best = tn ∨ (sumD best = sumD tn ∧ LexD best tn)) → Ev (fun k => padlocklaw03_PuzzlesDry.j0 k tn best e false a0 a1 l a3 a4) true := by
   intro best e hv ⟨he, hl, hb, hc⟩
   subst he
   have hS := hsol tn
   rw [hv] at hS
   simp only [Bool.and_eq_true, decide_eq_true_eq] at hv
   obtain ⟨v1, v2, v3⟩ := hv
   have ht : ∀ x ∈ tn, 0 ≤ x ∧ x ≤ 3 := fun x hx => by
    have := List.all_eq_true.1 v2 x hx
    unfold inR at this
    simpa using this
   refine Ev.step (f := fun k => (padlocklaw03_solves.f k a0 a1 l a3 a4 tn).bind fun t692 => (if t692 = true then (padlocklaw03_PuzzlesDry.j1 k tn best ((best.length : Int) != (tn.length : Int))) else ((padlocklaw03_works.f k).bind fun t693 => (some t693)))) (fun k => ?_) (Ev.bind hS ?_)
   ·rw [padlocklaw03_PuzzlesDry.j0, if_neg (by decide), if_pos rfl]
   ·refine Ev.congr (fun k => if_pos rfl) ?_
    rw [hl, bne_self_eq_false]
    have := dry_l0 tn best hl (by omega) hb ht (dry_l1 tn best hl (by omega) hc tn.length 0 (by omega) rfl) tn.length 0 (by omega)
    simp only [List.take_zero, sumD] at this
    refine Ev.step (fun k => ?_) this
    rw [padlocklaw03_PuzzlesDry.j1, if_neg (by decide)]
    rfl
  have no : ∀ (best : List Int) (e : Int), (decide (tn.length = l.length) && (tn.all (inR 0 3) && F tn)) = false → Ev (fun k => padlocklaw03_PuzzlesDry.j0 k tn best e false a0 a1 l a3 a4) true := by
   intro best e hv
   have hS := hsol tn
   rw [hv] at hS
   refine Ev.step (f := fun k => (padlocklaw03_solves.f k a0 a1 l a3 a4 tn).bind fun t692 => (if t692 = true then (if e = 0 then (padlocklaw03_PuzzlesDry.j1 k tn best ((best.length : Int) != (tn.length : Int))) else (padlocklaw03_PuzzlesDry.j1 k tn best true)) else ((padlocklaw03_works.f k).bind fun t693 => (some t693)))) (fun k => ?_) (Ev.bind hS ?_)
   ·rw [padlocklaw03_PuzzlesDry.j0, if_neg (by decide)]
   ·exact Ev.congr (fun k => if_neg (by decide)) works_bind
  by_cases ho : o = []
  ·subst ho
   have e0 : plumbR ([] : List (List Int × Int)) = ([], 3) := rfl
   rw [e0]
   refine Ev.congr (fun k => ?_) (no [] 3 ?_)
   ·rw [if_neg (by decide), if_neg (by decide)]
   ·rw [Bool.eq_false_iff]
    intro hv
    simp only [Bool.and_eq_true, decide_eq_true_eq] at hv
    obtain ⟨v1, v2, v3⟩ := hv
    exact (hbest tn v1 (fun x hx => by
     have := List.all_eq_true.1 v2 x hx
     unfold inR at this
     simpa using this) v3).1 rfl
  ·obtain ⟨b0, bm, _⟩ := bestO_in _ o rfl hpos ho
   obtain ⟨d, d1, d2, d3, d4, d5⟩ := hsnd _ bm
   rw [List.nil_append] at d1
   have e0 : plumbR o = ((bestO o).1, 0) := if_neg (by omega)
   have hlo : decide ((o.length : Int) > 0) = true := decide_eq_true (by have := List.length_pos_iff.2 ho; omega)
   rw [e0, hlo]
   have hvb : (decide ((bestO o).1.length = l.length) && ((bestO o).1.all (inR 0 3) && F (bestO o).1)) = true := by
    rw [d5, Bool.and_true, d1, decide_eq_true d2, Bool.true_and, List.all_eq_true]
    intro x hx
    unfold inR
    simpa using d3 x hx
   have hSb := hsol (bestO o).1
   rw [hvb] at hSb
   refine Ev.congr (fun k => ?_) (Ev.bind hSb (f := fun k t691 => padlocklaw03_PuzzlesDry.j0 k tn (bestO o).1 0 (!t691) a0 a1 l a3 a4) ?_)
   ·rw [if_neg (by simp), if_pos rfl]
   ·cases hv : (decide (tn.length = l.length) && (tn.all (inR 0 3) && F tn)) with
    | false => exact no _ _ hv
    | true =>
     refine tail _ _ hv ?_
     simp only [Bool.and_eq_true, decide_eq_true_eq] at hv
     obtain ⟨v1, v2, v3⟩ := hv
     have hb := (hbest tn v1 (fun x hx => by
      have := List.all_eq_true.1 v2 x hx
      unfold inR at this
      simpa using this) v3).2
     have hs : (bestO o).2 = sumD (bestO o).1 := by rw [d4, d1, Int.zero_add]
     rw [hs] at hb
     exact ⟨rfl, by rw [d1, d2, v1], by rw [d1]; exact d3, hb⟩
 ·rw [if_neg h, if_neg h]
  refine Ev.congr (fun k => ?_) works_bind
  rw [if_neg (by decide), if_pos rfl]

end Go.Proofs.Ytdhiijleafcfcaa.T
