/- Flows in plain lists: the checks, and the list of wet cells. -/
import Derived.Test.YtdhiijleafcfcaaT0
import Derived.Test.YtdhiijleafcfcaaPFr
import Derived.Test.YtdhiijleafcfcaaTpc
import Derived.Test.YtdhiijleafcfcaaTpr
import Derived.Test.YtdhiijleafcfcaaFl43
namespace Go.Proofs.Ytdhiijleafcfcaa.T
open Go.RowKit Go.Proofs.YtdhiijleafcfcaaW.PrintWords Go.Proofs.YtdhiijleafcfcaaW.PrintLast Go.Proofs.YtdhiijleafcfcaaW.PrintMore
attribute [local go_sem] max2_int min2_int max_two min_two max_three min_three max_four min_four
set_option linter.unusedVariables false
set_option linter.unusedSimpArgs false

open Mz
theorem plumbB_facts {a0 a1 : Int} {l : List Int} {a3 a4 : Int} (h : plumbB a0 a1 l a3 a4 = true) :
    1 ≤ a0 ∧ a0 ≤ 9 ∧ 1 ≤ a1 ∧ a1 ≤ 9 ∧ a0 * a1 = l.length ∧ l.length ≤ 9 ∧ (0 ≤ a3 ∧ a3 < l.length) ∧ (0 ≤ a4 ∧ a4 < l.length) ∧ ∀ x ∈ l, 0 ≤ x ∧ x ≤ 15 := by
  unfold plumbB cellB inR at h
  simp only [Bool.and_eq_true, decide_eq_true_eq, beq_iff_eq, Bool.not_eq_true', List.any_eq_false, Bool.not_eq_true, Bool.not_eq_false', Bool.not_eq_eq_eq_not, Bool.not_true, Bool.not_false] at h
  obtain ⟨⟨p1, p2⟩, ⟨p3, p4⟩, p5, p6, ⟨p7, p8⟩, ⟨p9, p10⟩, p11⟩ := h
  have g := gd_mul (W := a0) (y := a1) (by omega) (by omega) (by omega) (by omega)
  rw [Int.mul_comm] at g
  rw [w64 (a0 * a1) (by omega) (by omega)] at p5 p6 p8 p10
  rw [w64 _ (by omega) (by omega)] at p8 p10
  refine ⟨p1, p2, p3, p4, p6.symm, by omega, ⟨p7, by omega⟩, ⟨p9, by omega⟩, fun x hx => by simpa using p11 x hx⟩
theorem refin_val (a b c : Int) : padlockref03_Within.f a b c = some (inR b c a) := refwithin_val a b c
theorem refpipes_l0 {a0 a1 : Int} {l : List Int} {a3 a4 : Int} (hl : l.length ≤ 9) : ∀ (m i : Nat), i + m = l.length →
    Ev (fun k => padlockref03_CheckPipes.l0 k (i : Int) a0 a1 l a3 a4) (if ((l.drop i).all (inR 0 15) && (inR 0 ((l.length : Int) - 1) a3 && inR 0 ((l.length : Int) - 1) a4)) = true then 0 else 30) := by
  intro m
  induction m with
  | zero =>
    intro i hi
    obtain rfl : i = l.length := by omega
    refine Ev.step (f := fun _ => (padlockref03_Within.f a3 0 ((l.length : Int) - 1)).bind fun t518 => (if t518 = true then ((padlockref03_Within.f a4 0 ((l.length : Int) - 1)).bind fun t519 => (if t519 = true then (some 0) else (some 30))) else (some 30))) (fun k => ?_) (Ev.const ?_)
    · rw [padlockref03_CheckPipes.l0, if_neg (by omega), w64 _ (by omega) (by omega)]
    · rw [refin_val, refin_val, Option.bind_some, List.drop_length, List.all_nil, Bool.true_and]
      by_cases q1 : inR 0 ((l.length : Int) - 1) a3 = true
      · rw [if_pos q1, Option.bind_some, q1, Bool.true_and]
        by_cases q2 : inR 0 ((l.length : Int) - 1) a4 = true
        · rw [if_pos q2, if_pos q2]
        · rw [if_neg q2, if_neg q2]
      · rw [if_neg q1]
        rw [Bool.not_eq_true] at q1
        rw [q1, Bool.false_and, if_neg (by decide)]
  | succ m ih =>
    intro i hi
    have hlt : i < l.length := by omega
    have e1 : wrap64 ((i : Int) + 1) = ((i + 1 : Nat) : Int) := by rw [w64 _ (by omega) (by omega)]; omega
    rw [List.drop_eq_getElem_cons hlt, List.all_cons]
    by_cases q : inR 0 15 l[i] = true
    · rw [q, Bool.true_and]
      refine Ev.step (fun k => ?_) (ih (i + 1) (by omega))
      rw [padlockref03_CheckPipes.l0, if_pos (by omega), if_pos (by omega), rd_lt l i hlt, refin_val, Option.bind_some, e1]
      exact if_pos q
    · refine Ev.step (f := fun _ => some 30) (fun k => ?_) (Ev.eq (Ev.now _) ?_)
      · rw [padlockref03_CheckPipes.l0, if_pos (by omega), if_pos (by omega), rd_lt l i hlt, refin_val, Option.bind_some]
        exact if_neg q
      · rw [Bool.not_eq_true] at q
        rw [q, Bool.false_and, Bool.false_and, if_neg (by decide)]
theorem checkpipes_ev (a0 a1 : Int) (l : List Int) (a3 a4 : Int) : Ev (fun k => padlockref03_CheckPipes.f k a0 a1 l a3 a4) (if plumbB a0 a1 l a3 a4 = true then 0 else 30) := by
  have j30 : Ev (fun k => padlockref03_CheckPipes.j0 k true a0 a1 l a3 a4) 30 := Ev.step (f := fun _ => some 30) (fun k => by rw [padlockref03_CheckPipes.j0, if_pos rfl]) (Ev.now _)
  unfold plumbB
  by_cases q1 : inR 1 9 a0 = true
  · by_cases q2 : inR 1 9 a1 = true
    · rw [q1, q2, Bool.true_and, Bool.true_and]
      have b1 := q1
      have b2 := q2
      unfold inR at b1 b2
      simp only [Bool.and_eq_true, decide_eq_true_eq] at b1 b2
      have g := gd_mul (W := a0) (y := a1) (by omega) (by omega) (by omega) (by omega)
      rw [Int.mul_comm] at g
      have e0 : wrap64 (a0 * a1) = a0 * a1 := w64 _ (by omega) (by omega)
      have head : ∀ {r}, Ev (fun k => if a0 * a1 > 9 then padlockref03_CheckPipes.j0 k true a0 a1 l a3 a4 else padlockref03_CheckPipes.j0 k ((l.length : Int) != a0 * a1) a0 a1 l a3 a4) r → Ev (fun k => padlockref03_CheckPipes.f k a0 a1 l a3 a4) r := fun h => by
        refine Ev.congr (fun k => ?_) h
        unfold padlockref03_CheckPipes.f
        rw [refin_val, Option.bind_some, refin_val, Option.bind_some, e0]
        rw [if_pos q1, if_pos q2]
      refine head ?_
      rw [e0]
      by_cases q3 : a0 * a1 ≤ 9
      · rw [decide_eq_true q3, Bool.true_and]
        simp only [if_neg (show ¬ a0 * a1 > 9 from by omega)]
        by_cases q4 : (l.length : Int) = a0 * a1
        · have q5 : ((l.length : Int) == a0 * a1) = true := beq_iff_eq.2 q4
          rw [q5, Bool.true_and]
          have h := refpipes_l0 (a0 := a0) (a1 := a1) (l := l) (a3 := a3) (a4 := a4) (by omega) l.length 0 (by omega)
          rw [List.drop_zero] at h
          refine Ev.step (fun k => ?_) (Ev.eq h ?_)
          · rw [show ((l.length : Int) != a0 * a1) = false from by rw [q4]; simp, padlockref03_CheckPipes.j0, if_neg (by decide)]
            rfl
          · unfold cellB
            rw [e0, ← q4, w64 _ (by omega) (by omega), List.all_eq_not_any_not]
            congr 1
            generalize inR 0 ((l.length : Int) - 1) a3 = u
            generalize inR 0 ((l.length : Int) - 1) a4 = v
            generalize (l.any fun x => !inR 0 15 x) = z
            cases u <;> cases v <;> cases z <;> rfl
        · have q5 : ((l.length : Int) == a0 * a1) = false := beq_eq_false_iff_ne.2 q4
          rw [q5, Bool.false_and, if_neg (by decide)]
          refine Ev.congr (fun k => ?_) j30
          rw [show ((l.length : Int) != a0 * a1) = true from bne_iff_ne.2 q4]
      · rw [decide_eq_false q3, Bool.false_and, if_neg (by decide)]
        refine Ev.congr (fun k => ?_) j30
        rw [if_pos (by omega)]
    · refine Ev.eq (Ev.congr (fun k => ?_) j30) ?_
      · unfold padlockref03_CheckPipes.f
        rw [refin_val, Option.bind_some, refin_val, Option.bind_some]
        rw [if_pos q1, if_neg q2]
      · rw [Bool.not_eq_true] at q2
        rw [q2, Bool.false_and, Bool.and_false, if_neg (by decide)]
  · refine Ev.eq (Ev.congr (fun k => ?_) j30) ?_
    · unfold padlockref03_CheckPipes.f
      rw [refin_val, Option.bind_some]
      rw [if_neg q1]
    · rw [Bool.not_eq_true] at q1
      rw [q1, Bool.false_and, if_neg (by decide)]
theorem cf98_val (tn : List Int) : cf98.f tn = some (tn.any fun x => !inR 0 3 x) := rfl
theorem wetIdx_l1 (wet : List Bool) (y : Int) (hw : wet.length ≤ 9) : ∀ (m i : Nat) (x : List Int), i + m = wet.length → x.length ≤ i → Ev (fun k => padlockref03_Flows.l1 k wet y x (i : Int)) (x ++ wetIdx (wet.drop i) i, y, 0) := by
  intro m
  induction m with
  | zero =>
    intro i x hi hx
    refine Ev.step (f := fun _ => some (x, y, 0)) (fun k => ?_) (Ev.eq (Ev.now _) ?_)
    · rw [padlockref03_Flows.l1, if_neg (by omega)]
    · rw [List.drop_of_length_le (by omega), wetIdx, List.append_nil]
  | succ m ih =>
    intro i x hi hx
    have hlt : i < wet.length := by omega
    have e1 : wrap64 ((i : Int) + 1) = ((i + 1 : Nat) : Int) := by rw [w64 _ (by omega) (by omega)]; omega
    have hrd : rdOf false wet (i : Int) = wet[i] := by unfold rdOf; rw [Int.toNat_natCast, List.getD_eq_getElem?_getD, List.getElem?_eq_getElem hlt]; rfl
    rw [List.drop_eq_getElem_cons hlt, wetIdx, ← List.append_assoc]
    by_cases q : wet[i] = true
    · rw [if_pos q]
      refine Ev.step (fun k => ?_) (ih (i + 1) (x ++ [(i : Int)]) (by omega) (by simp; omega))
      rw [padlockref03_Flows.l1, if_pos (by omega), if_pos (by omega), hrd, if_pos q, if_pos (by omega), e1]
    · rw [if_neg q, List.append_nil]
      refine Ev.step (fun k => ?_) (ih (i + 1) x (by omega) (by omega))
      rw [padlockref03_Flows.l1, if_pos (by omega), if_pos (by omega), hrd, if_neg q, e1]
theorem refturns_l0 {a0 a1 : Int} {l tn : List Int} {a3 a4 : Int} {r : List Int × Int × Int} (hl : tn.length ≤ 9)
    (next : Ev (fun k => (padlockref03_flows.f k a0 a1 l a3 a4 tn).bind fun bt543 => (padlockref03_Flows.l1 k bt543.1 bt543.2 ([] : List Int) 0)) r) : ∀ (m i : Nat), i + m = tn.length →
    Ev (fun k => padlockref03_Flows.l0 k tn (i : Int) a0 a1 l a3 a4) (if ((tn.drop i).all (inR 0 3)) = true then r else ([], 0, 1)) := by
  intro m
  induction m with
  | zero =>
    intro i hi
    rw [List.drop_of_length_le (by omega), List.all_nil, if_pos rfl]
    refine Ev.step (fun k => ?_) next
    rw [padlockref03_Flows.l0, if_neg (by omega)]
  | succ m ih =>
    intro i hi
    have hlt : i < tn.length := by omega
    have e1 : wrap64 ((i : Int) + 1) = ((i + 1 : Nat) : Int) := by rw [w64 _ (by omega) (by omega)]; omega
    rw [List.drop_eq_getElem_cons hlt, List.all_cons]
    by_cases q : inR 0 3 tn[i] = true
    · rw [q, Bool.true_and]
      refine Ev.step (fun k => ?_) (ih (i + 1) (by omega))
      rw [padlockref03_Flows.l0, if_pos (by omega), if_pos (by omega), rd_lt tn i hlt, refin_val, Option.bind_some, e1]
      exact if_pos q
    · refine Ev.step (f := fun _ => some ([], 0, 1)) (fun k => ?_) (Ev.eq (Ev.now _) ?_)
      · rw [padlockref03_Flows.l0, if_pos (by omega), if_pos (by omega), rd_lt tn i hlt, refin_val, Option.bind_some]
        exact if_neg q
      · rw [Bool.not_eq_true] at q
        rw [q, Bool.false_and, if_neg (by decide)]
/-- Valid turns of valid pipes. -/
theorem pl_of {a0 a1 : Int} {l tn : List Int} {a3 a4 : Int} (h : plumbB a0 a1 l a3 a4 = true) (ht : tn.length = l.length) (hv : ∀ x ∈ tn, 0 ≤ x ∧ x ≤ 3) : Pl a0 a1 l tn a3 := by
  obtain ⟨p1, p2, p3, p4, p5, p6, p7, p8, p9⟩ := plumbB_facts h
  exact ⟨p1, p2, p3, p4, p5, p6, ht, p9, hv, p7.1, p7.2⟩
theorem all_inR3 {tn : List Int} (h : tn.all (inR 0 3) = true) : ∀ x ∈ tn, 0 ≤ x ∧ x ≤ 3 := fun x hx => by
  have := List.all_eq_true.1 h x hx
  unfold inR at this
  simpa using this
/-- Both answer the same. -/
theorem flows_both (a0 a1 : Int) (l : List Int) (a3 a4 : Int) (tn : List Int) : ∃ r : List Int × Int × Int, r.1.length ≤ 9 ∧ Ev (fun k => puzzles_Flows.f k a0 a1 l a3 a4 tn) r ∧ Ev (fun k => padlockref03_Flows.f k a0 a1 l a3 a4 tn) r := by
  have hc := checkpipes_ev a0 a1 l a3 a4
  by_cases q1 : plumbB a0 a1 l a3 a4 = true
  · rw [if_pos q1] at hc
    have hf := plumbB_facts q1
    by_cases q2 : tn.length = l.length
    · have hcv : (tn.any fun x => !inR 0 3 x) = !(tn.all (inR 0 3)) := by rw [List.all_eq_not_any_not, Bool.not_not]
      have href : ∀ {r}, Ev (fun k => padlockref03_Flows.l0 k tn 0 a0 a1 l a3 a4) r → Ev (fun k => padlockref03_Flows.f k a0 a1 l a3 a4 tn) r := fun h => by
        refine Ev.congr (fun k => ?_) (Ev.bind hc (f := fun k t540 => (if t540 = 0 then (if (tn.length : Int) = (l.length : Int) then (padlockref03_Flows.l0 k tn 0 a0 a1 l a3 a4) else (some (([] : List Int), 0, 1))) else (some (([] : List Int), 0, t540)))) (r := _) ?_)
        · rfl
        · refine Ev.congr (fun k => ?_) h
          rw [if_pos rfl, if_pos (by omega)]
      by_cases q3 : tn.all (inR 0 3) = true
      · have P := pl_of q1 q2 (all_inR3 q3)
        obtain ⟨r, e1, L, D, hr, rfl⟩ := flows_ev P a0 a1 a4
        have e2 := refflows_ev P D hr a4
        have hlen : (mks l.length L).length ≤ 9 := by rw [tab_len]; exact hf.2.2.2.2.2.1
        have e3 := wetIdx_l1 (mks l.length L) (lsum (lk a0 a1 l tn) L) hlen (mks l.length L).length 0 [] (by omega) (by simp)
        rw [List.drop_zero, List.nil_append] at e3
        refine ⟨(wetIdx (mks l.length L) 0, lsum (lk a0 a1 l tn) L, 0), ?_, ?_, ?_⟩
        · have : ∀ (w : List Bool) (i : Nat), (wetIdx w i).length ≤ w.length := by
            intro w
            induction w with
            | nil => intro i; simp [wetIdx]
            | cons b t ih => intro i; have := ih (i + 1); simp only [wetIdx, List.length_append, List.length_cons]; split <;> simp <;> omega
          have := this (mks l.length L) 0
          simp only
          omega
        · refine Ev.congr (fun k => ?_) (Ev.bind e1 (f := fun k bt => if bt.1.length < 17592186044416 then some (wetIdx bt.1 0, bt.2, 0) else none) ?_)
          · unfold puzzles_Flows.f
            rw [if_pos q1, if_pos (by omega), cf98_val, Option.bind_some, hcv, q3, if_neg (by decide)]
          · exact Ev.const (if_pos (by simp only; omega))
        · refine href ?_
          have := refturns_l0 (a0 := a0) (a1 := a1) (l := l) (tn := tn) (a3 := a3) (a4 := a4) (by omega) (Ev.bind e2 (f := fun k bt543 => padlockref03_Flows.l1 k bt543.1 bt543.2 ([] : List Int) 0) e3) tn.length 0 (by omega)
          rw [List.drop_zero, if_pos q3] at this
          exact this
      · refine ⟨([], 0, 1), by simp, ?_, ?_⟩
        · refine Ev.congr (fun k => ?_) (Ev.now _)
          unfold puzzles_Flows.f
          rw [if_pos q1, if_pos (by omega), cf98_val, Option.bind_some, hcv]
          rw [Bool.not_eq_true] at q3
          rw [q3]
          rfl
        · refine href ?_
          -- the loop stops at the first turn that is out of range
          have stop : ∀ (m i : Nat), i + m = tn.length → (tn.drop i).all (inR 0 3) = false → Ev (fun k => padlockref03_Flows.l0 k tn (i : Int) a0 a1 l a3 a4) ([], 0, 1) := by
            intro m
            induction m with
            | zero => intro i hi hall; rw [List.drop_of_length_le (by omega)] at hall; cases hall
            | succ m ih =>
              intro i hi hall
              have hlt : i < tn.length := by omega
              have e1 : wrap64 ((i : Int) + 1) = ((i + 1 : Nat) : Int) := by rw [w64 _ (by omega) (by omega)]; omega
              rw [List.drop_eq_getElem_cons hlt, List.all_cons] at hall
              by_cases q : inR 0 3 tn[i] = true
              · rw [q, Bool.true_and] at hall
                refine Ev.step (fun k => ?_) (ih (i + 1) (by omega) hall)
                rw [padlockref03_Flows.l0, if_pos (by omega), if_pos (by omega), rd_lt tn i hlt, refin_val, Option.bind_some, e1]
                exact if_pos q
              · refine Ev.step (f := fun _ => some ([], 0, 1)) (fun k => ?_) (Ev.now _)
                rw [padlockref03_Flows.l0, if_pos (by omega), if_pos (by omega), rd_lt tn i hlt, refin_val, Option.bind_some]
                exact if_neg q
          rw [Bool.not_eq_true] at q3
          exact stop tn.length 0 (by omega) (by rw [List.drop_zero]; exact q3)
    · refine ⟨([], 0, 1), by simp, ?_, ?_⟩
      · refine Ev.congr (fun k => ?_) (Ev.now _)
        unfold puzzles_Flows.f
        rw [if_pos q1, if_neg (by omega)]
      · refine Ev.congr (fun k => rfl) (Ev.bind hc (f := fun k t540 => (if t540 = 0 then (if (tn.length : Int) = (l.length : Int) then (padlockref03_Flows.l0 k tn 0 a0 a1 l a3 a4) else (some (([] : List Int), 0, 1))) else (some (([] : List Int), 0, t540)))) ?_)
        refine Ev.congr (fun k => ?_) (Ev.now _)
        rw [if_pos rfl, if_neg (by omega)]
  · rw [if_neg q1] at hc
    refine ⟨([], 0, 30), by simp, ?_, ?_⟩
    · refine Ev.congr (fun k => ?_) (Ev.now _)
      unfold puzzles_Flows.f
      rw [if_neg q1]
    · refine Ev.congr (fun k => rfl) (Ev.bind hc (f := fun k t540 => (if t540 = 0 then (if (tn.length : Int) = (l.length : Int) then (padlockref03_Flows.l0 k tn 0 a0 a1 l a3 a4) else (some (([] : List Int), 0, 1))) else (some (([] : List Int), 0, t540)))) ?_)
      exact Ev.now _

end Go.Proofs.Ytdhiijleafcfcaa.T
