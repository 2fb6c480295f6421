/- The theorem of the portraits, in plain lists. -/
import Derived.Test.YtdhiijleafcfcaaT0
import Derived.Test.YtdhiijleafcfcaaPHa
import Derived.Test.YtdhiijleafcfcaaTo
namespace Go.Proofs.Ytdhiijleafcfcaa.T
open Go.RowKit Go.Proofs.YtdhiijleafcfcaaW.PrintWords Go.Proofs.YtdhiijleafcfcaaW.PrintLast Go.Proofs.YtdhiijleafcfcaaW.PrintMore
attribute [local go_sem] max2_int min2_int max_two min_two max_three min_three max_four min_four
set_option linter.unusedVariables false
set_option linter.unusedSimpArgs false

/-! How many: with a further sentence, and with its opposite. -/
theorem hUpto_split (N : Nat) (F F1 F2 : List Int → Bool) (m : Nat) (p : List Int) (h : ∀ x : Nat, (hOuts N F1 m (p ++ [(x : Int)])).length + (hOuts N F2 m (p ++ [(x : Int)])).length = (hOuts N F m (p ++ [(x : Int)])).length) : ∀ k, (hUpto N F1 m p k).length + (hUpto N F2 m p k).length = (hUpto N F m p k).length
 | 0 => rfl
 | k + 1 => by
  have h1 := hUpto_split N F F1 F2 m p h k
  have h2 := h k
  rw [hUpto_succ, hUpto_succ, hUpto_succ]
  simp only [List.length_append]
  by_cases q : (k : Int) ∈ p
  ·rw [if_pos q, if_pos q, if_pos q]
   simp only [List.length_nil]
   omega
  ·rw [if_neg q, if_neg q, if_neg q]
   omega
theorem hOuts_split (N : Nat) (F F1 F2 : List Int → Bool) (hF : ∀ q, F1 q = (F q && F1 q) ∧ F2 q = (F q && !F1 q)) : ∀ (m : Nat) (p : List Int), (hOuts N F1 m p).length + (hOuts N F2 m p).length = (hOuts N F m p).length
 | 0, p => by
  unfold hOuts
  obtain ⟨h1, h2⟩ := hF p
  rw [h2]
  rw [h1]
  cases F p <;> cases F1 p <;> rfl
 | m + 1, p => by
  rw [← hUpto_all, ← hUpto_all, ← hUpto_all]
  exact hUpto_split N F F1 F2 m p (fun x => hOuts_split N F F1 F2 hF m _) N
theorem holdsB_not (f0 f1 f2 f3 : Int) (f4 : Bool) (pl : List Int) : holdsB ⟨f0, f1, f2, f3, !f4⟩ pl = !holdsB ⟨f0, f1, f2, f3, f4⟩ pl := by
 unfold holdsB
 simp only
 generalize (if f0 = 1 then rd pl f1 == f3 else if f0 = 2 then decide (rd pl f1 < rd pl f2) else if f0 = 3 then mx (wrap64 (rd pl f1 - rd pl f2)) (wrap64 (rd pl f2 - rd pl f1)) == 1 else if f0 = 4 then decide (mx (wrap64 (rd pl f1 - rd pl f2)) (wrap64 (rd pl f2 - rd pl f1)) > f3) else false) = b
 cases b <;> cases f4 <;> rfl
theorem okH_snoc (N : Nat) (l : List S76) (x : S76) (p : List Int) : okH N (l ++ [x]) p = (okH N l p && holdsB x (plOf N p)) := by
 unfold okH
 rw [List.any_append]
 simp only [List.any_cons, List.any_nil, Bool.or_false]
 cases (l.any fun s => !holdsB s (plOf N p)) <;> cases holdsB x (plOf N p) <;> rfl
theorem hang_split (n : Int) (l : List S76) (f0 f1 f2 f3 : Int) (f4 : Bool) : (hangO n (l ++ [⟨f0, f1, f2, f3, f4⟩])).length + (hangO n (l ++ [⟨f0, f1, f2, f3, !f4⟩])).length = (hangO n l).length := by
 unfold hangO
 refine hOuts_split _ _ _ _ (fun q => ?_) _ _
 rw [okH_snoc, okH_snoc, holdsB_not]
 generalize okH n.toNat l q = a
 generalize holdsB ⟨f0, f1, f2, f3, f4⟩ (plOf n.toNat q) = b
 cases a <;> cases b <;> exact ⟨rfl, rfl⟩
/-! What a hanging is. -/
theorem hOuts_ok (N : Nat) (F : List Int → Bool) : ∀ (m : Nat) (p q : List Int), q ∈ hOuts N F m p → F q = true
 | 0, p, q, h => by
  unfold hOuts at h
  split at h
  ·rename_i hF
   rw [List.mem_singleton.1 h]
   exact hF
  ·cases h
 | m + 1, p, q, h => by
  unfold hOuts at h
  obtain ⟨x, _, hx⟩ := List.mem_flatMap.1 h
  split at hx
  ·cases hx
  ·exact hOuts_ok N F m _ q hx
/-- Different portraits, of the first N. -/
def Hung (N : Nat) (p : List Int) : Prop := p.Nodup ∧ ∀ x ∈ p, 0 ≤ x ∧ x < N
theorem hOuts_hung (N : Nat) (F : List Int → Bool) : ∀ (m : Nat) (p q : List Int), Hung N p → q ∈ hOuts N F m p → Hung N q
 | 0, p, q, hp, h => by
  unfold hOuts at h
  split at h
  ·rw [List.mem_singleton.1 h]
   exact hp
  ·cases h
 | m + 1, p, q, hp, h => by
  unfold hOuts at h
  obtain ⟨x, hxr, hx⟩ := List.mem_flatMap.1 h
  have hxN : x < N := List.mem_range.1 hxr
  split at hx
  ·cases hx
  ·rename_i hn
   refine hOuts_hung N F m _ q ⟨?_, fun y hy => ?_⟩ hx
   ·refine List.nodup_append.2 ⟨hp.1, by simp, fun a ha b hb => ?_⟩
    rw [List.mem_singleton.1 hb]
    intro e
    exact hn (e ▸ ha)
   ·rcases List.mem_append.1 hy with hy | hy
    ·exact hp.2 y hy
    ·rw [List.mem_singleton.1 hy]; omega
theorem nodup_le {q : List Int} : ∀ (S : List Int) (q : List Int), q.Nodup → (∀ x ∈ q, x ∈ S) → q.length ≤ S.length
 | [], q, _, h => by
  cases q with
  | nil => simp
  | cons a r => exact absurd (h a (by simp)) (by simp)
 | a :: S, q, hq, h => by
  by_cases ha : a ∈ q
  ·have h1 := nodup_le (q := []) S (q.erase a) (hq.erase a) (fun x hx => by
    obtain ⟨hne, hxq⟩ := (hq.mem_erase_iff).1 hx
    rcases List.mem_cons.1 (h x hxq) with e | e
    ·exact absurd e hne
    ·exact e)
   rw [List.length_erase_of_mem ha] at h1
   have := List.length_pos_of_mem ha
   simp only [List.length_cons]
   omega
  ·have h1 := nodup_le (q := []) S q hq (fun x hx => by
    rcases List.mem_cons.1 (h x hx) with e | e
    ·exact absurd (e ▸ hx) ha
    ·exact e)
   simp only [List.length_cons]
   omega
theorem hung_all {N : Nat} {q : List Int} (h : Hung N q) (hl : q.length = N) (x : Nat) (hx : x < N) : (x : Int) ∈ q := by
 by_cases hq : (x : Int) ∈ q
 ·exact hq
 ·exfalso
  have hmem : (x : Int) ∈ (List.range N).map (fun (y : Nat) => (y : Int)) := List.mem_map.2 ⟨x, List.mem_range.2 hx, rfl⟩
  have h1 := nodup_le (q := []) (((List.range N).map (fun (y : Nat) => (y : Int))).erase (x : Int)) q h.1 (fun y hy => by
   have hy2 := h.2 y hy
   have hne : y ≠ (x : Int) := fun e => hq (e ▸ hy)
   refine (List.mem_erase_of_ne hne).2 (List.mem_map.2 ⟨y.toNat, List.mem_range.2 (by omega), by omega⟩))
  rw [List.length_erase_of_mem hmem] at h1
  simp only [List.length_map, List.length_range] at h1
  omega
/-! The order. -/
def ltL (a b : List Int) : Prop := ∃ r x s y t, a = r ++ x :: s ∧ b = r ++ y :: t ∧ x < y
theorem hOuts_pre (N : Nat) (F : List Int → Bool) : ∀ (m : Nat) (p q : List Int), q ∈ hOuts N F m p → ∃ s, q = p ++ s
 | 0, p, q, h => by
  unfold hOuts at h
  split at h
  ·exact ⟨[], by rw [List.mem_singleton.1 h, List.append_nil]⟩
  ·cases h
 | m + 1, p, q, h => by
  unfold hOuts at h
  obtain ⟨x, _, hx⟩ := List.mem_flatMap.1 h
  split at hx
  ·cases hx
  ·obtain ⟨s, hs⟩ := hOuts_pre N F m _ q hx
   exact ⟨(x : Int) :: s, by rw [hs, List.append_assoc]; rfl⟩
theorem hUpto_mem (N : Nat) (F : List Int → Bool) (m : Nat) (p q : List Int) (k : Nat) (h : q ∈ hUpto N F m p k) : ∃ x : Nat, ∃ s, x < k ∧ q = p ++ (x : Int) :: s := by
 unfold hUpto at h
 obtain ⟨x, hxr, hx⟩ := List.mem_flatMap.1 h
 split at hx
 ·cases hx
 ·obtain ⟨s, hs⟩ := hOuts_pre N F m _ q hx
  exact ⟨x, s, List.mem_range.1 hxr, by rw [hs, List.append_assoc]; rfl⟩
theorem hUpto_order (N : Nat) (F : List Int → Bool) (m : Nat) (p : List Int) (h : ∀ x : Nat, (hOuts N F m (p ++ [(x : Int)])).Pairwise ltL) : ∀ k, (hUpto N F m p k).Pairwise ltL
 | 0 => List.Pairwise.nil
 | k + 1 => by
  rw [hUpto_succ]
  refine List.pairwise_append.2 ⟨hUpto_order N F m p h k, ?_, fun a ha b hb => ?_⟩
  ·split
   ·exact List.Pairwise.nil
   ·exact h k
  ·split at hb
   ·cases hb
   ·obtain ⟨x, s, hxk, ea⟩ := hUpto_mem N F m p a k ha
    obtain ⟨t, eb⟩ := hOuts_pre N F m _ b hb
    exact ⟨p, (x : Int), s, (k : Int), t, ea, by rw [eb, List.append_assoc]; rfl, by omega⟩
theorem hOuts_order (N : Nat) (F : List Int → Bool) : ∀ (m : Nat) (p : List Int), (hOuts N F m p).Pairwise ltL
 | 0, p => by
  unfold hOuts
  split <;> simp
 | m + 1, p => by
  rw [← hUpto_all]
  exact hUpto_order N F m p (fun x => hOuts_order N F m _) N
theorem hung_has (l : List Int) (n : Int) (hm : l.length ≤ 1000) : Ev (fun k => padlocklaw03_has.f k l n) (decide (n ∈ l)) := by
 have key : ∀ (m i : Nat), i + m = l.length → Ev (fun k => padlocklaw03_has.l0 k l n (i : Int)) (decide (n ∈ l.drop i)) := by
  intro m
  induction m with
  | zero =>
   intro i hi
   refine Ev.step (f := fun _ => some false) (fun k => ?_) (Ev.eq (Ev.now _) ?_)
   ·rw [padlocklaw03_has.l0, if_neg (by omega)]
   ·rw [List.drop_of_length_le (by omega)]
    simp
  | succ m ih =>
   intro i hi
   have hlt : i < l.length := by omega
   have e1 : wrap64 ((i : Int) + 1) = ((i + 1 : Nat) : Int) := by rw [w64 _ (by omega) (by omega)]; omega
   rw [List.drop_eq_getElem_cons hlt]
   by_cases q : l[i] = n
   ·refine Ev.step (f := fun _ => some true) (fun k => ?_) (Ev.eq (Ev.now _) (by simp [q]))
    rw [padlocklaw03_has.l0, if_pos (by omega), if_pos (by omega), rd_lt l i hlt, if_pos q]
   ·refine Ev.step (fun k => ?_) (Ev.eq (ih (i + 1) (by omega)) ?_)
    ·rw [padlocklaw03_has.l0, if_pos (by omega), if_pos (by omega), rd_lt l i hlt, if_neg q, e1]
    ·rw [decide_eq_decide, List.mem_cons]
     constructor
     ·exact .inr
     ·rintro (h | h)
      ·exact absurd h.symm q
      ·exact h
 have := key l.length 0 (by omega)
 rw [List.drop_zero] at this
 exact this
theorem hung_earlier {a b : List Int} (h : ltL a b) (hl : a.length ≤ 100) : Ev (fun k => padlocklaw03_earlier.f k a b) true := by
 obtain ⟨r, x, s, y, t, rfl, rfl, hxy⟩ := h
 have key : ∀ (m i : Nat), i + m = r.length → Ev (fun k => padlocklaw03_earlier.l0 k (r ++ x :: s) (r ++ y :: t) (i : Int)) true := by
  intro m
  simp only [List.length_append, List.length_cons] at hl
  induction m with
  | zero =>
   intro i hi
   have ha : i < (r ++ x :: s).length := by simp only [List.length_append, List.length_cons]; omega
   have hb : i < (r ++ y :: t).length := by simp only [List.length_append, List.length_cons]; omega
   have ra : rd (r ++ x :: s) (i : Int) = x := by rw [rd_lt _ i ha, List.getElem_append_right (by omega)]; simp [show i - r.length = 0 from by omega]
   have rb : rd (r ++ y :: t) (i : Int) = y := by rw [rd_lt _ i hb, List.getElem_append_right (by omega)]; simp [show i - r.length = 0 from by omega]
   refine Ev.step (f := fun k => padlocklaw03_earlier.j1 k (r ++ x :: s) (r ++ y :: t) (i : Int) true) (fun k => ?_) (Ev.step (f := fun _ => some true) (fun k => ?_) (Ev.now _))
   ·rw [padlocklaw03_earlier.l0, if_pos (by omega), decide_eq_true (by omega)]
   ·rw [padlocklaw03_earlier.j1, if_pos rfl, if_pos (by omega), if_pos (by omega), if_pos (by omega), ra, rb, if_neg (by omega), decide_eq_true hxy]
  | succ m ih =>
   intro i hi
   have ha : i < (r ++ x :: s).length := by simp only [List.length_append, List.length_cons]; omega
   have hb : i < (r ++ y :: t).length := by simp only [List.length_append, List.length_cons]; omega
   have e1 : wrap64 ((i : Int) + 1) = ((i + 1 : Nat) : Int) := by rw [w64 _ (by omega) (by omega)]; omega
   have re : rd (r ++ x :: s) (i : Int) = rd (r ++ y :: t) (i : Int) := by rw [rd_lt _ i ha, rd_lt _ i hb, List.getElem_append_left (by omega), List.getElem_append_left (by omega)]
   refine Ev.step (f := fun k => padlocklaw03_earlier.j1 k (r ++ x :: s) (r ++ y :: t) (i : Int) true) (fun k => ?_) (Ev.step (f := fun k => padlocklaw03_earlier.l0 k (r ++ x :: s) (r ++ y :: t) ((i + 1 : Nat) : Int)) (fun k => ?_) (ih (i + 1) (by omega)))
   ·rw [padlocklaw03_earlier.l0, if_pos (by omega), decide_eq_true (by omega)]
   ·rw [padlocklaw03_earlier.j1, if_pos rfl, if_pos (by omega), if_pos (by omega), if_pos (by omega), if_pos re, e1]
 exact key r.length 0 (by omega)

end Go.Proofs.Ytdhiijleafcfcaa.T
