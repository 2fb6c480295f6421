/- Pipes in plain lists: what the document says of them. -/
import Derived.Test.YtdhiijleafcfcaaT0
import Derived.Test.YtdhiijleafcfcaaPF
import Derived.Test.YtdhiijleafcfcaaTpf
import Derived.Test.YtdhiijleafcfcaaTpc
namespace Go.Proofs.Ytdhiijleafcfcaa.T
open Go.RowKit Go.Proofs.YtdhiijleafcfcaaW.PrintWords Go.Proofs.YtdhiijleafcfcaaW.PrintLast Go.Proofs.YtdhiijleafcfcaaW.PrintMore
attribute [local go_sem] max2_int min2_int max_two min_two max_three min_three max_four min_four
set_option linter.unusedVariables false
set_option linter.unusedSimpArgs false

open Mz
def sumTo (g : Nat → Int) : Nat → Int
 | 0 => 0
 | n + 1 => sumTo g n + g n
theorem sumTo_ext {g h : Nat → Int} : ∀ {n : Nat}, (∀ i, i < n → g i = h i) → sumTo g n = sumTo h n
 | 0, _ => rfl
 | n + 1, e => by simp only [sumTo]; rw [sumTo_ext (fun i hi => e i (by omega)), e n (by omega)]
theorem sumTo_upd {g h : Nat → Int} (j : Nat) : ∀ {n : Nat}, j < n → (∀ i, i < n → i ≠ j → g i = h i) → sumTo g n = sumTo h n + (g j - h j)
 | 0, hj, _ => by omega
 | n + 1, hj, e => by
  simp only [sumTo]
  by_cases c : j = n
  ·subst c
   rw [sumTo_ext (g := g) (h := h) (fun i hi => e i (by omega) (by omega))]
   omega
  ·rw [sumTo_upd j (n := n) (by omega) (fun i hi hne => e i (by omega) hne), e n (by omega) (by omega)]
   omega
theorem sumTo_zero {g : Nat → Int} : ∀ {n : Nat}, (∀ i, i < n → g i = 0) → sumTo g n = 0
 | 0, _ => rfl
 | n + 1, e => by simp only [sumTo]; rw [sumTo_zero (fun i hi => e i (by omega)), e n (by omega)]; rfl
theorem sum_met (f : Int → Int) (n : Nat) : ∀ (L : List En), (L.Pairwise fun a b => a.1 ≠ b.1) → (∀ e ∈ L, 0 ≤ e.1 ∧ e.1 < n) → sumTo (fun c => if met L c = true then f c else 0) n = lsum f L
 | [], _, _ => by simp only [lsum]; exact sumTo_zero fun i _ => by simp [met]
 | e :: t, ha, hr => by
  obtain ⟨a1, a2⟩ := List.pairwise_cons.1 ha
  have he := hr e (by simp)
  have ih := sum_met f n t a2 (fun x hx => hr x (by simp [hx]))
  simp only [lsum]
  rw [← ih]
  have hno : met t e.1.toNat = false := by
   rw [Bool.eq_false_iff]
   intro h
   obtain ⟨x, h1, h2⟩ := met_iff.1 h
   exact a1 x h1 (by omega)
  have hyes : met (e :: t) e.1.toNat = true := met_iff.2 ⟨e, by simp, by omega⟩
  have := sumTo_upd (g := fun c : Nat => if met (e :: t) c = true then f c else 0) (h := fun c : Nat => if met t c = true then f c else 0) e.1.toNat (n := n) (by omega) (fun i hi hne => by
   have : met (e :: t) i = met t i := by
    rw [Bool.eq_iff_iff, met_iff, met_iff]
    constructor
    ·rintro ⟨x, h1, h2⟩
     rcases List.mem_cons.1 h1 with rfl | h1
     ·omega
     ·exact ⟨x, h1, h2⟩
    ·rintro ⟨x, h1, h2⟩
     exact ⟨x, by simp [h1], h2⟩
   simp only [this])
  rw [this, if_pos hyes, if_neg (by rw [hno]; decide), show ((e.1.toNat : Nat) : Int) = e.1 from by omega]
  generalize sumTo _ n = S
  generalize f e.1 = F
  omega
section
variable {W H : Int} {pc tn : List Int} {fr : Int}
theorem rd_tab (n : Nat) (f : Nat → Int) {c : Int} (h0 : 0 ≤ c) (h1 : c < n) : rd (tab n f) c = f c.toNat := tab_get n f c.toNat (by omega) 0
theorem tab_same {n : Nat} {X : Nat → Bool} {i : Nat} (h : X i = true) : tab n (fun j => if j = i then true else X j) = tab n X :=
 tab_ext fun j _ => by
  by_cases c : j = i
  ·rw [if_pos c, c, h]
  ·rw [if_neg c]
abbrev trT (pc tn : List Int) : List Int := tab pc.length (fun c => trn (rd pc c) (rd tn c))
theorem refop_val (P : Pl W H pc tn fr) {c s : Int} (h0 : 0 ≤ c) (h1 : c < pc.length) (hs : 0 ≤ s ∧ s ≤ 3) : padlockref03_open.f (rd (trT pc tn) c) s = some (op pc tn c s) := by
 rw [rd_tab _ _ h0 h1, show ((c.toNat : Nat) : Int) = c from by omega]
 exact refopen_val (P.pr _ (rd_mem h0 h1)) (P.tr _ (rd_mem h0 (by rw [P.tl]; exact h1))) hs
/-- One side in a round, whatever it finds. -/
theorem ref_side (P : Pl W H pc tn fr) (tz x11 : Int) (r : List Bool × Int) (s : Nat) (c : Int) (h0 : 0 ≤ c) (h1 : c < pc.length)
  (next : ∀ (X : Nat → Bool) (y : Int), Ps (stp W H pc tn) fr pc.length s (c + 1) 0 X → Ev (fun k => padlockref03_flows.l2 k pc.length (trT pc tn) (tab pc.length X) y x11 (c + 1) W H pc fr tz) r) :
  ∀ (m : Nat) (d : Int) (X : Nat → Bool) (y : Int), d + m = 4 → 0 ≤ d → Ps (stp W H pc tn) fr pc.length s c d X → Ev (fun k => padlockref03_flows.l3 k pc.length (trT pc tn) (tab pc.length X) y x11 c d W H pc fr tz) r := by
 have n9 := P.n9
 have ec : wrap64 (c + 1) = c + 1 := w64 _ (by omega) (by omega)
 intro m
 induction m with
 | zero =>
  intro d X y hd hd0 hP
  obtain rfl : d = 4 := by omega
  refine Ev.step (f := fun k => padlockref03_flows.j4 k pc.length (trT pc tn) (tab pc.length X) y x11 c 4 false W H pc fr tz) (fun k => ?_) (Ev.step (fun k => ?_) (next X y hP.over))
  ·rw [padlockref03_flows.l3, if_neg (by omega)]
  ·rw [padlockref03_flows.j4, if_neg (by decide), ec]
 | succ m ih =>
  intro d X y hd hd0 hP
  have hd3 : 0 ≤ d ∧ d ≤ 3 := by omega
  have hd4 : d < 4 := by omega
  have hd5 : 0 ≤ (d + 2) % 4 ∧ (d + 2) % 4 ≤ 3 := by omega
  have e1 : wrap64 (d + 1) = d + 1 := w64 _ (by omega) (by omega)
  have e2 : Int.tmod (wrap64 (d + 2)) 4 = (d + 2) % 4 := by rw [w64 _ (by omega) (by omega), Int.tmod_eq_emod_of_nonneg (by omega)]
  have start : ∀ g : Bool, X c.toNat = g → Ev (fun k => padlockref03_flows.j4 k pc.length (trT pc tn) (tab pc.length X) y x11 c d g W H pc fr tz) r → Ev (fun k => padlockref03_flows.l3 k pc.length (trT pc tn) (tab pc.length X) y x11 c d W H pc fr tz) r := fun g hg hj => by
   refine Ev.step (fun k => ?_) hj
   rw [padlockref03_flows.l3, if_pos hd4, if_pos h0, if_pos (by rw [tab_len]; exact h1), mks_rd _ _ h0 h1, hg]
  by_cases hX : X c.toNat = true
  ·have hst := stp_range P c d h0 h1
   have hM := hP.mark h0 h1 hd3.1 hd3.2 hst.1 hX
   have ho := refop_val P h0 h1 hd3
   refine start true hX ?_
   by_cases q1 : op pc tn c d = true
   ·rw [q1] at ho
    by_cases q2 : cnn W H pc tn c d = true
    ·have hcn := q2
     unfold cnn at hcn
     simp only [Bool.and_eq_true, decide_eq_true_eq] at hcn
     have hs : stp W H pc tn c d = nb W H c d := by unfold stp; rw [if_pos (by rw [q1, q2]; rfl)]
     rw [hs] at hM hst
     have ho2 := refop_val P hcn.1 hst.2 hd5
     rw [hcn.2] at ho2
     have hset : (tab pc.length X).set (nb W H c d).toNat true = tab pc.length (fun i => if i = (nb W H c d).toNat then true else X i) := tab_set _ _ _ _
     refine Ev.step (fun k => ?_) (Ev.bind (refbeside_ev (P.gd h0 h1) hd3) (f := fun k t535 => (if t535 ≥ 0 then (if 0 ≤ t535 then (if t535 < (((trT pc tn)).length : Int) then ((padlockref03_open.f (rd (trT pc tn) t535) (Int.tmod (wrap64 (d + 2)) 4)).bind fun t537 => (if t537 = true then (if t535 < ((tab pc.length X).length : Int) then (padlockref03_flows.l3 k pc.length (trT pc tn) ((tab pc.length X).set (t535 : Int).toNat true) y x11 c (wrap64 (d + 1)) W H pc fr tz) else (none)) else (padlockref03_flows.l3 k pc.length (trT pc tn) (tab pc.length X) (wrap64 (y + 1)) x11 c (wrap64 (d + 1)) W H pc fr tz))) else (none)) else (none)) else (padlockref03_flows.l3 k pc.length (trT pc tn) (tab pc.length X) (wrap64 (y + 1)) x11 c (wrap64 (d + 1)) W H pc fr tz))) ?_)
     ·rw [padlockref03_flows.j4, if_pos rfl, if_pos h0, if_pos (by rw [tab_len]; exact h1), ho, Option.bind_some, if_pos rfl]
     ·refine Ev.congr (fun k => ?_) (ih (d + 1) _ y (by omega) (by omega) hM)
      rw [if_pos (by exact hcn.1), if_pos hcn.1, if_pos (by rw [tab_len]; exact hst.2), e2, ho2, Option.bind_some, if_pos rfl, if_pos (by rw [tab_len]; exact hst.2), hset, e1]
    ·have hs : stp W H pc tn c d = c := by unfold stp; rw [if_neg (by rw [q1, Bool.true_and]; exact q2)]
     rw [hs] at hM
     have IH := ih (d + 1) _ (wrap64 (y + 1)) (by omega) (by omega) hM
     rw [tab_same hX] at IH
     refine Ev.step (fun k => ?_) (Ev.bind (refbeside_ev (P.gd h0 h1) hd3) (f := fun k t535 => (if t535 ≥ 0 then (if 0 ≤ t535 then (if t535 < (((trT pc tn)).length : Int) then ((padlockref03_open.f (rd (trT pc tn) t535) (Int.tmod (wrap64 (d + 2)) 4)).bind fun t537 => (if t537 = true then (if t535 < ((tab pc.length X).length : Int) then (padlockref03_flows.l3 k pc.length (trT pc tn) ((tab pc.length X).set (t535 : Int).toNat true) y x11 c (wrap64 (d + 1)) W H pc fr tz) else (none)) else (padlockref03_flows.l3 k pc.length (trT pc tn) (tab pc.length X) (wrap64 (y + 1)) x11 c (wrap64 (d + 1)) W H pc fr tz))) else (none)) else (none)) else (padlockref03_flows.l3 k pc.length (trT pc tn) (tab pc.length X) (wrap64 (y + 1)) x11 c (wrap64 (d + 1)) W H pc fr tz))) ?_)
     ·rw [padlockref03_flows.j4, if_pos rfl, if_pos h0, if_pos (by rw [tab_len]; exact h1), ho, Option.bind_some, if_pos rfl]
     ·refine Ev.congr (fun k => ?_) IH
      by_cases q4 : 0 ≤ nb W H c d
      ·have hnr := nb_range (P.gd h0 h1) q4
       rw [P.wh] at hnr
       have ho2 := refop_val P q4 hnr hd5
       have q5 : op pc tn (nb W H c d) ((d + 2) % 4) = false := by
        unfold cnn at q2
        rw [decide_eq_true q4, Bool.true_and, Bool.not_eq_true] at q2
        exact q2
       rw [q5] at ho2
       rw [if_pos (by exact q4), if_pos q4, if_pos (by rw [tab_len]; exact hnr), e2, ho2, Option.bind_some, if_neg (by decide), e1]
      ·rw [if_neg (by exact q4), e1]
   ·rw [Bool.not_eq_true] at q1
    rw [q1] at ho
    have hs : stp W H pc tn c d = c := by unfold stp; rw [q1, Bool.false_and, if_neg (by decide)]
    rw [hs] at hM
    have IH := ih (d + 1) _ y (by omega) (by omega) hM
    rw [tab_same hX] at IH
    refine Ev.step (fun k => ?_) IH
    rw [padlockref03_flows.j4, if_pos rfl, if_pos h0, if_pos (by rw [tab_len]; exact h1), ho, Option.bind_some, if_neg (by decide), e1]
  ·rw [Bool.not_eq_true] at hX
   refine start false hX (Ev.step (fun k => ?_) (next X y (hP.skip hX)))
   rw [padlockref03_flows.j4, if_neg (by decide), ec]
/-- A round, whatever it finds. -/
theorem ref_cells (P : Pl W H pc tn fr) (tz x11 : Int) (r : List Bool × Int) (s : Nat) (e11 : wrap64 (x11 + 1) = x11 + 1)
  (next : ∀ (X : Nat → Bool) (y : Int), Ps (stp W H pc tn) fr pc.length (s + 1) 0 0 X → Ev (fun k => padlockref03_flows.l1 k pc.length (trT pc tn) (tab pc.length X) y (x11 + 1) W H pc fr tz) r) :
  ∀ (m : Nat) (c : Int) (X : Nat → Bool) (y : Int), c + m = pc.length → 0 ≤ c → Ps (stp W H pc tn) fr pc.length s c 0 X → Ev (fun k => padlockref03_flows.l2 k pc.length (trT pc tn) (tab pc.length X) y x11 c W H pc fr tz) r := by
 intro m
 induction m with
 | zero =>
  intro c X y hc h0 hP
  obtain rfl : c = pc.length := by omega
  refine Ev.step (fun k => ?_) (next X y (hP.pass (fun c d a b _ _ => stp_range P c d a b) P.f0 P.f1))
  rw [padlockref03_flows.l2, if_neg (by omega), e11]
 | succ m ih =>
  intro c X y hc h0 hP
  refine Ev.step (fun k => ?_) (ref_side P tz x11 r s c h0 (by omega) (fun X' y' hP' => ih (c + 1) X' y' (by omega) (by omega) hP') 4 0 X y (by omega) (by omega) hP)
  rw [padlockref03_flows.l2, if_pos (by omega)]
/-- The sides in the last round. -/
theorem last_side (P : Pl W H pc tn fr) {L : List En} (D : Done (stp W H pc tn) fr L) (hr : ∀ e ∈ L, 0 ≤ e.1 ∧ e.1 < (pc.length : Nat)) (tz x11 : Int) (r : List Bool × Int) (c : Int) (h0 : 0 ≤ c) (h1 : c < pc.length) (S : Int) (hS : 0 ≤ S ∧ S ≤ 100) (hm : met L c.toNat = true)
  (next : Ev (fun k => padlockref03_flows.l2 k pc.length (trT pc tn) (mks pc.length L) (S + lk W H pc tn c) x11 (c + 1) W H pc fr tz) r) :
  ∀ (m d : Nat), d + m = 4 → Ev (fun k => padlockref03_flows.l3 k pc.length (trT pc tn) (mks pc.length L) (S + lkU W H pc tn c d) x11 c (d : Int) W H pc fr tz) r := by
 have n9 := P.n9
 have ec : wrap64 (c + 1) = c + 1 := w64 _ (by omega) (by omega)
 intro m
 induction m with
 | zero =>
  intro d hd
  obtain rfl : d = 4 := by omega
  refine Ev.step (f := fun k => padlockref03_flows.j4 k pc.length (trT pc tn) (mks pc.length L) (S + lk W H pc tn c) x11 c 4 false W H pc fr tz) (fun k => ?_) (Ev.step (fun k => ?_) next)
  ·rw [padlockref03_flows.l3, if_neg (by omega)]; rfl
  ·rw [padlockref03_flows.j4, if_neg (by decide), ec]
 | succ m ih =>
  intro d hd
  have hd3 : 0 ≤ (d : Int) ∧ (d : Int) ≤ 3 := by omega
  have hd4 : (d : Int) < 4 := by omega
  have hd5 : 0 ≤ ((d : Int) + 2) % 4 ∧ ((d : Int) + 2) % 4 ≤ 3 := by omega
  have e1 : wrap64 ((d : Int) + 1) = ((d + 1 : Nat) : Int) := by rw [w64 _ (by omega) (by omega)]; omega
  have e2 : Int.tmod (wrap64 ((d : Int) + 2)) 4 = ((d : Int) + 2) % 4 := by rw [w64 _ (by omega) (by omega), Int.tmod_eq_emod_of_nonneg (by omega)]
  have ho := refop_val P h0 h1 hd3
  have ew := Aside0.mk (show wrap64 (S + lkU W H pc tn c d + 1) = S + (lkU W H pc tn c d + 1) by
   have hbd2 := lkU_bd W H pc tn c d
   generalize lkU W H pc tn c d = U at hbd2 ⊢
   rw [w64 _ (by omega) (by omega)]; omega)
  have IH := ih (d + 1) (by omega)
  have begin_ : ∀ {r}, Ev (fun k => padlockref03_flows.j4 k pc.length (trT pc tn) (mks pc.length L) (S + lkU W H pc tn c d) x11 c d true W H pc fr tz) r → Ev (fun k => padlockref03_flows.l3 k pc.length (trT pc tn) (mks pc.length L) (S + lkU W H pc tn c d) x11 c (d : Int) W H pc fr tz) r := fun hj => by
   refine Ev.step (fun k => ?_) hj
   rw [padlockref03_flows.l3, if_pos hd4, if_pos h0, if_pos (by rw [tab_len]; exact h1), mks_rd _ _ h0 h1, hm]
  refine begin_ ?_
  by_cases q1 : op pc tn c d = true
  ·rw [q1] at ho
   by_cases q2 : cnn W H pc tn c d = true
   ·have hcn := q2
    unfold cnn at hcn
    simp only [Bool.and_eq_true, decide_eq_true_eq] at hcn
    have hs : stp W H pc tn c d = nb W H c d := by unfold stp; rw [if_pos (by rw [q1, q2]; rfl)]
    have hst := stp_range P c d h0 h1
    rw [hs] at hst
    have hl1 := Aside0.mk (show lkU W H pc tn c (d + 1) = lkU W H pc tn c d by simp only [lkU]; unfold lk1; rw [q1, q2]; simp)
    rw [hl1.out] at IH
    have ho2 := refop_val P hcn.1 hst.2 hd5
    rw [hcn.2] at ho2
    have hm2 : met L (nb W H c d).toNat = true := by
     obtain ⟨e, he1, he2⟩ := met_iff.1 hm
     obtain ⟨e', h1', h2'⟩ := D.all (e.2 ++ [(d : Int)]) (dirs_append.2 ⟨(D.best e he1).dir, dirs_cons.2 ⟨hd3, dirs_nil⟩⟩)
     rw [pth_snoc, (D.best e he1).at_, he2, show ((c.toNat : Nat) : Int) = c from by omega, hs] at h2'
     exact met_iff.2 ⟨e', h1', by omega⟩
    have hset : (mks pc.length L).set (nb W H c d).toNat true = mks pc.length L := by
     rw [tab_set]
     exact tab_same hm2
    refine Ev.step (fun k => ?_) (Ev.bind (refbeside_ev (P.gd h0 h1) hd3) (f := fun k t535 => (if t535 ≥ 0 then (if 0 ≤ t535 then (if t535 < (((trT pc tn)).length : Int) then ((padlockref03_open.f (rd (trT pc tn) t535) (Int.tmod (wrap64 ((d : Int) + 2)) 4)).bind fun t537 => (if t537 = true then (if t535 < ((mks pc.length L).length : Int) then (padlockref03_flows.l3 k pc.length (trT pc tn) ((mks pc.length L).set (t535 : Int).toNat true) (S + lkU W H pc tn c d) x11 c (wrap64 ((d : Int) + 1)) W H pc fr tz) else (none)) else (padlockref03_flows.l3 k pc.length (trT pc tn) (mks pc.length L) (wrap64 (S + lkU W H pc tn c d + 1)) x11 c (wrap64 ((d : Int) + 1)) W H pc fr tz))) else (none)) else (none)) else (padlockref03_flows.l3 k pc.length (trT pc tn) (mks pc.length L) (wrap64 (S + lkU W H pc tn c d + 1)) x11 c (wrap64 ((d : Int) + 1)) W H pc fr tz))) ?_)
    ·rw [padlockref03_flows.j4, if_pos rfl, if_pos h0, if_pos (by rw [tab_len]; exact h1), ho, Option.bind_some, if_pos rfl]
    ·refine Ev.congr (fun k => ?_) IH
     rw [if_pos (by exact hcn.1), if_pos hcn.1, if_pos (by rw [tab_len]; exact hst.2), e2, ho2, Option.bind_some, if_pos rfl, if_pos (by rw [tab_len]; exact hst.2), hset, e1]
   ·have q2' := q2
    rw [Bool.not_eq_true] at q2'
    have hl1 := Aside0.mk (show lkU W H pc tn c (d + 1) = lkU W H pc tn c d + 1 by simp only [lkU]; unfold lk1; rw [q1, q2']; simp)
    rw [hl1.out] at IH
    refine Ev.step (fun k => ?_) (Ev.bind (refbeside_ev (P.gd h0 h1) hd3) (f := fun k t535 => (if t535 ≥ 0 then (if 0 ≤ t535 then (if t535 < (((trT pc tn)).length : Int) then ((padlockref03_open.f (rd (trT pc tn) t535) (Int.tmod (wrap64 ((d : Int) + 2)) 4)).bind fun t537 => (if t537 = true then (if t535 < ((mks pc.length L).length : Int) then (padlockref03_flows.l3 k pc.length (trT pc tn) ((mks pc.length L).set (t535 : Int).toNat true) (S + lkU W H pc tn c d) x11 c (wrap64 ((d : Int) + 1)) W H pc fr tz) else (none)) else (padlockref03_flows.l3 k pc.length (trT pc tn) (mks pc.length L) (wrap64 (S + lkU W H pc tn c d + 1)) x11 c (wrap64 ((d : Int) + 1)) W H pc fr tz))) else (none)) else (none)) else (padlockref03_flows.l3 k pc.length (trT pc tn) (mks pc.length L) (wrap64 (S + lkU W H pc tn c d + 1)) x11 c (wrap64 ((d : Int) + 1)) W H pc fr tz))) ?_)
    ·rw [padlockref03_flows.j4, if_pos rfl, if_pos h0, if_pos (by rw [tab_len]; exact h1), ho, Option.bind_some, if_pos rfl]
    ·refine Ev.congr (fun k => ?_) IH
     by_cases q4 : 0 ≤ nb W H c d
     ·have hnr := nb_range (P.gd h0 h1) q4
      rw [P.wh] at hnr
      have ho2 := refop_val P q4 hnr hd5
      have q5 : op pc tn (nb W H c d) (((d : Int) + 2) % 4) = false := by
       unfold cnn at q2'
       rw [decide_eq_true q4, Bool.true_and] at q2'
       exact q2'
      rw [q5] at ho2
      rw [if_pos (by exact q4), if_pos q4, if_pos (by rw [tab_len]; exact hnr), e2, ho2, Option.bind_some, if_neg (by decide), e1, ew.out]
     ·rw [if_neg (by exact q4), e1, ew.out]
  ·rw [Bool.not_eq_true] at q1
   rw [q1] at ho
   have hl1 := Aside0.mk (show lkU W H pc tn c (d + 1) = lkU W H pc tn c d by simp only [lkU]; unfold lk1; rw [q1]; simp)
   rw [hl1.out] at IH
   refine Ev.step (fun k => ?_) IH
   rw [padlockref03_flows.j4, if_pos rfl, if_pos h0, if_pos (by rw [tab_len]; exact h1), ho, Option.bind_some, if_neg (by decide), e1]
/-- The last round. -/
theorem last_cells (P : Pl W H pc tn fr) {L : List En} (D : Done (stp W H pc tn) fr L) (hr : ∀ e ∈ L, 0 ≤ e.1 ∧ e.1 < (pc.length : Nat)) (tz x11 : Int) (r : List Bool × Int) (e11 : wrap64 (x11 + 1) = x11 + 1)
  (next : Ev (fun k => padlockref03_flows.l1 k pc.length (trT pc tn) (mks pc.length L) (lsum (lk W H pc tn) L) (x11 + 1) W H pc fr tz) r) :
  ∀ (m c : Nat), c + m = pc.length → Ev (fun k => padlockref03_flows.l2 k pc.length (trT pc tn) (mks pc.length L) (sumTo (fun c => if met L c = true then lk W H pc tn c else 0) c) x11 (c : Int) W H pc fr tz) r := by
 have n9 := P.n9
 have hbd : ∀ c : Nat, 0 ≤ sumTo (fun c => if met L c = true then lk W H pc tn c else 0) c ∧ sumTo (fun c => if met L c = true then lk W H pc tn c else 0) c ≤ 4 * c := by
  intro c
  induction c with
  | zero => simp [sumTo]
  | succ c ih =>
   have := lkU_bd W H pc tn c 4
   simp only [sumTo]
   generalize sumTo _ c = S at ih ⊢
   split
   ·unfold lk; generalize lkU W H pc tn c 4 = U at this ⊢; omega
   ·omega
 intro m
 induction m with
 | zero =>
  intro c hc
  obtain rfl : c = pc.length := by omega
  rw [sum_met _ _ _ D.apart hr]
  refine Ev.step (fun k => ?_) next
  rw [padlockref03_flows.l2, if_neg (by omega), e11]
 | succ m ih =>
  intro c hc
  have hb := hbd c
  have IH := ih (c + 1) (by omega)
  simp only [sumTo] at IH
  have ecc : ((c + 1 : Nat) : Int) = (c : Int) + 1 := by omega
  rw [ecc] at IH
  generalize sumTo (fun c => if met L c = true then lk W H pc tn c else 0) c = S at hb IH ⊢
  have go : ∀ r, Ev (fun k => padlockref03_flows.l3 k pc.length (trT pc tn) (mks pc.length L) S x11 c 0 W H pc fr tz) r → Ev (fun k => padlockref03_flows.l2 k pc.length (trT pc tn) (mks pc.length L) S x11 (c : Int) W H pc fr tz) r := fun r hj => by
   refine Ev.step (fun k => ?_) hj
   rw [padlockref03_flows.l2, if_pos (by omega)]
  refine go r ?_
  by_cases q : met L c = true
  ·rw [if_pos q] at IH
   have := last_side P D hr tz x11 r c (by omega) (by omega) S (by omega) (by simpa using q) IH 4 0 rfl
   simp only [lkU, Int.add_zero] at this
   exact this
  ·rw [if_neg q, Int.add_zero] at IH
   refine Ev.step (f := fun k => padlockref03_flows.j4 k pc.length (trT pc tn) (mks pc.length L) S x11 c 0 false W H pc fr tz) (fun k => ?_) (Ev.step (fun k => ?_) IH)
   ·rw [Bool.not_eq_true] at q
    rw [padlockref03_flows.l3, if_pos (by omega), if_pos (by omega), if_pos (by rw [tab_len]; omega), mks_rd _ _ (by omega) (by omega), Int.toNat_natCast, q]
   ·rw [padlockref03_flows.j4, if_neg (by decide), w64 _ (by omega) (by omega)]
/-- All rounds. -/
theorem ref_rounds (P : Pl W H pc tn fr) {L : List En} (D : Done (stp W H pc tn) fr L) (hr : ∀ e ∈ L, 0 ≤ e.1 ∧ e.1 < (pc.length : Nat)) (tz : Int) : ∀ (m s : Nat) (X : Nat → Bool) (y : Int), s + m + 1 = pc.length → Ps (stp W H pc tn) fr pc.length s 0 0 X →
  Ev (fun k => padlockref03_flows.l1 k pc.length (trT pc tn) (tab pc.length X) y (s : Int) W H pc fr tz) (mks pc.length L, lsum (lk W H pc tn) L) := by
 have n9 := P.n9
 intro m
 induction m with
 | zero =>
  intro s X y hs hP
  rw [show tab pc.length X = mks pc.length L from tab_ext fun i hi => hP.full D hr (by omega) i hi]
  have := last_cells P D hr tz s (mks pc.length L, lsum (lk W H pc tn) L) (w64 _ (by omega) (by omega)) (by
   refine Ev.step (f := fun _ => some (mks pc.length L, lsum (lk W H pc tn) L)) (fun k => ?_) (Ev.now _)
   rw [padlockref03_flows.l1, if_neg (by omega)]) pc.length 0 (by omega)
  refine Ev.step (fun k => ?_) this
  rw [padlockref03_flows.l1, if_pos (by omega)]
  rfl
 | succ m ih =>
  intro s X y hs hP
  refine Ev.step (fun k => ?_) (ref_cells P tz s _ s (w64 _ (by omega) (by omega)) (fun X' y' hP' => ih (s + 1) X' y' (by omega) hP') pc.length 0 X 0 (by omega) (by omega) hP)
  rw [padlockref03_flows.l1, if_pos (by omega)]
/-- What the document's flows answer. -/
theorem refflows_ev (P : Pl W H pc tn fr) {L : List En} (D : Done (stp W H pc tn) fr L) (hr : ∀ e ∈ L, 0 ≤ e.1 ∧ e.1 < (pc.length : Nat)) (tz : Int) :
  Ev (fun k => padlockref03_flows.f k W H pc fr tz tn) (mks pc.length L, lsum (lk W H pc tn) L) := by
 have n9 := P.n9
 have f0 := P.f0
 have f1 := P.f1
 have hm : (List.replicate pc.length false).set fr.toNat true = tab pc.length (fun i => decide (i = fr.toNat)) := by
  rw [tab_replicate, tab_set]
  refine tab_ext fun j _ => ?_
  by_cases q : j = fr.toNat
  ·rw [if_pos q, decide_eq_true q]
  ·rw [if_neg q, decide_eq_false q]
 have build : ∀ (m i : Nat), i + m = pc.length → Ev (fun k => padlockref03_flows.l0 k tn pc.length (tab pc.length (fun c => if c < i then trn (rd pc c) (rd tn c) else 0)) (i : Int) W H pc fr tz) (mks pc.length L, lsum (lk W H pc tn) L) := by
  intro m
  induction m with
  | zero =>
   intro i hi
   obtain rfl : i = pc.length := by omega
   rw [show tab pc.length (fun c => if c < pc.length then trn (rd pc c) (rd tn c) else 0) = trT pc tn from tab_ext fun c hc => if_pos hc]
   refine Ev.step (fun k => ?_) (ref_rounds P D hr tz (pc.length - 1) 0 _ 0 (by omega) (Ps.start f0))
   rw [padlockref03_flows.l0, if_neg (by omega), if_pos (by omega), if_pos (by omega), Option.bind_some, if_pos f0, if_pos (by simpa using f1), Int.toNat_natCast, hm]
   rfl
  | succ m ih =>
   intro i hi
   have hset : (tab pc.length (fun c => if c < i then trn (rd pc c) (rd tn c) else 0)).set i (trn (rd pc i) (rd tn i)) = tab pc.length (fun c => if c < i + 1 then trn (rd pc c) (rd tn c) else 0) := by
    rw [tab_set]
    refine tab_ext fun c _ => ?_
    by_cases q : c = i
    ·rw [if_pos q, if_pos (by omega), q]
    ·rw [if_neg q]
     by_cases q2 : c < i
     ·rw [if_pos q2, if_pos (by omega)]
     ·rw [if_neg q2, if_neg (by omega)]
   have hi1 : (i : Int) < (pc.length : Int) := by omega
   refine Ev.step (fun k => ?_) (Ev.bind (turned_ev (P.pr _ (rd_mem (l := pc) (c := i) (by omega) hi1)) (P.tr _ (rd_mem (l := tn) (c := i) (by omega) (by rw [P.tl]; exact hi1)))) (f := fun k t526 => if (i : Int) < ((tab pc.length (fun c => if c < i then trn (rd pc c) (rd tn c) else 0)).length : Int) then (padlockref03_flows.l0 k tn pc.length ((tab pc.length (fun c => if c < i then trn (rd pc c) (rd tn c) else 0)).set ((i : Int)).toNat t526) (wrap64 ((i : Int) + 1)) W H pc fr tz) else none) ?_)
   ·rw [padlockref03_flows.l0, if_pos hi1, if_pos (by omega), if_pos hi1, if_pos (by rw [P.tl]; exact hi1)]
   ·refine Ev.congr (fun k => ?_) (ih (i + 1) (by omega))
    rw [if_pos (by rw [tab_len]; exact hi1), Int.toNat_natCast, hset, w64 _ (by omega) (by omega)]
    rfl
 have h0 := build pc.length 0 (by omega)
 refine Ev.congr (fun k => ?_) h0
 unfold padlockref03_flows.f
 rw [if_pos (by omega), if_pos (by omega), Int.toNat_natCast, tab_replicate]
 rfl
end
/-! The look at pipes. -/
theorem refin_val (a b c : Int) : padlockref03_Within.f a b c = some (inR b c a) := refwithin_val a b c
theorem refpipes_l0 {a0 a1 : Int} {l : List Int} {a3 a4 : Int} (hl : l.length ≤ 9) : ∀ (m i : Nat), i + m = l.length →
  Ev (fun k => padlockref03_CheckPipes.l0 k (i : Int) a0 a1 l a3 a4) (if ((l.drop i).all (inR 0 15) && (inR 0 ((l.length : Int) - 1) a3 && inR 0 ((l.length : Int) - 1) a4)) = true then 0 else 30) := by
 intro m
 induction m with
 | zero =>
  intro i hi
  obtain rfl : i = l.length := by omega
  refine Ev.step (f := fun _ => (padlockref03_Within.f a3 0 ((l.length : Int) - 1)).bind fun t518 => (if t518 = true then ((padlockref03_Within.f a4 0 ((l.length : Int) - 1)).bind fun t519 => (if t519 = true then (some 0) else (some 30))) else (some 30))) (fun k => ?_) (Ev.const ?_)
  ·rw [padlockref03_CheckPipes.l0, if_neg (by omega), w64 _ (by omega) (by omega)]
  ·rw [refin_val, refin_val, Option.bind_some, List.drop_length, List.all_nil, Bool.true_and]
   by_cases q1 : inR 0 ((l.length : Int) - 1) a3 = true
   ·rw [if_pos q1, Option.bind_some, q1, Bool.true_and]
    by_cases q2 : inR 0 ((l.length : Int) - 1) a4 = true
    ·rw [if_pos q2, if_pos q2]
    ·rw [if_neg q2, if_neg q2]
   ·rw [if_neg q1]
    rw [Bool.not_eq_true] at q1
    rw [q1, Bool.false_and, if_neg (by decide)]
 | succ m ih =>
  intro i hi
  have hlt : i < l.length := by omega
  have e1 : wrap64 ((i : Int) + 1) = ((i + 1 : Nat) : Int) := by rw [w64 _ (by omega) (by omega)]; omega
  rw [List.drop_eq_getElem_cons hlt, List.all_cons]
  by_cases q : inR 0 15 l[i] = true
  ·rw [q, Bool.true_and]
   refine Ev.step (fun k => ?_) (ih (i + 1) (by omega))
   rw [padlockref03_CheckPipes.l0, if_pos (by omega), if_pos (by omega), rd_lt l i hlt, refin_val, Option.bind_some, e1]
   exact if_pos q
  ·refine Ev.step (f := fun _ => some 30) (fun k => ?_) (Ev.eq (Ev.now _) ?_)
   ·rw [padlockref03_CheckPipes.l0, if_pos (by omega), if_pos (by omega), rd_lt l i hlt, refin_val, Option.bind_some]
    exact if_neg q
   ·rw [Bool.not_eq_true] at q
    rw [q, Bool.false_and, Bool.false_and, if_neg (by decide)]
theorem checkpipes_ev (a0 a1 : Int) (l : List Int) (a3 a4 : Int) : Ev (fun k => padlockref03_CheckPipes.f k a0 a1 l a3 a4) (if plumbB a0 a1 l a3 a4 = true then 0 else 30) := by
 have j30 : Ev (fun k => padlockref03_CheckPipes.j0 k true a0 a1 l a3 a4) 30 := Ev.step (f := fun _ => some 30) (fun k => by rw [padlockref03_CheckPipes.j0, if_pos rfl]) (Ev.now _)
 unfold plumbB
 by_cases q1 : inR 1 9 a0 = true
 ·by_cases q2 : inR 1 9 a1 = true
  ·rw [q1, q2, Bool.true_and, Bool.true_and]
   have b1 := q1
   have b2 := q2
   unfold inR at b1 b2
   simp only [Bool.and_eq_true, decide_eq_true_eq] at b1 b2
   have g := gd_mul (W := a0) (y := a1) (by omega) (by omega) (by omega) (by omega)
   rw [Int.mul_comm] at g
   have e0 : wrap64 (a0 * a1) = a0 * a1 := w64 _ (by omega) (by omega)
   have head : ∀ {r}, Ev (fun k => if a0 * a1 > 9 then padlockref03_CheckPipes.j0 k true a0 a1 l a3 a4 else padlockref03_CheckPipes.j0 k ((l.length : Int) != a0 * a1) a0 a1 l a3 a4) r → Ev (fun k => padlockref03_CheckPipes.f k a0 a1 l a3 a4) r := fun h => by
    refine Ev.congr (fun k => ?_) h
    unfold padlockref03_CheckPipes.f
    rw [refin_val, Option.bind_some, refin_val, Option.bind_some, e0]
    rw [if_pos q1, if_pos q2]
   refine head ?_
   rw [e0]
   by_cases q3 : a0 * a1 ≤ 9
   ·rw [decide_eq_true q3, Bool.true_and]
    simp only [if_neg (show ¬ a0 * a1 > 9 from by omega)]
    by_cases q4 : (l.length : Int) = a0 * a1
    ·have q5 : ((l.length : Int) == a0 * a1) = true := beq_iff_eq.2 q4
     rw [q5, Bool.true_and]
     have h := refpipes_l0 (a0 := a0) (a1 := a1) (l := l) (a3 := a3) (a4 := a4) (by omega) l.length 0 (by omega)
     rw [List.drop_zero] at h
     refine Ev.step (fun k => ?_) (Ev.eq h ?_)
     ·rw [show ((l.length : Int) != a0 * a1) = false from by rw [q4]; simp, padlockref03_CheckPipes.j0, if_neg (by decide)]
      rfl
     ·unfold cellB
      rw [e0, ← q4, w64 _ (by omega) (by omega), List.all_eq_not_any_not]
      congr 1
      generalize inR 0 ((l.length : Int) - 1) a3 = u
      generalize inR 0 ((l.length : Int) - 1) a4 = v
      generalize (l.any fun x => !inR 0 15 x) = z
      cases u <;> cases v <;> cases z <;> rfl
    ·have q5 : ((l.length : Int) == a0 * a1) = false := beq_eq_false_iff_ne.2 q4
     rw [q5, Bool.false_and, if_neg (by decide)]
     refine Ev.congr (fun k => ?_) j30
     rw [show ((l.length : Int) != a0 * a1) = true from bne_iff_ne.2 q4]
   ·rw [decide_eq_false q3, Bool.false_and, if_neg (by decide)]
    refine Ev.congr (fun k => ?_) j30
    rw [if_pos (by omega)]
  ·refine Ev.eq (Ev.congr (fun k => ?_) j30) ?_
   ·unfold padlockref03_CheckPipes.f
    rw [refin_val, Option.bind_some, refin_val, Option.bind_some]
    rw [if_pos q1, if_neg q2]
   ·rw [Bool.not_eq_true] at q2
    rw [q2, Bool.false_and, Bool.and_false, if_neg (by decide)]
 ·refine Ev.eq (Ev.congr (fun k => ?_) j30) ?_
  ·unfold padlockref03_CheckPipes.f
   rw [refin_val, Option.bind_some]
   rw [if_neg q1]
  ·rw [Bool.not_eq_true] at q1
   rw [q1, Bool.false_and, if_neg (by decide)]

end Go.Proofs.Ytdhiijleafcfcaa.T
