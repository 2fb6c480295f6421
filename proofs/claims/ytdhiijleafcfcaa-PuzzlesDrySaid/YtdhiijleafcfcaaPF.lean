/- Pipes in plain lists: the cells to which water comes, and how often it leaks. -/
import Derived.Test.YtdhiijleafcfcaaT0
import Derived.Test.YtdhiijleafcfcaaPg
import Derived.Test.YtdhiijleafcfcaaNp
import Derived.Test.YtdhiijleafcfcaaTp
import Derived.Test.YtdhiijleafcfcaaTpt
namespace Go.Proofs.Ytdhiijleafcfcaa.T
open Go.RowKit Go.Proofs.YtdhiijleafcfcaaW.PrintWords Go.Proofs.YtdhiijleafcfcaaW.PrintLast Go.Proofs.YtdhiijleafcfcaaW.PrintMore
attribute [local go_sem] max2_int min2_int max_two min_two max_three min_three max_four min_four
set_option linter.unusedVariables false
set_option linter.unusedSimpArgs false

open Mz
/-- Is a piece that is turned open to a side? -/
def opn (p t s : Int) : Bool := (Go.bits .and .i64 (shr .i64 p (Int.tmod (wrap64 ((wrap64 (s - t)) + 4)) 4)) 1) == 1
def trn (p t : Int) : Int := (padlockref03_turned.f 5 p t).getD 0
theorem turned_all : ∀ p : Fin 16, ∀ t : Fin 4, padlockref03_turned.f 5 ((p.val : Nat) : Int) ((t.val : Nat) : Int) = some (trn ((p.val : Nat) : Int) ((t.val : Nat) : Int)) ∧
  ∀ s : Fin 4, padlockref03_open.f (trn ((p.val : Nat) : Int) ((t.val : Nat) : Int)) ((s.val : Nat) : Int) = some (opn ((p.val : Nat) : Int) ((t.val : Nat) : Int) ((s.val : Nat) : Int)) := by decide +kernel
theorem turned_ev {p t : Int} (hp : 0 ≤ p ∧ p ≤ 15) (ht : 0 ≤ t ∧ t ≤ 3) : Ev (fun k => padlockref03_turned.f k p t) (trn p t) := by
 have h := (turned_all ⟨p.toNat, by omega⟩ ⟨t.toNat, by omega⟩).1
 simp only [show ((p.toNat : Nat) : Int) = p from by omega, show ((t.toNat : Nat) : Int) = t from by omega] at h
 exact Ev.of (fun k => padlockref03_turned.mono p t k) h
theorem refopen_val {p t s : Int} (hp : 0 ≤ p ∧ p ≤ 15) (ht : 0 ≤ t ∧ t ≤ 3) (hs : 0 ≤ s ∧ s ≤ 3) : padlockref03_open.f (trn p t) s = some (opn p t s) := by
 have h := (turned_all ⟨p.toNat, by omega⟩ ⟨t.toNat, by omega⟩).2 ⟨s.toNat, by omega⟩
 simpa only [show ((p.toNat : Nat) : Int) = p from by omega, show ((t.toNat : Nat) : Int) = t from by omega, show ((s.toNat : Nat) : Int) = s from by omega] using h
/-- Valid pipes and turns. -/
structure Pl (W H : Int) (pc tn : List Int) (fr : Int) : Prop where
 w1 : 1 ≤ W
 w2 : W ≤ 9
 h1 : 1 ≤ H
 h2 : H ≤ 9
 wh : W * H = pc.length
 n9 : pc.length ≤ 9
 tl : tn.length = pc.length
 pr : ∀ x ∈ pc, 0 ≤ x ∧ x ≤ 15
 tr : ∀ x ∈ tn, 0 ≤ x ∧ x ≤ 3
 f0 : 0 ≤ fr
 f1 : fr < pc.length
section
variable {W H : Int} {pc tn : List Int} {fr : Int}
theorem Pl.gd (P : Pl W H pc tn fr) {c : Int} (h0 : 0 ≤ c) (h1 : c < pc.length) : Gd W H c := ⟨P.w1, by have := P.w2; omega, P.h1, by have := P.h2; omega, h0, by rw [P.wh]; exact h1⟩
theorem rd_mem {l : List Int} {c : Int} (h0 : 0 ≤ c) (h1 : c < l.length) : rd l c ∈ l := by
 obtain ⟨i, rfl⟩ : ∃ i : Nat, c = i := ⟨c.toNat, by omega⟩
 rw [rd_lt l i (by omega)]
 exact List.getElem_mem _
def op (pc tn : List Int) (c s : Int) : Bool := opn (rd pc c) (rd tn c) s
theorem open_val (P : Pl W H pc tn fr) (x0 x1 x2 x3 x5 x6 : Int) {c s : Int} (h0 : 0 ≤ c) (h1 : c < pc.length) (hs : 0 ≤ s ∧ s ≤ 3) : puzzles_plumbing_open.f x0 x1 x2 x3 pc x5 x6 c (rd tn c) s = some (op pc tn c s) := by
 have ht := P.tr _ (rd_mem (l := tn) h0 (by have := P.tl; omega))
 unfold puzzles_plumbing_open.f op opn
 rw [if_pos h0, if_pos h1, if_pos]
 rw [w64 (s - rd tn c) (by omega) (by omega), w64 _ (by omega) (by omega), Int.tmod_eq_emod_of_nonneg (by omega)]
 omega
def cnn (W H : Int) (pc tn : List Int) (c s : Int) : Bool := decide (0 ≤ nb W H c s) && op pc tn (nb W H c s) ((s + 2) % 4)
def stp (W H : Int) (pc tn : List Int) (c s : Int) : Int := if (op pc tn c s && cnn W H pc tn c s) = true then nb W H c s else c
def lk1 (W H : Int) (pc tn : List Int) (c s : Int) : Int := if (op pc tn c s && !cnn W H pc tn c s) = true then 1 else 0
def lkU (W H : Int) (pc tn : List Int) (c : Int) : Nat → Int
 | 0 => 0
 | d + 1 => lkU W H pc tn c d + lk1 W H pc tn c d
theorem lk1_bd (W H : Int) (pc tn : List Int) (c s : Int) : 0 ≤ lk1 W H pc tn c s ∧ lk1 W H pc tn c s ≤ 1 := by unfold lk1; split <;> omega
theorem lkU_bd (W H : Int) (pc tn : List Int) (c : Int) : ∀ d, 0 ≤ lkU W H pc tn c d ∧ lkU W H pc tn c d ≤ d
 | 0 => by simp [lkU]
 | d + 1 => by have := lkU_bd W H pc tn c d; have := lk1_bd W H pc tn c d; simp only [lkU]; omega
def lsum (f : Int → Int) : List En → Int
 | [] => 0
 | e :: t => f e.1 + lsum f t
theorem lsum_append (f : Int → Int) : ∀ a b : List En, lsum f (a ++ b) = lsum f a + lsum f b
 | [], b => by simp [lsum]
 | x :: t, b => by simp only [List.cons_append, lsum, lsum_append f t b]; omega
theorem lsum_bd (f : Int → Int) (h : ∀ c, 0 ≤ f c ∧ f c ≤ 4) : ∀ l : List En, 0 ≤ lsum f l ∧ lsum f l ≤ 4 * l.length
 | [] => by simp [lsum]
 | x :: t => by have := lsum_bd f h t; have := h x.1; simp only [lsum, List.length_cons]; omega
abbrev lk (W H : Int) (pc tn : List Int) (c : Int) : Int := lkU W H pc tn c 4
theorem stp_range (P : Pl W H pc tn fr) (c d : Int) (h0 : 0 ≤ c) (h1 : c < (pc.length : Nat)) : 0 ≤ stp W H pc tn c d ∧ stp W H pc tn c d < (pc.length : Nat) := by
 unfold stp
 split
 ·rename_i h
  rw [Bool.and_eq_true] at h
  unfold cnn at h
  simp only [Bool.and_eq_true, decide_eq_true_eq] at h
  have := nb_range (P.gd h0 h1) h.2.1
  rw [P.wh] at this
  exact ⟨h.2.1, this⟩
 ·exact ⟨h0, h1⟩
abbrev mks (n : Nat) (L : List En) : List Bool := tab n (met L)
theorem mks_rd (n : Nat) (f : Nat → Bool) {c : Int} (h0 : 0 ≤ c) (h1 : c < n) : rdOf false (tab n f) c = f c.toNat := tab_get n f c.toNat (by omega) false
def que (L : List En) (i : Nat) : List Int := (L.drop i).map (·.1)
/-- What the search's end says. -/
def Fin_ (W H : Int) (pc tn : List Int) (fr : Int) (r : List Bool × Int) : Prop :=
 ∃ L, Done (stp W H pc tn) fr L ∧ (∀ e ∈ L, 0 ≤ e.1 ∧ e.1 < (pc.length : Nat)) ∧ r = (mks pc.length L, lsum (lk W H pc tn) L)
theorem flow_side (P : Pl W H pc tn fr) (x0 x1 : Int) (x5 x6 : Int) (i : Nat) (x : En) : ∀ (d s : Nat) (L : List En), s + d = 4 → Srch (stp W H pc tn) fr L i s → (∀ e ∈ L, 0 ≤ e.1 ∧ e.1 < (pc.length : Nat)) → L[i]? = some x →
  (∀ L', Srch (stp W H pc tn) fr L' i 4 → (∀ e ∈ L', 0 ≤ e.1 ∧ e.1 < (pc.length : Nat)) → L'[i]? = some x →
   ∃ r, Ev (fun k => puzzles_plumbing_flows.l1 k tn (mks pc.length L') (lsum (lk W H pc tn) (L'.take i) + lkU W H pc tn x.1 4) (que L' i) x.1 4 W H x0 x1 pc x5 x6) r ∧ Fin_ W H pc tn fr r) →
  ∃ r, Ev (fun k => puzzles_plumbing_flows.l1 k tn (mks pc.length L) (lsum (lk W H pc tn) (L.take i) + lkU W H pc tn x.1 s) (que L i) x.1 (s : Int) W H x0 x1 pc x5 x6) r ∧ Fin_ W H pc tn fr r := by
 intro d
 induction d with
 | zero =>
  intro s L hs hS hr hx next
  obtain rfl : s = 4 := by omega
  exact next L hS hr hx
 | succ d ih =>
  intro s L hs hS hr hx next
  have hxr := hr x (List.mem_of_getElem? hx)
  have hll := apart_le hS.apart hr
  have n9 := P.n9
  have hil : i < L.length := (List.getElem?_eq_some_iff.1 hx).1
  have hs03 : 0 ≤ (s : Int) ∧ (s : Int) ≤ 3 := by omega
  have hs04 : (0 : Int) ≤ ((s : Int) + 2) % 4 ∧ ((s : Int) + 2) % 4 ≤ 3 := by omega
  have hs05 : (s : Int) < 4 := by omega
  have e1 : wrap64 ((s : Int) + 1) = ((s + 1 : Nat) : Int) := by rw [w64 _ (by omega) (by omega)]; omega
  have e2 : Int.tmod (wrap64 ((s : Int) + 2)) 4 = ((s : Int) + 2) % 4 := by rw [w64 _ (by omega) (by omega), Int.tmod_eq_emod_of_nonneg (by omega)]
  have htl : x.1 < (tn.length : Int) := by rw [P.tl]; exact hxr.2
  obtain ⟨z, hz1, hz2⟩ := beside_val (P.gd hxr.1 hxr.2) (s := s) hs03
  have ho := open_val P W H x0 x1 x5 x6 hxr.1 hxr.2 (s := s) hs03
  by_cases q1 : op pc tn x.1 s = true
  ·by_cases q2 : cnn W H pc tn x.1 s = true
   ·have hcn := q2
    unfold cnn at hcn
    simp only [Bool.and_eq_true, decide_eq_true_eq] at hcn
    have hst : stp W H pc tn x.1 s = nb W H x.1 s := by unfold stp; rw [if_pos (by rw [q1, q2]; rfl)]
    have hl1 := Aside0.mk (show lkU W H pc tn x.1 (s + 1) = lkU W H pc tn x.1 s by simp only [lkU]; unfold lk1; rw [q1, q2]; simp)
    have hnr := nb_range (P.gd hxr.1 hxr.2) hcn.1
    rw [P.wh] at hnr
    have ho2 := open_val P W H x0 x1 x5 x6 hcn.1 hnr (s := (s + 2) % 4) hs04
    rw [hcn.2] at ho2
    by_cases q3 : met L (nb W H x.1 s).toNat = true
    ·obtain ⟨e, he1, he2⟩ := met_iff.1 q3
     have hS' := hS.known hx ⟨e, he1, by rw [hst, he2]; omega⟩
     obtain ⟨r, hr1, hr2⟩ := ih (s + 1) L (by omega) hS' hr hx next
     refine ⟨r, ?_, hr2⟩
     rw [hl1.out] at hr1
     refine Ev.step (f := fun k => puzzles_plumbing_flows.j2 k tn (mks pc.length L) (lsum (lk W H pc tn) (L.take i) + lkU W H pc tn x.1 s) (que L i) x.1 (nb W H x.1 s) (s : Int) false W H x0 x1 pc x5 x6) (fun k => ?_) (Ev.step (fun k => ?_) hr1)
     ·rw [puzzles_plumbing_flows.l1, if_pos hs05, if_pos hxr.1, if_pos htl, ho, Option.bind_some, if_pos q1, hz1, Option.bind_some, if_pos (by exact decide_eq_true hcn.1)]
      simp only [hz2 hcn.1]
      rw [if_pos hcn.1, if_pos (by rw [P.tl]; exact hnr), e2, ho2, Option.bind_some]
      rfl
     ·rw [puzzles_plumbing_flows.j2, if_neg (by decide), if_pos hcn.1, if_pos (by rw [tab_len]; exact hnr), mks_rd _ _ hcn.1 hnr, if_pos q3, e1]
    ·have hno : ¬ ∃ e ∈ L, e.1 = stp W H pc tn x.1 s := fun ⟨e, h1, h2⟩ => q3 (met_iff.2 ⟨e, h1, by rw [h2, hst]; omega⟩)
     have hS' := hS.fresh hx (by omega) (by omega) hno
     rw [hst] at hS'
     have hrr : ∀ e ∈ L ++ [(nb W H x.1 s, x.2 ++ [(s : Int)])], 0 ≤ e.1 ∧ e.1 < (pc.length : Nat) := fun e he => by
      rcases List.mem_append.1 he with he | he
      ·exact hr e he
      ·simp only [List.mem_singleton] at he; subst he; exact ⟨hcn.1, hnr⟩
     obtain ⟨r, hr1, hr2⟩ := ih (s + 1) (L ++ [(nb W H x.1 s, x.2 ++ [(s : Int)])]) (by omega) hS' hrr (by rw [List.getElem?_append_left hil]; exact hx) next
     refine ⟨r, ?_, hr2⟩
     have hm : (mks pc.length L).set (nb W H x.1 s).toNat true = mks pc.length (L ++ [(nb W H x.1 s, x.2 ++ [(s : Int)])]) := by
      rw [tab_set]
      exact tab_ext fun j _ => (met_snoc L (nb W H x.1 s, x.2 ++ [(s : Int)]) j hcn.1).symm
     have hq : que L i ++ [nb W H x.1 s] = que (L ++ [(nb W H x.1 s, x.2 ++ [(s : Int)])]) i := by
      unfold que
      rw [List.drop_append_of_le_length (by omega), List.map_append]
      rfl
     have hql : (que L i).length < 17592186044416 := by unfold que; rw [List.length_map, List.length_drop]; omega
     rw [hl1.out, List.take_append_of_le_length (by omega)] at hr1
     refine Ev.step (f := fun k => puzzles_plumbing_flows.j2 k tn (mks pc.length L) (lsum (lk W H pc tn) (L.take i) + lkU W H pc tn x.1 s) (que L i) x.1 (nb W H x.1 s) (s : Int) false W H x0 x1 pc x5 x6) (fun k => ?_) (Ev.step (fun k => ?_) hr1)
     ·rw [puzzles_plumbing_flows.l1, if_pos hs05, if_pos hxr.1, if_pos htl, ho, Option.bind_some, if_pos q1, hz1, Option.bind_some, if_pos (by exact decide_eq_true hcn.1)]
      simp only [hz2 hcn.1]
      rw [if_pos hcn.1, if_pos (by rw [P.tl]; exact hnr), e2, ho2, Option.bind_some]
      rfl
     ·rw [puzzles_plumbing_flows.j2, if_neg (by decide), if_pos hcn.1, if_pos (by rw [tab_len]; exact hnr), mks_rd _ _ hcn.1 hnr, if_neg q3, if_pos hql, e1, hm, hq]
   ·have hst : stp W H pc tn x.1 s = x.1 := by unfold stp; rw [if_neg (by rw [q1, Bool.true_and]; exact q2)]
    rw [Bool.not_eq_true] at q2
    have hl1 := Aside0.mk (show lkU W H pc tn x.1 (s + 1) = lkU W H pc tn x.1 s + 1 by simp only [lkU]; unfold lk1; rw [q1, q2]; simp)
    have hS' := hS.known hx ⟨x, List.mem_of_getElem? hx, hst.symm⟩
    obtain ⟨r, hr1, hr2⟩ := ih (s + 1) L (by omega) hS' hr hx next
    refine ⟨r, ?_, hr2⟩
    have ew := Aside0.mk (show wrap64 (lsum (lk W H pc tn) (L.take i) + lkU W H pc tn x.1 s + 1) = lsum (lk W H pc tn) (L.take i) + (lkU W H pc tn x.1 s + 1) by
     have hbd := lsum_bd (lk W H pc tn) (fun c => lkU_bd W H pc tn c 4) (L.take i)
     have hbd2 := lkU_bd W H pc tn x.1 s
     rw [List.length_take] at hbd
     generalize lsum (lk W H pc tn) (L.take i) = S at hbd ⊢
     generalize lkU W H pc tn x.1 s = U at hbd2 ⊢
     rw [w64 _ (by omega) (by omega)]; omega)
    rw [hl1.out] at hr1
    have fin : ∀ y : Int, Ev (fun k => puzzles_plumbing_flows.j2 k tn (mks pc.length L) (lsum (lk W H pc tn) (L.take i) + lkU W H pc tn x.1 s) (que L i) x.1 y (s : Int) true W H x0 x1 pc x5 x6) r := fun y => by
     refine Ev.step (fun k => ?_) hr1
     rw [puzzles_plumbing_flows.j2, if_pos rfl, ew.out, e1]
    by_cases q4 : 0 ≤ nb W H x.1 s
    ·have hnr := nb_range (P.gd hxr.1 hxr.2) q4
     rw [P.wh] at hnr
     have ho2 := open_val P W H x0 x1 x5 x6 q4 hnr (s := (s + 2) % 4) hs04
     have q5 : op pc tn (nb W H x.1 s) (((s : Int) + 2) % 4) = false := by
      unfold cnn at q2
      rw [decide_eq_true q4, Bool.true_and] at q2
      exact q2
     rw [q5] at ho2
     refine Ev.step (fun k => ?_) (fin (nb W H x.1 s))
     rw [puzzles_plumbing_flows.l1, if_pos hs05, if_pos hxr.1, if_pos htl, ho, Option.bind_some, if_pos q1, hz1, Option.bind_some, if_pos (by exact decide_eq_true q4)]
     simp only [hz2 q4]
     rw [if_pos q4, if_pos (by rw [P.tl]; exact hnr), e2, ho2, Option.bind_some]
     rfl
    ·refine Ev.step (fun k => ?_) (fin z)
     rw [puzzles_plumbing_flows.l1, if_pos hs05, if_pos hxr.1, if_pos htl, ho, Option.bind_some, if_pos q1, hz1, Option.bind_some, if_neg (by simpa using q4)]
  ·have hst : stp W H pc tn x.1 s = x.1 := by unfold stp; rw [Bool.not_eq_true] at q1; rw [q1, Bool.false_and, if_neg (by decide)]
   have hl1 := Aside0.mk (show lkU W H pc tn x.1 (s + 1) = lkU W H pc tn x.1 s by simp only [lkU]; unfold lk1; rw [Bool.not_eq_true] at q1; rw [q1]; simp)
   have hS' := hS.known hx ⟨x, List.mem_of_getElem? hx, hst.symm⟩
   obtain ⟨r, hr1, hr2⟩ := ih (s + 1) L (by omega) hS' hr hx next
   refine ⟨r, ?_, hr2⟩
   rw [hl1.out] at hr1
   refine Ev.step (fun k => ?_) hr1
   rw [puzzles_plumbing_flows.l1, if_pos hs05, if_pos hxr.1, if_pos htl, ho, Option.bind_some, if_neg q1, e1]
theorem flow_out (P : Pl W H pc tn fr) (x0 x1 x5 x6 : Int) : ∀ (m i : Nat) (L : List En), m + i = pc.length → Srch (stp W H pc tn) fr L i 0 → (∀ e ∈ L, 0 ≤ e.1 ∧ e.1 < (pc.length : Nat)) → i ≤ L.length →
  ∃ r, Ev (fun k => puzzles_plumbing_flows.l0 k tn (mks pc.length L) (lsum (lk W H pc tn) (L.take i)) (que L i) W H x0 x1 pc x5 x6) r ∧ Fin_ W H pc tn fr r := by
 intro m
 induction m with
 | zero =>
  intro i L hm hS hr hi
  have hll := apart_le hS.apart hr
  obtain rfl : i = L.length := by omega
  refine ⟨(mks pc.length L, lsum (lk W H pc tn) L), ?_, L, hS.done, hr, rfl⟩
  refine Ev.step (f := fun _ => some (mks pc.length L, lsum (lk W H pc tn) L)) (fun k => ?_) (Ev.now _)
  rw [puzzles_plumbing_flows.l0, if_neg (by simp [que]), List.take_length]
 | succ m ih =>
  intro i L hm hS hr hi
  have hll := apart_le hS.apart hr
  by_cases hlt : i < L.length
  ·have hx : L[i]? = some L[i] := List.getElem?_eq_getElem hlt
   obtain ⟨x, hxe⟩ : ∃ x, L[i] = x := ⟨_, rfl⟩
   rw [hxe] at hx
   have hq : que L i = x.1 :: que L (i + 1) := by
    unfold que
    rw [List.drop_eq_getElem_cons hlt, hxe]
    rfl
   obtain ⟨r, h1, h2⟩ := flow_side P x0 x1 x5 x6 i x 4 0 L rfl hS hr hx (fun L' hS' hr' hx' => by
    have hlt' : i < L'.length := (List.getElem?_eq_some_iff.1 hx').1
    have hxe' : L'[i] = x := (List.getElem?_eq_some_iff.1 hx').2
    obtain ⟨r, h1, h2⟩ := ih (i + 1) L' (by omega) (hS'.next hlt') hr' (by omega)
    refine ⟨r, ?_, h2⟩
    rw [List.take_succ_eq_append_getElem hlt', lsum_append, hxe'] at h1
    simp only [lsum, Int.add_zero] at h1
    refine Ev.step (fun k => ?_) h1
    have hq' : que L' i = x.1 :: que L' (i + 1) := by
     unfold que
     rw [List.drop_eq_getElem_cons hlt', hxe']
     rfl
    rw [puzzles_plumbing_flows.l1, if_neg (by omega), hq', if_pos (by simp; omega), show ((1 : Int).toNat) = 1 from rfl, List.drop_succ_cons, List.drop_zero])
   refine ⟨r, ?_, h2⟩
   simp only [lkU, Int.add_zero] at h1
   refine Ev.step (fun k => ?_) h1
   rw [puzzles_plumbing_flows.l0, if_pos (by rw [hq]; simp), if_pos (by rw [hq]; simp), show rd (que L i) 0 = x.1 from by rw [hq]; rfl]
   rfl
  ·obtain rfl : i = L.length := by omega
   refine ⟨(mks pc.length L, lsum (lk W H pc tn) L), ?_, L, hS.done, hr, rfl⟩
   refine Ev.step (f := fun _ => some (mks pc.length L, lsum (lk W H pc tn) L)) (fun k => ?_) (Ev.now _)
   rw [puzzles_plumbing_flows.l0, if_neg (by simp [que]), List.take_length]
/-- What the program's flows answer. -/
theorem flows_ev (P : Pl W H pc tn fr) (x0 x1 x6 : Int) : ∃ r, Ev (fun k => puzzles_plumbing_flows.f k W H x0 x1 pc fr x6 tn) r ∧ Fin_ W H pc tn fr r := by
 have n9 := P.n9
 have f0 := P.f0
 have f1 := P.f1
 obtain ⟨r, h1, h2⟩ := flow_out P x0 x1 fr x6 pc.length 0 [(fr, [])] (by omega) (Srch.start _ _) (fun e he => by simp only [List.mem_singleton] at he; subst he; exact ⟨f0, f1⟩) (by omega)
 refine ⟨r, Ev.congr (fun k => ?_) h1, h2⟩
 have hm : (List.replicate pc.length false).set fr.toNat true = mks pc.length [(fr, [])] := by
  rw [tab_replicate, tab_set]
  refine tab_ext fun j _ => ?_
  have := met_snoc [] (fr, []) j f0
  rw [List.nil_append] at this
  rw [this]
  rfl
 unfold puzzles_plumbing_flows.f
 rw [if_pos (by omega), if_pos (by omega), Option.bind_some, if_pos f0, if_pos (by simpa using f1), Int.toNat_natCast, hm]
 rfl
end
/-! Valid pipes. -/
theorem plumbB_facts {a0 a1 : Int} {l : List Int} {a3 a4 : Int} (h : plumbB a0 a1 l a3 a4 = true) :
  1 ≤ a0 ∧ a0 ≤ 9 ∧ 1 ≤ a1 ∧ a1 ≤ 9 ∧ a0 * a1 = l.length ∧ l.length ≤ 9 ∧ (0 ≤ a3 ∧ a3 < l.length) ∧ (0 ≤ a4 ∧ a4 < l.length) ∧ ∀ x ∈ l, 0 ≤ x ∧ x ≤ 15 := by
 unfold plumbB cellB inR at h
 simp only [Bool.and_eq_true, decide_eq_true_eq, beq_iff_eq, Bool.not_eq_true', List.any_eq_false, Bool.not_eq_true, Bool.not_eq_false', Bool.not_eq_eq_eq_not, Bool.not_true, Bool.not_false] at h
 obtain ⟨⟨p1, p2⟩, ⟨p3, p4⟩, p5, p6, ⟨p7, p8⟩, ⟨p9, p10⟩, p11⟩ := h
 have g := gd_mul (W := a0) (y := a1) (by omega) (by omega) (by omega) (by omega)
 rw [Int.mul_comm] at g
 rw [w64 (a0 * a1) (by omega) (by omega)] at p5 p6 p8 p10
 rw [w64 _ (by omega) (by omega)] at p8 p10
 refine ⟨p1, p2, p3, p4, p6.symm, by omega, ⟨p7, by omega⟩, ⟨p9, by omega⟩, fun x hx => by simpa using p11 x hx⟩
/-- Valid turns of valid pipes. -/
theorem pl_of {a0 a1 : Int} {l tn : List Int} {a3 a4 : Int} (h : plumbB a0 a1 l a3 a4 = true) (ht : tn.length = l.length) (hv : ∀ x ∈ tn, 0 ≤ x ∧ x ≤ 3) : Pl a0 a1 l tn a3 := by
 obtain ⟨p1, p2, p3, p4, p5, p6, p7, p8, p9⟩ := plumbB_facts h
 exact ⟨p1, p2, p3, p4, p5, p6, ht, p9, hv, p7.1, p7.2⟩

end Go.Proofs.Ytdhiijleafcfcaa.T
