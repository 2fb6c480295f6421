/- The law Through, in plain lists. -/
import Derived.Test.YtdhiijleafcfcaaT0
import Derived.Test.YtdhiijleafcfcaaPMa
import Derived.Test.YtdhiijleafcfcaaTo
import Derived.Test.YtdhiijleafcfcaaTf9
namespace Go.Proofs.Ytdhiijleafcfcaa.T
open Go.RowKit Go.Proofs.YtdhiijleafcfcaaW.PrintWords Go.Proofs.YtdhiijleafcfcaaW.PrintLast Go.Proofs.YtdhiijleafcfcaaW.PrintMore
attribute [local go_sem] max2_int min2_int max_two min_two max_three min_three max_four min_four
set_option linter.unusedVariables false
set_option linter.unusedSimpArgs false

open Mz
theorem thru_has (l : List Int) (n : Int) (hm : l.length ≤ 9223372036854775806) : Ev (fun k => padlocklaw03_has.f k l n) (decide (n ∈ l)) := by
 have key : ∀ (m i : Nat), i + m = l.length → Ev (fun k => padlocklaw03_has.l0 k l n (i : Int)) (decide (n ∈ l.drop i)) := by
  intro m
  induction m with
  | zero =>
   intro i hi
   refine Ev.step (f := fun _ => some false) (fun k => ?_) (Ev.eq (Ev.now _) ?_)
   ·rw [padlocklaw03_has.l0, if_neg (by omega)]
   ·rw [List.drop_of_length_le (by omega)]
    simp
  | succ m ih =>
   intro i hi
   have hlt : i < l.length := by omega
   have e1 : wrap64 ((i : Int) + 1) = ((i + 1 : Nat) : Int) := by rw [w64 _ (by omega) (by omega)]; omega
   rw [List.drop_eq_getElem_cons hlt]
   by_cases q : l[i] = n
   ·refine Ev.step (f := fun _ => some true) (fun k => ?_) (Ev.eq (Ev.now _) (by simp [q]))
    rw [padlocklaw03_has.l0, if_pos (by omega), if_pos (by omega), rd_lt l i hlt, if_pos q]
   ·refine Ev.step (fun k => ?_) (Ev.eq (ih (i + 1) (by omega)) ?_)
    ·rw [padlocklaw03_has.l0, if_pos (by omega), if_pos (by omega), rd_lt l i hlt, if_neg q, e1]
    ·rw [decide_eq_decide, List.mem_cons]
     constructor
     ·exact .inr
     ·rintro (h | h)
      ·exact absurd h.symm q
      ·exact h
 have := key l.length 0 (by omega)
 rw [List.drop_zero] at this
 exact Ev.congr (fun k => rfl) this
theorem not_earlier (a b : List Int) (hl : a.length = b.length) (ha : dirs a) (hb : dirs b) (h : cd 1 b ≤ cd 1 a) (h60 : a.length ≤ 60) : Ev (fun k => padlocklaw03_earlier.f k a b) false := by
 have key : ∀ (m i : Nat), i + m = a.length → a.take i = b.take i → Ev (fun k => padlocklaw03_earlier.l0 k a b (i : Int)) false := by
  intro m
  induction m with
  | zero =>
   intro i hi _
   refine Ev.step (f := fun k => padlocklaw03_earlier.j1 k a b (i : Int) false) (fun k => ?_) (Ev.step (f := fun _ => some false) (fun k => ?_) (Ev.now _))
   ·rw [padlocklaw03_earlier.l0, if_neg (by omega)]
   ·rw [padlocklaw03_earlier.j1, if_neg (by decide)]
  | succ m ih =>
   intro i hi ht
   have hia : i < a.length := by omega
   have hib : i < b.length := by omega
   have e1 : wrap64 ((i : Int) + 1) = ((i + 1 : Nat) : Int) := by rw [w64 _ (by omega) (by omega)]; omega
   refine Ev.step (f := fun k => padlocklaw03_earlier.j1 k a b (i : Int) true) (fun k => by rw [padlocklaw03_earlier.l0, if_pos (by omega), decide_eq_true (by omega)]) ?_
   by_cases q : a[i] = b[i]
   ·refine Ev.step (fun k => ?_) (ih (i + 1) (by omega) (by rw [List.take_succ_eq_append_getElem hia, List.take_succ_eq_append_getElem hib, ht, q]))
    rw [padlocklaw03_earlier.j1, if_pos rfl, if_pos (by omega), if_pos (by omega), if_pos (by omega), rd_lt a i hia, rd_lt b i hib, if_pos q, e1]
   ·have hnl : ¬ a[i] < b[i] := by
     intro hlt
     have ea : a = b.take i ++ a[i] :: a.drop (i + 1) := by rw [← ht, ← List.drop_eq_getElem_cons hia, List.take_append_drop]
     have eb : b = b.take i ++ b[i] :: b.drop (i + 1) := by rw [← List.drop_eq_getElem_cons hib, List.take_append_drop]
     have hda : dirs (a.drop (i + 1)) := fun d hd => ha d (List.mem_of_mem_drop hd)
     have hdb : dirs (b.drop (i + 1)) := fun d hd => hb d (List.mem_of_mem_drop hd)
     have h1 : cd 1 a = cd (4 * cd 1 (b.take i) + a[i]) (a.drop (i + 1)) := by
      conv => lhs; rw [ea]
      rw [cd_append]
      rfl
     have h2 : cd 1 b = cd (4 * cd 1 (b.take i) + b[i]) (b.drop (i + 1)) := by
      conv => lhs; rw [eb]
      rw [cd_append]
      rfl
     have := cd_lt (n := 4 * cd 1 (b.take i) + a[i]) (m := 4 * cd 1 (b.take i) + b[i]) (u := a.drop (i + 1)) (v := b.drop (i + 1)) (by simp [hl]) hda hdb (by omega)
     omega
    refine Ev.step (f := fun _ => some false) (fun k => ?_) (Ev.now _)
    rw [padlocklaw03_earlier.j1, if_pos rfl, if_pos (by omega), if_pos (by omega), if_pos (by omega), rd_lt a i hia, rd_lt b i hib, if_neg q, decide_eq_false hnl]
 exact Ev.congr (fun k => rfl) (key a.length 0 (by omega) rfl)
theorem thru_works : Ev (fun k => (padlocklaw03_works.f k).bind fun t => some t) true := Ev.bind works_ev (Ev.now _)
section
variable {W H : Int} {l : List Bool} {fr z : Int}
/-- The loop over the moves. -/
theorem thru_loop (M : Mv W H l fr z) (hB : mazeB W H l fr z = true) (mv best : List Int) (e : Int) (T : List Int) (hmv : mv.length ≤ 60) (hT : ∀ c, c ∈ T ↔ Rch W H l fr c ∧ ¬ Rch W H l c z) (hTl : T.length ≤ 64)
  (hE : (e = 0 ∧ Best (stM W H l) fr z best ∧ best.length < l.length) ∨ (e = 3 ∧ ¬ Rch W H l fr z)) : ∀ (m i : Nat) (tr : Bool), i + m = mv.length + 1 → (tr = true → ∃ j, j < i ∧ dirs (mv.take j) ∧ pth (stM W H l) fr (mv.take j) ∈ T) → Ev (fun k => padlocklaw03_PuzzlesThrough.l0 k mv best e T tr (i : Int) W H l fr z) true := by
 intro m
 induction m with
 | zero =>
  intro i tr hi _
  refine Ev.step (fun k => ?_) thru_works
  rw [padlocklaw03_PuzzlesThrough.l0, if_neg (by omega)]
 | succ m ih =>
  intro i tr hi htr
  have hroll : Ev (fun k => puzzles_Roll.f k W H l fr z (mv.take i)) (rollR W H l fr (mv.take i)) := ⟨65, fun k hk => roll_all M hB _ k hk⟩
  have n64 := M.n64
  have hli : (mv.take i).length = i := by rw [List.length_take]; omega
  have e1 : wrap64 ((i : Int) + 1) = ((i + 1 : Nat) : Int) := by rw [w64 _ (by omega) (by omega)]; omega
  refine Ev.step (f := fun k => (puzzles_Roll.f k W H l fr z (mv.take i)).bind fun bt435 => (if bt435.2 = 0 then (if bt435.1 < 0 then (padlocklaw03_PuzzlesThrough.j2 k mv best e T tr i bt435.1 true W H l fr z) else (if bt435.1 ≥ (l.length : Int) then (padlocklaw03_PuzzlesThrough.j2 k mv best e T tr i bt435.1 true W H l fr z) else (if 0 ≤ bt435.1 then (if bt435.1 < (l.length : Int) then (padlocklaw03_PuzzlesThrough.j2 k mv best e T tr i bt435.1 (rdOf false l bt435.1) W H l fr z) else (none)) else (none)))) else ((padlocklaw03_works.f k).bind fun t437 => (some t437)))) (fun k => ?_) (Ev.bind hroll ?_)
  ·rw [padlocklaw03_PuzzlesThrough.l0, if_pos (by omega), if_pos (by omega), Int.toNat_natCast]
  ·unfold rollR
   rw [if_neg (by rw [hli]; omega)]
   cases q : (mv.take i).all (inR 0 3) with
   | false =>
    rw [if_neg (show ¬ (false = true) by decide)]
    exact Ev.congr (fun k => if_neg (by decide)) thru_works
   | true =>
    have hd := all_dirs q
    obtain ⟨r0, r1⟩ := pth_range (stM_range M) (mv.take i) fr hd M.f0 M.f1
    have hfree := pth_free (W := W) (H := H) (mv.take i) fr M.ff
    rw [if_pos rfl]
    obtain ⟨c, hc⟩ : ∃ c, pth (stM W H l) fr (mv.take i) = c := ⟨_, rfl⟩
    rw [hc] at r0 r1 hfree ⊢
    have hRc : Rch W H l fr c := ⟨_, hd, hc⟩
    -- the next round
    have next : ∀ tr', (tr' = true → ∃ j, j < i + 1 ∧ dirs (mv.take j) ∧ pth (stM W H l) fr (mv.take j) ∈ T) → Ev (fun k => padlocklaw03_PuzzlesThrough.l0 k mv best e T tr' (wrap64 ((i : Int) + 1)) W H l fr z) true := fun tr' h => by
     rw [e1]
     exact ih (i + 1) tr' (by omega) h
    have j3 : ∀ tr', (tr' = true → ∃ j, j < i + 1 ∧ dirs (mv.take j) ∧ pth (stM W H l) fr (mv.take j) ∈ T) → Ev (fun k => padlocklaw03_PuzzlesThrough.j3 k mv best e T tr' i c W H l fr z) true := fun tr' h => by
     by_cases hcz : c = z
     ·have hno : tr' = false := by
       rw [Bool.eq_false_iff]
       intro ht
       obtain ⟨j, hj, hdj, hTj⟩ := h ht
       refine ((hT _).1 hTj).2 ⟨(mv.take i).drop j, fun d hd' => hd d (List.mem_of_mem_drop hd'), ?_⟩
       have es : mv.take i = mv.take j ++ (mv.take i).drop j := by
        have := List.take_append_drop j (mv.take i)
        rw [List.take_take, Nat.min_eq_left (by omega)] at this
        exact this.symm
       rw [← hcz, ← hc]
       conv => rhs; rw [es]
       rw [pth_append]
      subst hno
      rcases hE with ⟨rfl, hbest, hbl⟩ | ⟨_, hnr⟩
      ·have hle := hbest.least _ hd (hc.trans hcz)
       have hll := cd_len hbest.dir hd hle
       rw [hli] at hll
       by_cases hlen : i = best.length
       ·refine Ev.step (f := fun k => (padlocklaw03_earlier.f k (mv.take i) best).bind fun t441 => (if t441 = true then (some false) else (padlocklaw03_PuzzlesThrough.l0 k mv best 0 T false (wrap64 ((i : Int) + 1)) W H l fr z))) (fun k => ?_) (Ev.bind (not_earlier _ _ (by rw [hli, hlen]) hd hbest.dir hle (by omega)) ?_)
        ·rw [padlocklaw03_PuzzlesThrough.j3, if_pos hcz, if_neg (by decide), if_pos rfl, if_neg (by omega), if_pos (by omega), if_pos (by omega), if_pos (by omega), Int.toNat_natCast]
        ·exact Ev.congr (fun k => if_neg (by decide)) (next false (fun h => by cases h))
       ·refine Ev.step (fun k => ?_) (next false (fun h => by cases h))
        rw [padlocklaw03_PuzzlesThrough.j3, if_pos hcz, if_neg (by decide), if_pos rfl, if_neg (by omega), if_neg (by omega)]
      ·exact absurd (hcz ▸ hRc) hnr
     ·refine Ev.step (fun k => ?_) (next tr' h)
      rw [padlocklaw03_PuzzlesThrough.j3, if_neg hcz]
    refine Ev.congr (fun k => by rw [if_pos rfl, if_neg (by omega), if_neg (by omega), if_pos r0, if_pos r1]) ?_ (f := fun k => padlocklaw03_PuzzlesThrough.j2 k mv best e T tr i c (rdOf false l c) W H l fr z)
    rw [hfree]
    cases tr with
    | true =>
     refine Ev.step (fun k => ?_) (j3 true (fun _ => by obtain ⟨j, a, b⟩ := htr rfl; exact ⟨j, by omega, b⟩))
     rw [padlocklaw03_PuzzlesThrough.j2, if_neg (by decide), if_pos rfl]
    | false =>
     refine Ev.step (f := fun k => (padlocklaw03_has.f k T c).bind fun t439 => (padlocklaw03_PuzzlesThrough.j3 k mv best e T t439 i c W H l fr z)) (fun k => ?_) (Ev.bind (thru_has T c (by omega)) (j3 _ (fun h => ⟨i, by omega, hd, by rw [hc]; simpa using h⟩)))
     rw [padlocklaw03_PuzzlesThrough.j2, if_neg (by decide), if_neg (by decide)]
end
theorem thru_law (a0 a1 : Int) (l : List Bool) (a3 a4 : Int) (mv : List Int) : Ev (fun k => padlocklaw03_PuzzlesThrough.f k a0 a1 l a3 a4 mv) true := by
 by_cases h60 : (mv.length : Int) > 60
 ·refine Ev.congr (fun k => ?_) thru_works
  unfold padlocklaw03_PuzzlesThrough.f
  rw [if_pos h60]
 by_cases hB : mazeB a0 a1 l a3 a4 = true
 ·have M := mazeB_facts hB
  have n64 := M.n64
  obtain ⟨r, hr, hE⟩ := escape_all M hB
  obtain ⟨T, hT1, _, hTl, hT⟩ := traps_all M hB
  have loop : ∀ best e, ((e = 0 ∧ Best (stM a0 a1 l) a3 a4 best ∧ best.length < l.length) ∨ (e = 3 ∧ ¬ Rch a0 a1 l a3 a4)) → Ev (fun k => padlocklaw03_PuzzlesThrough.j0 k mv best e T a0 a1 l a3 a4) true := fun best e h => by
   refine Ev.step (fun k => ?_) (thru_loop M hB mv best e T (by omega) hT hTl h (mv.length + 1) 0 false (by omega) (fun h => by cases h))
   rw [padlocklaw03_PuzzlesThrough.j0]
   rfl
  refine Ev.congr (fun k => ?_) (Ev.bind (g := fun k => puzzles_Escape.f k a0 a1 l a3 a4) (a := r) ⟨65, hr⟩ (f := fun k bt422 => (puzzles_Traps.f k a0 a1 l a3 a4).bind fun bt426 => (if bt426.2 = 0 then (if bt422.2 = 0 then ((puzzles_Roll.f k a0 a1 l a3 a4 bt422.1).bind fun bt431 => (if (bt422.1.length : Int) ≤ 200 then (if bt431.2 = 0 then (if bt431.1 = a4 then (padlocklaw03_PuzzlesThrough.j0 k mv bt422.1 bt422.2 bt426.1 a0 a1 l a3 a4) else (some false)) else (some false)) else (padlocklaw03_PuzzlesThrough.j0 k mv bt422.1 bt422.2 bt426.1 a0 a1 l a3 a4))) else (padlocklaw03_PuzzlesThrough.j0 k mv bt422.1 bt422.2 bt426.1 a0 a1 l a3 a4)) else (if bt422.2 = bt426.2 then ((padlocklaw03_works.f k).bind fun t430 => (some t430)) else (some false)))) (Ev.bind (g := fun k => puzzles_Traps.f k a0 a1 l a3 a4) (a := (T, 0)) ⟨65, hT1⟩ ?_))
  ·unfold padlocklaw03_PuzzlesThrough.f
   rw [if_neg h60]
  ·simp only [if_true]
   rcases hE with ⟨e0, hb, hbl⟩ | ⟨rfl, hn⟩
   ·refine Ev.congr (fun k => if_pos e0) (Ev.bind (g := fun k => puzzles_Roll.f k a0 a1 l a3 a4 r.1) (a := rollR a0 a1 l a3 r.1) ⟨65, fun k hk => roll_all M hB _ k hk⟩ ?_)
    have hall : r.1.all (inR 0 3) = true := List.all_eq_true.2 (fun d hd => by unfold inR; simpa using hb.dir d hd)
    unfold rollR
    rw [if_neg (by omega), if_pos hall, hb.at_]
    refine Ev.congr (fun k => ?_) (loop r.1 r.2 (.inl ⟨e0, hb, hbl⟩))
    rw [if_pos (by omega), if_pos rfl, if_pos rfl]
   ·refine Ev.congr (fun k => if_neg (by decide)) (loop [] 3 (.inr ⟨rfl, hn⟩))
 ·have hE : ∀ k, puzzles_Escape.f k a0 a1 l a3 a4 = some ([], 30) := fun k => by unfold puzzles_Escape.f; rw [if_neg hB]
  have hT : ∀ k, puzzles_Traps.f k a0 a1 l a3 a4 = some ([], 30) := fun k => by unfold puzzles_Traps.f; rw [if_neg hB]
  refine Ev.congr (fun k => ?_) thru_works
  unfold padlocklaw03_PuzzlesThrough.f
  rw [if_neg h60, hE, Option.bind_some, hT, Option.bind_some, if_neg (by decide), if_pos rfl]

end Go.Proofs.Ytdhiijleafcfcaa.T
