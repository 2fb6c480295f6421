/- The theorem of the portraits: the law's own loops. -/
import Derived.Test.YtdhiijleafcfcaaT0
import Derived.Test.YtdhiijleafcfcaaPHb
import Derived.Test.YtdhiijleafcfcaaTf16
namespace Go.Proofs.Ytdhiijleafcfcaa.T
open Go.RowKit Go.Proofs.YtdhiijleafcfcaaW.PrintWords Go.Proofs.YtdhiijleafcfcaaW.PrintLast Go.Proofs.YtdhiijleafcfcaaW.PrintMore
attribute [local go_sem] max2_int min2_int max_two min_two max_three min_three max_four min_four
set_option linter.unusedVariables false
set_option linter.unusedSimpArgs false

/-- What is known of each hanging that is handed out. -/
structure HungO (n : Int) (l : List S76) (o : List (List Int)) : Prop where
 n1 : 1 ≤ n
 n6 : n ≤ 6
 hl : l.length ≤ 20
 hs : ∀ s ∈ l, saidB s n = true
 ho : o.length ≤ 64
 len : ∀ q ∈ o, (q.length : Int) = n
 all : ∀ q ∈ o, ∀ x : Nat, (x : Int) < n → (x : Int) ∈ q
 ok : ∀ q ∈ o, ∀ s ∈ l, holdsB s (plOf n.toNat q) = true
 ord : o.Pairwise ltL
theorem hangO_hung {n : Int} {l : List S76} (h : cpB n l = 0) (m : Nat) (hm : m ≤ 64) : HungO n l ((hangO n l).take m) := by
 obtain ⟨h1, h6, hs, hl⟩ := cpB_ok h
 have e : ((n.toNat : Nat) : Int) = n := Int.toNat_of_nonneg (by omega)
 have hlen : ∀ q ∈ hangO n l, q.length = n.toNat := fun q hq => by
  have := hOuts_mem _ _ _ _ _ hq
  simpa using this
 refine ⟨h1, h6, hl, hs, by rw [List.length_take]; omega, fun q hq => ?_, fun q hq x hx => ?_, fun q hq s hsl => ?_, List.Pairwise.sublist (List.take_sublist _ _) (hOuts_order _ _ _ _)⟩
 ·rw [hlen q (List.mem_of_mem_take hq), e]
 ·exact hung_all (hOuts_hung _ _ _ _ q ⟨by simp, by simp⟩ (List.mem_of_mem_take hq)) (hlen q (List.mem_of_mem_take hq)) x (by omega)
 ·have := hOuts_ok _ _ _ _ q (List.mem_of_mem_take hq)
  unfold okH at this
  cases hq2 : holdsB s (plOf n.toNat q) with
  | true => rfl
  | false =>
   have h2 : (l.any fun s => !holdsB s (plOf n.toNat q)) = true := List.any_eq_true.2 ⟨s, hsl, by rw [hq2]; rfl⟩
   rw [h2] at this
   cases this
section
variable {n : Int} {l : List S76} {o : List (List Int)}
theorem hung_l2 (H : HungO n l o) (i : Nat) (hi : i < o.length) (next : Ev (fun k => padlocklaw03_PuzzlesHung.l0 k n l o ((i + 1 : Nat) : Int)) true) : ∀ (m j : Nat), j + m = l.length → Ev (fun k => padlocklaw03_PuzzlesHung.l2 k n l o (i : Int) (j : Int)) true := by
 have e2 : wrap64 ((i : Int) + 1) = ((i + 1 : Nat) : Int) := by have := H.ho; rw [w64 _ (by omega) (by omega)]; omega
 have hrd : rd_L1 o (i : Int) = o[i] := by unfold rd_L1; rw [Int.toNat_natCast, List.getD_eq_getElem?_getD, List.getElem?_eq_getElem hi, Option.getD_some]
 have e : ((n.toNat : Nat) : Int) = n := Int.toNat_of_nonneg (by have := H.n1; omega)
 intro m
 induction m with
 | zero =>
  intro j hj
  refine Ev.step (f := fun k => padlocklaw03_PuzzlesHung.l0 k n l o ((i + 1 : Nat) : Int)) (fun k => ?_) next
  rw [padlocklaw03_PuzzlesHung.l2, if_neg (by omega), e2]
 | succ m ih =>
  intro j hj
  have hlt : j < l.length := by omega
  have e1 : wrap64 ((j : Int) + 1) = ((j + 1 : Nat) : Int) := by have := H.hl; rw [w64 _ (by omega) (by omega)]; omega
  have hrs : rd_T76 l (j : Int) = l[j] := by unfold rd_T76; rw [Int.toNat_natCast, List.getD_eq_getElem?_getD, List.getElem?_eq_getElem hlt, Option.getD_some]
  have hq := H.len _ (List.getElem_mem hi)
  refine Ev.step (f := fun k => (padlockref03_True.f k l[j].f0 l[j].f1 l[j].f2 l[j].f3 l[j].f4 o[i]).bind fun t => if t = true then padlocklaw03_PuzzlesHung.l2 k n l o (i : Int) ((j + 1 : Nat) : Int) else some false) (fun k => ?_)
   (Ev.bind (true_ev l[j] o[i] n.toNat (by have := H.n1; omega) (by have := H.n6; omega) (by rw [e]; exact H.hs _ (List.getElem_mem hlt))) ?_)
  ·conv => lhs; rw [padlocklaw03_PuzzlesHung.l2, if_pos (by omega), if_pos (by omega), if_pos (by omega), if_pos (by omega), hrs, hrd, e1]
  ·rw [H.ok _ (List.getElem_mem hi) _ (List.getElem_mem hlt)]
   exact Ev.congr (fun k => if_pos rfl) (ih (j + 1) (by omega))
theorem hung_l1 (H : HungO n l o) (i : Nat) (hi : i < o.length) (next : Ev (fun k => padlocklaw03_PuzzlesHung.l2 k n l o (i : Int) ((0 : Nat) : Int)) true) : ∀ (m x : Nat), ((x + m : Nat) : Int) = n → Ev (fun k => padlocklaw03_PuzzlesHung.l1 k n l o (i : Int) (x : Int)) true := by
 have hrd : rd_L1 o (i : Int) = o[i] := by unfold rd_L1; rw [Int.toNat_natCast, List.getD_eq_getElem?_getD, List.getElem?_eq_getElem hi, Option.getD_some]
 intro m
 induction m with
 | zero =>
  intro x hx
  refine Ev.step (f := fun k => padlocklaw03_PuzzlesHung.l2 k n l o (i : Int) ((0 : Nat) : Int)) (fun k => ?_) next
  rw [padlocklaw03_PuzzlesHung.l1, if_neg (by omega)]
  rfl
 | succ m ih =>
  intro x hx
  have e1 : wrap64 ((x : Int) + 1) = ((x + 1 : Nat) : Int) := by have := H.n6; rw [w64 _ (by omega) (by omega)]; omega
  have hq := H.len _ (List.getElem_mem hi)
  refine Ev.step (f := fun k => (padlocklaw03_has.f k o[i] (x : Int)).bind fun t => if t = true then padlocklaw03_PuzzlesHung.l1 k n l o (i : Int) ((x + 1 : Nat) : Int) else some false) (fun k => ?_)
   (Ev.bind (hung_has o[i] (x : Int) (by have := H.n6; omega)) ?_)
  ·conv => lhs; rw [padlocklaw03_PuzzlesHung.l1, if_pos (by omega), if_pos (by omega), if_pos (by omega), hrd, e1]
  ·rw [decide_eq_true (H.all _ (List.getElem_mem hi) x (by omega))]
   exact Ev.congr (fun k => if_pos rfl) (ih (x + 1) (by omega))
theorem hung_l0 (H : HungO n l o) : ∀ (m i : Nat), i + m = o.length → Ev (fun k => padlocklaw03_PuzzlesHung.l0 k n l o (i : Int)) true := by
 intro m
 induction m with
 | zero =>
  intro i hi
  refine Ev.step (f := fun k => (padlocklaw03_works.f k).bind fun t => some t) (fun k => ?_) (Ev.bind works_ev (Ev.now _))
  rw [padlocklaw03_PuzzlesHung.l0, if_neg (by omega)]
 | succ m ih =>
  intro i hi
  have hlt : i < o.length := by omega
  have hrd : rd_L1 o (i : Int) = o[i] := by unfold rd_L1; rw [Int.toNat_natCast, List.getD_eq_getElem?_getD, List.getElem?_eq_getElem hlt, Option.getD_some]
  have hq := H.len _ (List.getElem_mem hlt)
  have hn1 := H.n1
  have hn6 := H.n6
  have h1 := hung_l1 H i hlt (hung_l2 H i hlt (ih (i + 1) (by omega)) l.length 0 (by omega)) n.toNat 0 (by omega)
  have h3 : Ev (fun k => padlocklaw03_PuzzlesHung.j3 k n l o (i : Int) false) true := by
   refine Ev.step (f := fun k => padlocklaw03_PuzzlesHung.l1 k n l o (i : Int) ((0 : Nat) : Int)) (fun k => ?_) h1
   rw [padlocklaw03_PuzzlesHung.j3, if_neg (by decide)]
   rfl
  by_cases hi0 : i = 0
  ·refine Ev.step (f := fun k => padlocklaw03_PuzzlesHung.j3 k n l o (i : Int) false) (fun k => ?_) h3
   rw [padlocklaw03_PuzzlesHung.l0, if_pos (by omega), if_pos (by omega), hrd, if_pos hq, if_neg (by omega)]
  ·have ho := H.ho
   have e1 : wrap64 ((i : Int) - 1) = ((i - 1 : Nat) : Int) := by rw [w64 _ (by omega) (by omega)]; omega
   have hlt' : i - 1 < o.length := by omega
   have hrd' : rd_L1 o ((i - 1 : Nat) : Int) = o[i - 1] := by unfold rd_L1; rw [Int.toNat_natCast, List.getD_eq_getElem?_getD, List.getElem?_eq_getElem hlt', Option.getD_some]
   have hq' := H.len _ (List.getElem_mem hlt')
   have hord : ltL o[i - 1] o[i] := List.pairwise_iff_getElem.1 H.ord (i - 1) i hlt' hlt (by omega)
   refine Ev.step (f := fun k => (padlocklaw03_earlier.f k o[i - 1] o[i]).bind fun t => padlocklaw03_PuzzlesHung.j3 k n l o (i : Int) (!t)) (fun k => ?_) (Ev.bind (hung_earlier hord (by omega)) h3)
   rw [padlocklaw03_PuzzlesHung.l0, if_pos (by omega), if_pos (by omega), hrd, if_pos hq, if_pos (by omega), e1, if_pos (by omega), if_pos (by omega), hrd']
end
theorem saidB_not (f0 f1 f2 f3 : Int) (f4 : Bool) (n : Int) : saidB ⟨f0, f1, f2, f3, !f4⟩ n = saidB ⟨f0, f1, f2, f3, f4⟩ n := rfl
theorem cpB_snoc {n : Int} {l : List S76} {x y : S76} (h : cpB n l = 0) (hx : cpB n [x] = 0) (hy : saidB y n = saidB x n) (hl : l.length < 20) : cpB n (l ++ [y]) = 0 := by
 obtain ⟨h1, h6, hs, _⟩ := cpB_ok h
 have hx2 := (cpB_ok hx).2.2.1 x (by simp)
 unfold cpB
 rw [if_pos (by simp [inR, h1, h6]), if_neg (by simp only [List.length_append, List.length_singleton]; omega), if_neg]
 intro ha
 obtain ⟨s, hsm, hs2⟩ := List.any_eq_true.1 ha
 rcases List.mem_append.1 hsm with hm | hm
 ·rw [hs s hm] at hs2
  cases hs2
 ·rw [List.mem_singleton.1 hm, hy, hx2] at hs2
  cases hs2
theorem hangings_val (k : Nat) {n : Int} {l : List S76} (h : cpB n l = 0) : puzzles_Hangings.f k n l = some (((hangO n l).length : Int), 0) := by
 unfold puzzles_Hangings.f
 rw [if_pos h]
theorem hang_val64 (k : Nat) {n : Int} {l : List S76} (h : cpB n l = 0) : puzzles_Hang.f k n l 64 = some ((hangO n l).take 64, 0) := by
 unfold puzzles_Hang.f
 rw [if_pos h, if_pos (by decide)]
 rfl
theorem hung_j0 (n : Int) (l : List S76) (f0 f1 f2 f3 : Int) (f4 : Bool) (h : cpB n l = 0) (hx : cpB n [⟨f0, f1, f2, f3, f4⟩] = 0) (hl : l.length < 20) : Ev (fun k => padlocklaw03_PuzzlesHung.j0 k n l false f0 f1 f2 f3 f4) true := by
 have hX := cpB_snoc h hx rfl hl
 have hY := cpB_snoc (y := ⟨f0, f1, f2, f3, !f4⟩) h hx (saidB_not f0 f1 f2 f3 f4 n) hl
 have hsp := hang_split n l f0 f1 f2 f3 f4
 have hbd := hangO_len (n := n) (l := l) (cpB_ok h).2.1
 have hw : wrap64 (((hangO n (l ++ [⟨f0, f1, f2, f3, f4⟩])).length : Int) + ((hangO n (l ++ [⟨f0, f1, f2, f3, !f4⟩])).length : Int)) = ((hangO n l).length : Int) := by
  rw [w64 _ (by omega) (by omega)]
  omega
 have hmn : (((((hangO n l).take 64).length : Nat) : Int) != mn ((hangO n l).length : Int) 64) = false := by
  rw [bne_eq_false_iff_eq]
  unfold mn
  rw [List.length_take]
  split <;> omega
 have c1 : ([] : List S76).length + l.length < 3518437208883 := by simp only [List.length_nil]; omega
 have c2 : ∀ x : S76, l.length + ([x] : List S76).length < 3518437208883 := fun x => by simp only [List.length_singleton]; omega
 refine Ev.step (f := fun k => padlocklaw03_PuzzlesHung.j1 k n l ((hangO n l).take 64) false) (fun k => ?_) (Ev.step (f := fun k => padlocklaw03_PuzzlesHung.l0 k n l ((hangO n l).take 64) ((0 : Nat) : Int)) (fun k => ?_) (hung_l0 (hangO_hung h 64 (by omega)) _ 0 (by rw [Nat.zero_add])))
 ·rw [padlocklaw03_PuzzlesHung.j0, if_neg (by decide), hangings_val k h, Option.bind_some, if_pos c1, Option.bind_some, Option.bind_some]
  rw [List.nil_append, if_pos (c2 _), hangings_val k hX, Option.bind_some, Option.bind_some, Option.bind_some, if_pos (c2 _), hangings_val k hY, Option.bind_some, hang_val64 k h, Option.bind_some]
  simp only [if_true, hw, hmn]
 ·rw [padlocklaw03_PuzzlesHung.j1, if_neg (by decide)]
  rfl
theorem hung_law (n : Int) (l : List S76) (f0 f1 f2 f3 : Int) (f4 : Bool) : Ev (fun k => padlocklaw03_PuzzlesHung.f k n l f0 f1 f2 f3 f4) true := by
 unfold padlocklaw03_PuzzlesHung.f
 have triv : Ev (fun k => padlocklaw03_PuzzlesHung.j0 k n l true f0 f1 f2 f3 f4) true := by
  refine Ev.step (f := fun k => (padlocklaw03_works.f k).bind fun t => some t) (fun k => ?_) (Ev.bind works_ev (Ev.now _))
  rw [padlocklaw03_PuzzlesHung.j0, if_pos rfl]
 refine Ev.bind (checkref_ev n l) ?_
 by_cases h : cpB n l = 0
 ·refine Ev.congr (fun k => if_pos h) (Ev.bind (checkref_ev n [⟨f0, f1, f2, f3, f4⟩]) ?_)
  by_cases hx : cpB n [⟨f0, f1, f2, f3, f4⟩] = 0
  ·refine Ev.congr (fun k => if_pos hx) ?_
   by_cases hl : l.length < 20
   ·rw [decide_eq_false (show ¬ (l.length : Int) ≥ 20 by omega)]
    exact hung_j0 n l f0 f1 f2 f3 f4 h hx hl
   ·rw [decide_eq_true (show (l.length : Int) ≥ 20 by omega)]
    exact triv
  ·exact Ev.congr (fun k => if_neg hx) triv
 ·exact Ev.congr (fun k => if_neg h) triv

end Go.Proofs.Ytdhiijleafcfcaa.T
