/- Sheets in plain lists: See and Find, on both sides. -/
import Derived.Test.YtdhiijleafcfcaaT0
import Derived.Test.YtdhiijleafcfcaaPSc
import Derived.Test.YtdhiijleafcfcaaTsg
import Derived.Test.YtdhiijleafcfcaaTsf
import Derived.Test.YtdhiijleafcfcaaTf13
namespace Go.Proofs.Ytdhiijleafcfcaa.T
open Go.RowKit Go.Proofs.YtdhiijleafcfcaaW.PrintWords Go.Proofs.YtdhiijleafcfcaaW.PrintLast Go.Proofs.YtdhiijleafcfcaaW.PrintMore
attribute [local go_sem] max2_int min2_int max_two min_two max_three min_three max_four min_four
set_option linter.unusedVariables false
set_option linter.unusedSimpArgs false

theorem See_l0 {l : List ByteArray} (Q : OkSh l) (t x y : Int) (ht : t ≤ 3) (hx : -8 ≤ x ∧ x ≤ 8) (hy : -8 ≤ y ∧ y ≤ 8) : ∀ (m : Nat) (i : Int) (u : List ByteArray), OkSh u → i + m = t → 0 ≤ i → Ev (fun k => puzzles_See.l0 k u l t i t x y) (strOfNums (seenT (turnN m u) l x y), 0) := by
 intro m
 induction m with
 | zero =>
  intro i u O hi h0
  refine Ev.step (f := fun _ => some (strOfNums (seenT u l x y), 0)) (fun k => ?_) (Ev.now _)
  rw [puzzles_See.l0, if_neg (by omega), see_val O Q hx hy, Option.bind_some]
 | succ m ih =>
  intro i u O hi h0
  refine Ev.step (fun k => by rw [puzzles_See.l0, if_pos (by omega)]) (Ev.bind (turned_ev O) ?_)
  rw [w64 _ (by omega) (by omega)]
  exact ih (i + 1) (turnT u) (turn_ok O) (by omega) (by omega)
theorem both_in (a b c : Int) : ∃ d, puzzles_within.f a b c = some d ∧ padlockref03_Within.f a b c = some d ∧ (d = true → b ≤ a ∧ a ≤ c) := ⟨_, within_val a b c, refwithin_val a b c, fun h => by simpa using h⟩
theorem See_both (u l : List ByteArray) (t x y : Int) : ∃ r, Ev (fun k => puzzles_See.f k u l t x y) r ∧ Ev (fun k => padlockref03_See.f k u l t x y) r := by
 have p30 : Ev (fun k => puzzles_See.j0 k u l true t x y) ((⟨#[]⟩ : ByteArray), 30) := Ev.step (f := fun _ => some (⟨#[]⟩, 30)) (fun k => by rw [puzzles_See.j0, if_pos rfl]) (Ev.now _)
 have p1 : Ev (fun k => puzzles_See.j1 k u l true t x y) ((⟨#[]⟩ : ByteArray), 1) := Ev.step (f := fun _ => some (⟨#[]⟩, 1)) (fun k => by rw [puzzles_See.j1, if_pos rfl]) (Ev.now _)
 have hc := checksheets_ev u l
 by_cases hB : shB u = true ∧ shB l = true
 ·rw [if_pos hB] at hc
  have O := shB_ok hB.1
  have Q := shB_ok hB.2
  obtain ⟨b1, v1, r1, k1⟩ := both_in t 0 3
  obtain ⟨b2, v2, r2, k2⟩ := both_in x (-8) 8
  obtain ⟨b3, v3, r3, k3⟩ := both_in y (-8) 8
  have hP : ∀ {r}, Ev (fun k => if b1 = true then (if b2 = true then (puzzles_See.j1 k u l (!b3) t x y) else (puzzles_See.j1 k u l true t x y)) else (puzzles_See.j1 k u l true t x y)) r → Ev (fun k => puzzles_See.f k u l t x y) r := fun h => by
   unfold puzzles_See.f
   refine Ev.bind (laid_ev u) ?_
   simp only [hB.1, if_true]
   refine Ev.bind (laid_ev l) ?_
   refine Ev.step (fun k => ?_) h
   rw [hB.2, puzzles_See.j0, if_neg (by decide), v1, Option.bind_some, v2, Option.bind_some, v3, Option.bind_some]
  have hR : ∀ {r}, Ev (fun k => if b1 = true then (if b2 = true then (if b3 = true then ((padlockref03_see.f k u l t x y).bind fun t630 => (some (t630, 0))) else (some ((⟨#[]⟩ : ByteArray), 1))) else (some ((⟨#[]⟩ : ByteArray), 1))) else (some ((⟨#[]⟩ : ByteArray), 1))) r → Ev (fun k => padlockref03_See.f k u l t x y) r := fun h => by
   unfold padlockref03_See.f
   refine Ev.bind hc ?_
   refine Ev.congr (fun k => ?_) h
   rw [if_pos rfl, r1, Option.bind_some, r2, Option.bind_some, r3, Option.bind_some]
  cases b1 with
  | false => exact ⟨_, hP (Ev.congr (fun k => if_neg (by decide)) p1), hR (Ev.congr (fun k => if_neg (by decide)) (Ev.now _))⟩
  | true =>
   cases b2 with
   | false => exact ⟨_, hP (Ev.congr (fun k => by rw [if_pos rfl, if_neg (by decide)]) p1), hR (Ev.congr (fun k => by rw [if_pos rfl, if_neg (by decide)]) (Ev.now _))⟩
   | true =>
    cases b3 with
    | false => exact ⟨_, hP (Ev.congr (fun k => by rw [if_pos rfl, if_pos rfl]; rfl) p1), hR (Ev.congr (fun k => by rw [if_pos rfl, if_pos rfl, if_neg (by decide)]) (Ev.now _))⟩
    | true =>
     have h1 := k1 rfl
     have h2 := k2 rfl
     have h3 := k3 rfl
     refine ⟨(strOfNums (seenT (turnN t.toNat u) l x y), 0), hP (Ev.congr (fun k => by rw [if_pos rfl, if_pos rfl]) (Ev.step (fun k => ?_) (See_l0 Q t x y h1.2 h2 h3 t.toNat 0 u O (by omega) (by omega)))), hR (Ev.congr (fun k => by rw [if_pos rfl, if_pos rfl, if_pos rfl]; rfl) (Ev.bind (refsee_ev Q t x y h1.2 h2 h3 t.toNat 0 u O (by omega) (by omega)) (f := fun _ t630 => some (t630, 0)) (Ev.now _)))⟩
     rw [puzzles_See.j1, if_neg (by decide)]
 ·rw [if_neg hB] at hc
  refine ⟨((⟨#[]⟩ : ByteArray), 30), ?_, ?_⟩
  ·unfold puzzles_See.f
   refine Ev.bind (laid_ev u) ?_
   by_cases hu : shB u = true
   ·simp only [hu, if_true]
    refine Ev.bind (laid_ev l) ?_
    have hl : shB l = false := by rw [Bool.eq_false_iff]; exact fun h => hB ⟨hu, h⟩
    rw [hl]
    exact p30
   ·exact Ev.congr (fun k => if_neg hu) p30
  ·unfold padlockref03_See.f
   refine Ev.bind hc ?_
   exact Ev.congr (fun k => if_neg (by decide)) (Ev.now _)
/-! Find. -/
def fx (p : Int → Int → Int → Bool) (t y : Int) : Nat → Int → List S60 → List S60
 | 0, _, acc => acc
 | m + 1, x, acc => fx p t y m (x + 1) (if p t y x = true then acc ++ [(⟨t, x, y⟩ : S60)] else acc)
def fy (p : Int → Int → Int → Bool) (t : Int) : Nat → Int → List S60 → List S60
 | 0, _, acc => acc
 | m + 1, y, acc => fy p t m (y + 1) (fx p t y 17 (-8) acc)
def ft (p : Int → Int → Int → Bool) : Nat → Int → List S60 → List S60
 | 0, _, acc => acc
 | m + 1, t, acc => ft p m (t + 1) (fy p t 17 (-8) acc)
theorem fx_len (p : Int → Int → Int → Bool) (t y : Int) : ∀ (m : Nat) (x : Int) (acc : List S60), (fx p t y m x acc).length ≤ acc.length + m
 | 0, _, acc => Nat.le_refl _
 | m + 1, x, acc => by
  have := fx_len p t y m (x + 1) (if p t y x = true then acc ++ [(⟨t, x, y⟩ : S60)] else acc)
  rw [fx]
  refine Nat.le_trans this ?_
  split
  ·rw [List.length_append, List.length_singleton]; omega
  ·omega
theorem fy_len (p : Int → Int → Int → Bool) (t : Int) : ∀ (m : Nat) (y : Int) (acc : List S60), (fy p t m y acc).length ≤ acc.length + 17 * m
 | 0, _, acc => Nat.le_refl _
 | m + 1, y, acc => by
  have h1 := fy_len p t m (y + 1) (fx p t y 17 (-8) acc)
  have h2 := fx_len p t y 17 (-8) acc
  rw [fy]
  omega
theorem ft_len (p : Int → Int → Int → Bool) : ∀ (m : Nat) (t : Int) (acc : List S60), (ft p m t acc).length ≤ acc.length + 289 * m
 | 0, _, acc => Nat.le_refl _
 | m + 1, t, acc => by
  have h1 := ft_len p m (t + 1) (fy p t 17 (-8) acc)
  have h2 := fy_len p t 17 (-8) acc
  rw [ft]
  omega
/-- Is the word seen? -/
def pS (u l : List ByteArray) (wd : ByteArray) (t y x : Int) : Bool := decide ((strOfNums (seenT (turnN t.toNat u) l x y)).toList = wd.toList)
section
variable {u l : List ByteArray} {wd : ByteArray}
theorem Find_l2 (O : OkSh u) (Q : OkSh l) (t y : Int) (ht : 0 ≤ t ∧ t ≤ 3) (hy : -8 ≤ y ∧ y ≤ 8) {R : List S60 × Int} : ∀ (m : Nat) (x : Int) (acc : List S60), x + m = 9 → -8 ≤ x → acc.length + m ≤ 5000 →
  Ev (fun k => puzzles_Find.l1 k (turnN t.toNat u) l wd (fx (pS u l wd) t y m x acc) t (y + 1) t) R → Ev (fun k => puzzles_Find.l2 k (turnN t.toNat u) l wd acc t y x t) R := by
 intro m
 induction m with
 | zero =>
  intro x acc hx h8 hl next
  refine Ev.step (fun k => ?_) next
  rw [puzzles_Find.l2, if_neg (by omega), w64 _ (by omega) (by omega), fx]
 | succ m ih =>
  intro x acc hx h8 hl next
  have hv := see_val (turnN_ok t.toNat O) Q (x := x) (y := y) (by omega) hy
  rw [fx] at next
  by_cases q : (strOfNums (seenT (turnN t.toNat u) l x y)).toList = wd.toList
  ·rw [if_pos (show pS u l wd t y x = true from decide_eq_true q)] at next
   refine Ev.step (fun k => ?_) (ih (x + 1) _ (by omega) (by omega) (by rw [List.length_append, List.length_singleton]; omega) next)
   rw [puzzles_Find.l2, if_pos (by omega), hv, Option.bind_some, if_pos q, if_pos (by omega), w64 (x + 1) (by omega) (by omega)]
  ·rw [if_neg (show ¬ pS u l wd t y x = true from fun h => q (of_decide_eq_true h))] at next
   refine Ev.step (fun k => ?_) (ih (x + 1) _ (by omega) (by omega) (by omega) next)
   rw [puzzles_Find.l2, if_pos (by omega), hv, Option.bind_some, if_neg q, w64 (x + 1) (by omega) (by omega)]
theorem Find_l1 (O : OkSh u) (Q : OkSh l) (t : Int) (ht : 0 ≤ t ∧ t ≤ 3) {R : List S60 × Int} : ∀ (m : Nat) (y : Int) (acc : List S60), y + m = 9 → -8 ≤ y → acc.length + 17 * m ≤ 5000 →
  Ev (fun k => puzzles_Find.l0 k (turnT (turnN t.toNat u)) l wd (fy (pS u l wd) t m y acc) (t + 1)) R → Ev (fun k => puzzles_Find.l1 k (turnN t.toNat u) l wd acc t y t) R := by
 intro m
 induction m with
 | zero =>
  intro y acc hy h8 hl next
  refine Ev.step (fun k => by rw [puzzles_Find.l1, if_neg (by omega)]) (Ev.bind (turned_ev (turnN_ok t.toNat O)) ?_)
  rw [w64 (t + 1) (by omega) (by omega)]
  exact next
 | succ m ih =>
  intro y acc hy h8 hl next
  rw [fy] at next
  have hlen := fx_len (pS u l wd) t y 17 (-8) acc
  refine Ev.step (fun k => ?_) (Find_l2 O Q t y ht (by omega) 17 (-8) acc (by omega) (by omega) (by omega) (ih (y + 1) _ (by omega) (by omega) (by omega) next))
  rw [puzzles_Find.l1, if_pos (by omega)]
theorem Find_l0 (O : OkSh u) (Q : OkSh l) : ∀ (m : Nat) (t : Int) (acc : List S60), t + m = 4 → 0 ≤ t → acc.length + 289 * m ≤ 5000 → Ev (fun k => puzzles_Find.l0 k (turnN t.toNat u) l wd acc t) (ft (pS u l wd) m t acc, 0) := by
 intro m
 induction m with
 | zero =>
  intro t acc ht h0 hl
  refine Ev.step (f := fun _ => some (acc, 0)) (fun k => ?_) (Ev.now _)
  rw [puzzles_Find.l0, if_neg (by omega)]
 | succ m ih =>
  intro t acc ht h0 hl
  rw [ft]
  rw [Nat.mul_succ, ← Nat.add_assoc] at hl
  have h289 : acc.length + 289 ≤ 5000 := Nat.le_trans (Nat.add_le_add_right (Nat.le_add_right _ _) _) hl
  have h9 : (-8 : Int) + ((17 : Nat) : Int) = 9 := rfl
  have h3 : acc.length + 289 + 289 * m ≤ 5000 := by rw [Nat.add_right_comm]; exact hl
  clear hl
  have ht1 : t + 1 + (m : Int) = 4 := by omega
  have ht2 : 0 ≤ t + 1 := by omega
  have ht3 : 0 ≤ t ∧ t ≤ 3 := by omega
  have hlen := Nat.le_trans (Nat.add_le_add_right (fy_len (pS u l wd) t 17 (-8) acc) _) h3
  have IH := ih (t + 1) (fy (pS u l wd) t 17 (-8) acc) ht1 ht2 hlen
  clear hlen
  rw [show (t + 1).toNat = t.toNat + 1 by omega, turnN_snoc] at IH
  refine Ev.step (fun k => ?_) (Find_l1 O Q t ht3 17 (-8) acc h9 (Int.le_refl _) h289 IH)
  rw [puzzles_Find.l0, if_pos (show t < 4 from Int.lt_of_le_of_lt ht3.2 (by decide))]
theorem refFind_l2 (O : OkSh u) (Q : OkSh l) (t y : Int) (ht : 0 ≤ t ∧ t ≤ 3) (hy : -8 ≤ y ∧ y ≤ 8) {R : List S60 × Int} : ∀ (m : Nat) (x : Int) (acc : List S60), x + m = 9 → -8 ≤ x → acc.length + m ≤ 5000 →
  Ev (fun k => padlockref03_Find.l1 k u l wd (fx (pS u l wd) t y m x acc) t (y + 1)) R → Ev (fun k => padlockref03_Find.l2 k u l wd acc t y x) R := by
 intro m
 induction m with
 | zero =>
  intro x acc hx h8 hl next
  refine Ev.step (fun k => ?_) next
  rw [padlockref03_Find.l2, if_neg (by omega), w64 _ (by omega) (by omega), fx]
 | succ m ih =>
  intro x acc hx h8 hl next
  have hv := refsee_ev Q t x y ht.2 (by omega) hy t.toNat 0 u O (by omega) (by omega)
  rw [fx] at next
  refine Ev.step (fun k => by rw [padlockref03_Find.l2, if_pos (by omega)]) (Ev.bind (g := fun k => padlockref03_see.f k u l t x y) hv ?_)
  by_cases q : (strOfNums (seenT (turnN t.toNat u) l x y)).toList = wd.toList
  ·rw [if_pos (show pS u l wd t y x = true from decide_eq_true q)] at next
   refine Ev.congr (fun k => ?_) (ih (x + 1) _ (by omega) (by omega) (by rw [List.length_append, List.length_singleton]; omega) next)
   rw [if_pos q, if_pos (by omega), w64 (x + 1) (by omega) (by omega)]
  ·rw [if_neg (show ¬ pS u l wd t y x = true from fun h => q (of_decide_eq_true h))] at next
   refine Ev.congr (fun k => ?_) (ih (x + 1) _ (by omega) (by omega) (by omega) next)
   rw [if_neg q, w64 (x + 1) (by omega) (by omega)]
theorem refFind_l1 (O : OkSh u) (Q : OkSh l) (t : Int) (ht : 0 ≤ t ∧ t ≤ 3) {R : List S60 × Int} : ∀ (m : Nat) (y : Int) (acc : List S60), y + m = 9 → -8 ≤ y → acc.length + 17 * m ≤ 5000 →
  Ev (fun k => padlockref03_Find.l0 k u l wd (fy (pS u l wd) t m y acc) (t + 1)) R → Ev (fun k => padlockref03_Find.l1 k u l wd acc t y) R := by
 intro m
 induction m with
 | zero =>
  intro y acc hy h8 hl next
  refine Ev.step (fun k => ?_) next
  rw [padlockref03_Find.l1, if_neg (by omega), w64 (t + 1) (by omega) (by omega), fy]
 | succ m ih =>
  intro y acc hy h8 hl next
  rw [fy] at next
  have hlen := fx_len (pS u l wd) t y 17 (-8) acc
  refine Ev.step (fun k => ?_) (refFind_l2 O Q t y ht (by omega) 17 (-8) acc (by omega) (by omega) (by omega) (ih (y + 1) _ (by omega) (by omega) (by omega) next))
  rw [padlockref03_Find.l1, if_pos (by omega)]
theorem refFind_l0 (O : OkSh u) (Q : OkSh l) : ∀ (m : Nat) (t : Int) (acc : List S60), t + m = 4 → 0 ≤ t → acc.length + 289 * m ≤ 5000 → Ev (fun k => padlockref03_Find.l0 k u l wd acc t) (ft (pS u l wd) m t acc, 0) := by
 intro m
 induction m with
 | zero =>
  intro t acc ht h0 hl
  refine Ev.step (f := fun _ => some (acc, 0)) (fun k => ?_) (Ev.now _)
  rw [padlockref03_Find.l0, if_neg (by omega)]
 | succ m ih =>
  intro t acc ht h0 hl
  rw [ft]
  rw [Nat.mul_succ, ← Nat.add_assoc] at hl
  have h289 : acc.length + 289 ≤ 5000 := Nat.le_trans (Nat.add_le_add_right (Nat.le_add_right _ _) _) hl
  have h9 : (-8 : Int) + ((17 : Nat) : Int) = 9 := rfl
  have h3 : acc.length + 289 + 289 * m ≤ 5000 := by rw [Nat.add_right_comm]; exact hl
  clear hl
  have ht1 : t + 1 + (m : Int) = 4 := by omega
  have ht2 : 0 ≤ t + 1 := by omega
  have ht3 : 0 ≤ t ∧ t ≤ 3 := by omega
  have hlen := Nat.le_trans (Nat.add_le_add_right (fy_len (pS u l wd) t 17 (-8) acc) _) h3
  refine Ev.step (fun k => ?_) (refFind_l1 O Q t ht3 17 (-8) acc h9 (Int.le_refl _) h289 (ih (t + 1) (fy (pS u l wd) t 17 (-8) acc) ht1 ht2 hlen))
  rw [padlockref03_Find.l0, if_pos (show t < 4 from Int.lt_of_le_of_lt ht3.2 (by decide))]
end
theorem Find_both (u l : List ByteArray) (wd : ByteArray) : ∃ r : List S60 × Int, Ev (fun k => puzzles_Find.f k u l wd) r ∧ Ev (fun k => padlockref03_Find.f k u l wd) r ∧ r.1.length ≤ 2000 := by
 have p30 : Ev (fun k => puzzles_Find.j0 k u l wd ([] : List S60) true) (([] : List S60), 30) := Ev.step (f := fun _ => some ([], 30)) (fun k => by rw [puzzles_Find.j0, if_pos rfl]) (Ev.now _)
 have p1 : Ev (fun k => puzzles_Find.j1 k u l wd ([] : List S60) true) (([] : List S60), 1) := Ev.step (f := fun _ => some ([], 1)) (fun k => by rw [puzzles_Find.j1, if_pos rfl]) (Ev.now _)
 have r1 : Ev (fun k => padlockref03_Find.j0 k u l wd true) (([] : List S60), 1) := Ev.step (f := fun _ => some ([], 1)) (fun k => by rw [padlockref03_Find.j0, if_pos rfl]) (Ev.now _)
 have hc := checksheets_ev u l
 by_cases hB : shB u = true ∧ shB l = true
 ·rw [if_pos hB] at hc
  have O := shB_ok hB.1
  have Q := shB_ok hB.2
  obtain ⟨b1, v1, q1, k1⟩ := both_in (wd.size : Int) 1 64
  have hP : ∀ {r}, Ev (fun k => if b1 = true then ((sf110.f wd).bind fun t644 => (puzzles_Find.j1 k u l wd ([] : List S60) t644)) else (puzzles_Find.j1 k u l wd ([] : List S60) true)) r → Ev (fun k => puzzles_Find.f k u l wd) r := fun h => by
   unfold puzzles_Find.f
   refine Ev.bind (laid_ev u) ?_
   simp only [hB.1, if_true]
   refine Ev.bind (laid_ev l) ?_
   refine Ev.step (fun k => ?_) h
   rw [hB.2, puzzles_Find.j0, if_neg (by decide), v1, Option.bind_some]
  have hR : ∀ {r}, Ev (fun k => if b1 = true then ((padlockref03_letters.f k wd).bind fun t634 => (padlockref03_Find.j0 k u l wd (!t634))) else (padlockref03_Find.j0 k u l wd true)) r → Ev (fun k => padlockref03_Find.f k u l wd) r := fun h => by
   unfold padlockref03_Find.f
   refine Ev.bind hc ?_
   refine Ev.congr (fun k => ?_) h
   rw [if_pos rfl, q1, Option.bind_some]
  cases b1 with
  | false => exact ⟨_, hP (Ev.congr (fun k => if_neg (by decide)) p1), hR (Ev.congr (fun k => if_neg (by decide)) r1), by simp⟩
  | true =>
   have hk := k1 rfl
   have hl := refletters_ev wd (by omega)
   cases q : wd.data.toList.any (fun b => notLetterR b.toNat) with
   | true =>
    rw [q] at hl
    refine ⟨_, hP (Ev.congr (fun k => ?_) p1), hR (Ev.congr (fun k => if_pos rfl) (Ev.bind hl r1)), by simp⟩
    rw [if_pos rfl]
    unfold sf110.f
    rw [q, Option.bind_some]
   | false =>
    rw [q] at hl
    refine ⟨(ft (pS u l wd) 4 0 [], 0), hP (Ev.congr (fun k => ?_) (Ev.step (g := fun k => puzzles_Find.j1 k u l wd ([] : List S60) false) (fun k => ?_) (Find_l0 O Q 4 0 [] rfl (Int.le_refl _) (by decide)))), hR (Ev.congr (fun k => if_pos rfl) (Ev.bind hl (Ev.step (fun k => ?_) (refFind_l0 O Q 4 0 [] rfl (Int.le_refl _) (by decide))))), Nat.le_trans (ft_len (pS u l wd) 4 0 []) (by decide)⟩
    ·rw [if_pos rfl]
     unfold sf110.f
     rw [q, Option.bind_some]
    ·rw [puzzles_Find.j1, if_neg (by decide)]
     rfl
    ·rw [padlockref03_Find.j0, if_neg (by decide)]
 ·rw [if_neg hB] at hc
  refine ⟨(([] : List S60), 30), ?_, ?_, by simp⟩
  ·unfold puzzles_Find.f
   refine Ev.bind (laid_ev u) ?_
   by_cases hu : shB u = true
   ·simp only [hu, if_true]
    refine Ev.bind (laid_ev l) ?_
    have hl : shB l = false := by rw [Bool.eq_false_iff]; exact fun h => hB ⟨hu, h⟩
    rw [hl]
    exact p30
   ·exact Ev.congr (fun k => if_neg hu) p30
  ·unfold padlockref03_Find.f
   refine Ev.bind hc ?_
   exact Ev.congr (fun k => if_neg (by decide)) (Ev.now _)
theorem same_spots (L : List S60) (hL : L.length ≤ 2000) : ∀ (m i : Nat), i + m = L.length → Ev (fun k => padlocklaw03_PuzzlesSheets.l0 k L L (i : Int)) true := by
 intro m
 induction m with
 | zero =>
  intro i hi
  refine Ev.step (f := fun k => (padlocklaw03_works.f k).bind fun t676 => (some t676)) (fun k => ?_) (Ev.bind works_ev (Ev.now _))
  rw [padlocklaw03_PuzzlesSheets.l0, if_neg (by omega)]
 | succ m ih =>
  intro i hi
  have e1 : wrap64 ((i : Int) + 1) = ((i + 1 : Nat) : Int) := by rw [w64 _ (by omega) (by omega)]; omega
  refine Ev.step (fun k => ?_) (ih (i + 1) (by omega))
  rw [padlocklaw03_PuzzlesSheets.l0, if_pos (by omega), if_pos (by omega), if_pos (by omega), if_neg (by simp), e1]
theorem sheets_law (u l : List ByteArray) (t x y : Int) (wd : ByteArray) : Ev (fun k => padlocklaw03_PuzzlesSheets.f k u l t x y wd) true := by
 obtain ⟨r, h1, h2⟩ := See_both u l t x y
 obtain ⟨s, h3, h4, h5⟩ := Find_both u l wd
 unfold padlocklaw03_PuzzlesSheets.f
 refine Ev.bind h1 (Ev.bind h2 ?_)
 simp only [if_true, bne_self_eq_false]
 refine Ev.step (fun k => by rw [padlocklaw03_PuzzlesSheets.j0, if_neg (by decide)]) ?_
 refine Ev.bind h3 (Ev.bind h4 ?_)
 simp only [if_true, bne_self_eq_false]
 refine Ev.step (fun k => by rw [padlocklaw03_PuzzlesSheets.j1, if_neg (by decide)]) ?_
 exact same_spots s.1 h5 s.1.length 0 (by omega)

end Go.Proofs.Ytdhiijleafcfcaa.T
