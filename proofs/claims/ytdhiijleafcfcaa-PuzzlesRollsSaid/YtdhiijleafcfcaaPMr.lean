/- Mazes in plain lists: what the document says of them. -/
import Derived.Test.YtdhiijleafcfcaaT0
import Derived.Test.YtdhiijleafcfcaaPMa
import Derived.Test.YtdhiijleafcfcaaTz
import Derived.Test.YtdhiijleafcfcaaTzr
import Derived.Test.YtdhiijleafcfcaaTzf
import Derived.Test.YtdhiijleafcfcaaTze
import Derived.Test.YtdhiijleafcfcaaTzt
import Derived.Test.YtdhiijleafcfcaaTf7
namespace Go.Proofs.Ytdhiijleafcfcaa.T
open Go.RowKit Go.Proofs.YtdhiijleafcfcaaW.PrintWords Go.Proofs.YtdhiijleafcfcaaW.PrintLast Go.Proofs.YtdhiijleafcfcaaW.PrintMore
attribute [local go_sem] max2_int min2_int max_two min_two max_three min_three max_four min_four
set_option linter.unusedVariables false
set_option linter.unusedSimpArgs false

open Mz
theorem rdi_tab (n : Nat) (f : Nat → Int) {c : Int} (h0 : 0 ≤ c) (h1 : c < n) : rd (tab n f) c = f c.toNat := tab_get n f c.toNat (by omega) 0
theorem rdb_tab (n : Nat) (f : Nat → Bool) {c : Int} (h0 : 0 ≤ c) (h1 : c < n) : rdOf false (tab n f) c = f c.toNat := tab_get n f c.toNat (by omega) false
theorem rin_val (a b c : Int) : padlockref03_Within.f a b c = some (inR b c a) := refwithin_val a b c
theorem sorted_eq : ∀ (a b : List Int), a.Pairwise (· < ·) → b.Pairwise (· < ·) → (∀ x, x ∈ a ↔ x ∈ b) → a = b
 | [], [], _, _, _ => rfl
 | [], y :: b, _, _, h => by have := (h y).2 (by simp); cases this
 | x :: a, [], _, _, h => by have := (h x).1 (by simp); cases this
 | x :: a, y :: b, ha, hb, h => by
  obtain ⟨a1, a2⟩ := List.pairwise_cons.1 ha
  obtain ⟨b1, b2⟩ := List.pairwise_cons.1 hb
  have hxy : x = y := by
   rcases List.mem_cons.1 ((h x).1 (by simp)) with q | q
   ·exact q
   ·rcases List.mem_cons.1 ((h y).2 (by simp)) with r | r
    ·exact r.symm
    ·have := b1 x q
     have := a1 y r
     omega
  subst hxy
  rw [sorted_eq a b a2 b2 (fun z => ?_)]
  constructor
  ·intro hz
   have := a1 z hz
   rcases List.mem_cons.1 ((h z).1 (by simp [hz])) with q | q
   ·omega
   ·exact q
  ·intro hz
   have := b1 z hz
   rcases List.mem_cons.1 ((h z).2 (by simp [hz])) with q | q
   ·omega
   ·exact q
def pick (p : Nat → Bool) : Nat → Nat → List Int
 | 0, _ => []
 | m + 1, i => if p i = true then (i : Int) :: pick p m (i + 1) else pick p m (i + 1)
theorem pick_mem (p : Nat → Bool) : ∀ (m i : Nat) (x : Int), x ∈ pick p m i ↔ ∃ j, i ≤ j ∧ j < i + m ∧ p j = true ∧ x = (j : Int)
 | 0, i, x => by
  simp only [pick]
  constructor
  ·intro h; cases h
  ·rintro ⟨j, a, b, _⟩; omega
 | m + 1, i, x => by
  have ih := pick_mem p m (i + 1) x
  have split_ : (∃ j, i ≤ j ∧ j < i + (m + 1) ∧ p j = true ∧ x = (j : Int)) ↔ (p i = true ∧ x = (i : Int)) ∨ ∃ j, i + 1 ≤ j ∧ j < i + 1 + m ∧ p j = true ∧ x = (j : Int) := by
   constructor
   ·rintro ⟨j, a, b, c, d⟩
    by_cases q : j = i
    ·subst q; exact .inl ⟨c, d⟩
    ·exact .inr ⟨j, by omega, by omega, c, d⟩
   ·rintro (⟨a, b⟩ | ⟨j, a, b, c, d⟩)
    ·exact ⟨i, by omega, by omega, a, b⟩
    ·exact ⟨j, by omega, by omega, c, d⟩
  rw [split_, ← ih, pick]
  by_cases q : p i = true
  ·rw [if_pos q, List.mem_cons]
   simp [q]
  ·rw [if_neg q]
   simp [q]
theorem pick_sorted (p : Nat → Bool) : ∀ (m i : Nat), (pick p m i).Pairwise (· < ·)
 | 0, _ => List.Pairwise.nil
 | m + 1, i => by
  rw [pick]
  split
  ·refine List.pairwise_cons.2 ⟨fun x hx => ?_, pick_sorted p m (i + 1)⟩
   obtain ⟨j, a, _, _, rfl⟩ := (pick_mem p m (i + 1) x).1 hx
   omega
  ·exact pick_sorted p m (i + 1)
theorem cd_diff : ∀ {n m n' m' : Int} {u v : List Int}, u.length = v.length → n - m = n' - m' → cd n u - cd m u = cd n' v - cd m' v
 | _, _, _, _, [], [], _, h => h
 | n, m, n', m', a :: u, b :: v, hl, h => cd_diff (n := 4 * n + a) (m := 4 * m + a) (n' := 4 * n' + b) (m' := 4 * m' + b) (u := u) (v := v) (by simpa using hl) (by omega)
theorem least4 (p : Int → Prop) (h : ∃ d, 0 ≤ d ∧ d ≤ 3 ∧ p d) : ∃ d, 0 ≤ d ∧ d ≤ 3 ∧ p d ∧ ∀ e, 0 ≤ e → e < d → ¬ p e := by
 obtain ⟨d, h0, h3, hp⟩ := h
 by_cases q0 : p 0
 ·exact ⟨0, by omega, by omega, q0, fun e _ _ => by omega⟩
 by_cases q1 : p 1
 ·exact ⟨1, by omega, by omega, q1, fun e a b => by
   have : e = 0 := by omega
   rw [this]
   exact q0⟩
 by_cases q2 : p 2
 ·exact ⟨2, by omega, by omega, q2, fun e a b => by
   have : e = 0 ∨ e = 1 := by omega
   rcases this with rfl | rfl <;> assumption⟩
 ·have : d = 0 ∨ d = 1 ∨ d = 2 ∨ d = 3 := by omega
  rcases this with rfl | rfl | rfl | rfl
  ·exact absurd hp q0
  ·exact absurd hp q1
  ·exact absurd hp q2
  ·exact ⟨3, by omega, by omega, hp, fun e a b => by
    have : e = 0 ∨ e = 1 ∨ e = 2 := by omega
    rcases this with rfl | rfl | rfl <;> assumption⟩
/-- A maze's look. -/
theorem checkmaze_ev (a0 a1 : Int) (l : List Bool) (a3 a4 : Int) : Ev (fun k => padlockref03_CheckMaze.f k a0 a1 l a3 a4) (if mazeB a0 a1 l a3 a4 = true then 0 else 30) := by
 have j30 : Ev (fun k => padlockref03_CheckMaze.j0 k true a0 a1 l a3 a4) 30 := Ev.step (f := fun _ => some 30) (fun k => by rw [padlockref03_CheckMaze.j0, if_pos rfl]) (Ev.now _)
 unfold mazeB
 cases q1 : inR 1 64 a0 with
 | false =>
  refine Ev.congr (fun k => ?_) j30
  unfold padlockref03_CheckMaze.f
  rw [rin_val, Option.bind_some, q1, if_neg (by decide)]
 | true =>
  rw [Bool.true_and]
  cases q2 : inR 1 64 a1 with
  | false =>
   refine Ev.congr (fun k => ?_) j30
   unfold padlockref03_CheckMaze.f
   rw [rin_val, Option.bind_some, q1, if_pos rfl, rin_val, Option.bind_some, q2, if_neg (by decide)]
  | true =>
   rw [Bool.true_and]
   have head : ∀ {r}, Ev (fun k => if wrap64 (a0 * a1) > 64 then padlockref03_CheckMaze.j0 k true a0 a1 l a3 a4 else padlockref03_CheckMaze.j0 k ((l.length : Int) != wrap64 (a0 * a1)) a0 a1 l a3 a4) r → Ev (fun k => padlockref03_CheckMaze.f k a0 a1 l a3 a4) r := fun h => by
    refine Ev.congr (fun k => ?_) h
    unfold padlockref03_CheckMaze.f
    rw [rin_val, Option.bind_some, q1, if_pos rfl, rin_val, Option.bind_some, q2, if_pos rfl]
   refine head ?_
   by_cases q3 : wrap64 (a0 * a1) ≤ 64
   ·rw [decide_eq_true q3, Bool.true_and]
    simp only [if_neg (show ¬ wrap64 (a0 * a1) > 64 from by omega)]
    by_cases q4 : (l.length : Int) = wrap64 (a0 * a1)
    ·have q5 : ((l.length : Int) == wrap64 (a0 * a1)) = true := beq_iff_eq.2 q4
     have e1 : wrap64 ((l.length : Int) - 1) = (l.length : Int) - 1 := w64 _ (by omega) (by omega)
     rw [q5, Bool.true_and, ← q4]
     unfold cellB
     rw [← q4, e1]
     refine Ev.step (f := fun _ => (padlockref03_Within.f a3 0 ((l.length : Int) - 1)).bind fun t275 => (if t275 = true then ((padlockref03_Within.f a4 0 ((l.length : Int) - 1)).bind fun t276 => (if t276 = true then (if 0 ≤ a3 then (if a3 < (l.length : Int) then (if rdOf false l a3 = true then (some 30) else (if 0 ≤ a4 then (if a4 < (l.length : Int) then (if rdOf false l a4 = true then (some 30) else (some 0)) else (none)) else (none))) else (none)) else (none)) else (some 30))) else (some 30))) (fun k => by rw [bne_self_eq_false, padlockref03_CheckMaze.j0, if_neg (by decide), e1]) (Ev.const ?_)
     rw [rin_val, rin_val, Option.bind_some]
     cases u : inR 0 ((l.length : Int) - 1) a3 with
     | false => rfl
     | true =>
      rw [if_pos rfl, Option.bind_some, Bool.true_and]
      cases v : inR 0 ((l.length : Int) - 1) a4 with
      | false => rfl
      | true =>
       unfold inR at u v
       simp only [Bool.and_eq_true, decide_eq_true_eq] at u v
       rw [if_pos rfl, if_pos (by omega), if_pos (by omega), Bool.true_and]
       cases rdOf false l a3 with
       | true => rfl
       | false =>
        rw [if_neg (by decide), if_pos (by omega), if_pos (by omega)]
        cases rdOf false l a4 <;> rfl
    ·have q5 : ((l.length : Int) == wrap64 (a0 * a1)) = false := beq_eq_false_iff_ne.2 q4
     rw [q5, Bool.false_and, if_neg (by decide)]
     refine Ev.congr (fun k => ?_) j30
     rw [show ((l.length : Int) != wrap64 (a0 * a1)) = true from bne_iff_ne.2 q4]
   ·rw [decide_eq_false q3, Bool.false_and, if_neg (by decide)]
    refine Ev.congr (fun k => ?_) j30
    rw [if_pos (by omega)]
section
variable {W H : Int} {l : List Bool} {fr z : Int}
theorem rolls_l0 (M : Mv W H l fr z) {d : Int} (hd : 0 ≤ d ∧ d ≤ 3) : ∀ (n : Nat) (c : Int), 0 ≤ c → c < l.length → ms W H c d < n → Ev (fun k => padlockref03_rolls.l0 k c d W H l fr z) (rollN W H l n c d) := by
 intro n
 induction n with
 | zero => intro c h0 h1 hm; have := (ms_bd (d := d) (M.gd h0 h1)).1; omega
 | succ n ih =>
  intro c h0 h1 hm
  refine Ev.step (f := fun k => (padlockref03_beside.f k W H c d).bind fun t282 => (if t282 < 0 then (some c) else (if 0 ≤ t282 then (if t282 < (l.length : Int) then (if rdOf false l t282 = true then (some c) else (padlockref03_rolls.l0 k t282 d W H l fr z)) else (none)) else (none)))) (fun k => by rw [padlockref03_rolls.l0]) (Ev.bind (refbeside_ev (M.gd h0 h1) hd) ?_)
  rw [rollN]
  by_cases q : 0 ≤ nb W H c d
  ·have hr := nb_range (M.gd h0 h1) q
   rw [M.wh] at hr
   rw [decide_eq_true q, Bool.true_and]
   cases hw : rdOf false l (nb W H c d) with
   | true =>
    rw [if_neg (show ¬ ((!true) = true) by decide)]
    refine Ev.congr (fun k => ?_) (Ev.now c)
    rw [if_neg (by omega), if_pos q, if_pos hr, if_pos rfl]
   | false =>
    have := ms_next (M.gd h0 h1) hd q
    rw [if_pos (show (!false) = true by decide)]
    refine Ev.congr (fun k => ?_) (ih _ q hr (by omega))
    rw [if_neg (by omega), if_pos q, if_pos hr, if_neg (by decide)]
  ·rw [decide_eq_false q, Bool.false_and, if_neg (show ¬ (false = true) by decide)]
   refine Ev.congr (fun k => ?_) (Ev.now c)
   rw [if_pos (by omega)]
theorem rolls_ev (M : Mv W H l fr z) {c d : Int} (h0 : 0 ≤ c) (h1 : c < l.length) (hd : 0 ≤ d ∧ d ≤ 3) : Ev (fun k => padlockref03_rolls.f k W H l fr z c d) (stM W H l c d) := rolls_l0 M hd 64 c h0 h1 (ms_bd (M.gd h0 h1)).2
theorem refroll_l1 (M : Mv W H l fr z) (mv : List Int) (hd : dirs mv) (h200 : mv.length ≤ 200) : ∀ (m i : Nat) (c : Int), i + m = mv.length → 0 ≤ c → c < l.length → Ev (fun k => padlockref03_Roll.l1 k mv c (i : Int) W H l fr z) (pth (stM W H l) c (mv.drop i), 0) := by
 intro m
 induction m with
 | zero =>
  intro i c hi h0 h1
  refine Ev.step (f := fun _ => some (c, 0)) (fun k => ?_) (Ev.eq (Ev.now _) ?_)
  ·rw [padlockref03_Roll.l1, if_neg (by omega)]
  ·rw [List.drop_of_length_le (by omega)]
   rfl
 | succ m ih =>
  intro i c hi h0 h1
  have hlt : i < mv.length := by omega
  have hdi := hd mv[i] (List.getElem_mem hlt)
  have hst := stM_range M c mv[i] h0 h1 hdi.1 hdi.2
  have e1 : wrap64 ((i : Int) + 1) = ((i + 1 : Nat) : Int) := by rw [w64 _ (by omega) (by omega)]; omega
  rw [List.drop_eq_getElem_cons hlt]
  refine Ev.step (f := fun k => (padlockref03_rolls.f k W H l fr z c mv[i]).bind fun t289 => (padlockref03_Roll.l1 k mv t289 ((i + 1 : Nat) : Int) W H l fr z)) (fun k => ?_) (Ev.bind (rolls_ev M h0 h1 hdi) (ih (i + 1) _ (by omega) hst.1 hst.2))
  rw [padlockref03_Roll.l1, if_pos (by omega), if_pos (by omega), rd_lt mv i hlt, e1]
theorem refroll_l0 (M : Mv W H l fr z) (mv : List Int) (h200 : mv.length ≤ 200) : ∀ (m i : Nat), i + m = mv.length → (mv.take i).all (inR 0 3) = true → Ev (fun k => padlockref03_Roll.l0 k mv (i : Int) W H l fr z) (if mv.all (inR 0 3) = true then (pth (stM W H l) fr mv, 0) else (0, 1)) := by
 intro m
 induction m with
 | zero =>
  intro i hi ht
  obtain rfl : i = mv.length := by omega
  rw [List.take_length] at ht
  rw [if_pos ht]
  refine Ev.step (fun k => ?_) (refroll_l1 M mv (all_dirs ht) h200 mv.length 0 fr (by omega) M.f0 M.f1)
  rw [padlockref03_Roll.l0, if_neg (by omega)]
  rfl
 | succ m ih =>
  intro i hi ht
  have hlt : i < mv.length := by omega
  have e1 : wrap64 ((i : Int) + 1) = ((i + 1 : Nat) : Int) := by rw [w64 _ (by omega) (by omega)]; omega
  cases q : inR 0 3 mv[i] with
  | true =>
   refine Ev.step (fun k => ?_) (ih (i + 1) (by omega) (by rw [List.take_succ_eq_append_getElem hlt, List.all_append, ht]; simp [q]))
   rw [padlockref03_Roll.l0, if_pos (by omega), if_pos (by omega), rd_lt mv i hlt, rin_val, Option.bind_some, q, if_pos rfl, e1]
  | false =>
   rw [if_neg (fun h => by have := List.all_eq_true.1 h mv[i] (List.getElem_mem hlt); rw [q] at this; cases this)]
   refine Ev.step (f := fun _ => some (0, 1)) (fun k => ?_) (Ev.now _)
   rw [padlockref03_Roll.l0, if_pos (by omega), if_pos (by omega), rd_lt mv i hlt, rin_val, Option.bind_some, q, if_neg (by decide)]
theorem checkmaze_ok (hB : mazeB W H l fr z = true) : Ev (fun k => padlockref03_CheckMaze.f k W H l fr z) 0 := Ev.eq (checkmaze_ev W H l fr z) (if_pos hB)
theorem checkmaze_no (hB : ¬ mazeB W H l fr z = true) : Ev (fun k => padlockref03_CheckMaze.f k W H l fr z) 30 := Ev.eq (checkmaze_ev W H l fr z) (if_neg hB)
/-- The document's Roll. -/
theorem refroll_ev (M : Mv W H l fr z) (hB : mazeB W H l fr z = true) (mv : List Int) : Ev (fun k => padlockref03_Roll.f k W H l fr z mv) (rollR W H l fr mv) := by
 unfold padlockref03_Roll.f rollR
 refine Ev.bind (checkmaze_ok hB) ?_
 simp only [if_true]
 by_cases h : (mv.length : Int) > 200
 ·simp only [if_pos h]
  exact Ev.now _
 ·simp only [if_neg h]
  exact Ev.congr (fun k => rfl) (refroll_l0 M mv (by omega) mv.length 0 (by omega) rfl)
/-- The length of the shortest moves. -/
structure Ds (st : Int → Int → Int) (c z : Int) (m : Nat) : Prop where
 some_ : ∃ v, dirs v ∧ pth st c v = z ∧ v.length = m
 least : ∀ v, dirs v → pth st c v = z → m ≤ v.length
/-- The document's table, in round s, with the cells below c gone through. -/
structure Fa (W H : Int) (l : List Bool) (z : Int) (s c : Nat) (X : Nat → Int) : Prop where
 pos : ∀ i, i < l.length → 0 ≤ X i → ∃ m : Nat, X i = m ∧ Ds (stM W H l) i z m ∧ m ≤ s + (if i < c then 1 else 0)
 full : ∀ i, i < l.length → rdOf false l i = false → ∀ v, dirs v → pth (stM W H l) i v = z → v.length ≤ s + (if i < c then 1 else 0) → 0 ≤ X i
theorem Fa.start (hz : 0 ≤ z) : Fa W H l z 0 0 (fun i => if i = z.toNat then 0 else -1) where
 pos i hi h := by
  by_cases q : i = z.toNat
  ·have : (i : Int) = z := by omega
   exact ⟨0, by simp only [if_pos q]; rfl, ⟨⟨[], dirs_nil, this, rfl⟩, fun _ _ _ => Nat.zero_le _⟩, Nat.zero_le _⟩
  ·rw [if_neg q] at h; omega
 full i hi hf v hv hp hl := by
  obtain rfl : v = [] := List.eq_nil_of_length_eq_zero (by rw [if_neg (Nat.not_lt_zero i)] at hl; omega)
  simp only [pth] at hp
  rw [if_pos (by omega)]
  exact Int.le_refl _
theorem Fa.round {s : Nat} {X : Nat → Int} (h : Fa W H l z s l.length X) : Fa W H l z (s + 1) 0 X where
 pos i hi hx := by
  obtain ⟨m, a, b, c⟩ := h.pos i hi hx
  rw [if_pos hi] at c
  exact ⟨m, a, b, by simp; omega⟩
 full i hi hf v hv hp hl := h.full i hi hf v hv hp (by rw [if_pos hi]; simp at hl; omega)
theorem Fa.skip {s c : Nat} {X : Nat → Int} (h : Fa W H l z s c X) (hc : 0 ≤ X c ∨ rdOf false l c = true) : Fa W H l z s (c + 1) X where
 pos i hi hx := by
  obtain ⟨m, a, b, d⟩ := h.pos i hi hx
  refine ⟨m, a, b, ?_⟩
  split at d <;> split <;> omega
 full i hi hf v hv hp hl := by
  by_cases q : i = c
  ·subst q
   rcases hc with hc | hc
   ·exact hc
   ·rw [hf] at hc; cases hc
  ·refine h.full i hi hf v hv hp ?_
   split at hl <;> split <;> omega
theorem Fa.none_ (M : Mv W H l fr z) {s c : Nat} {X : Nat → Int} (h : Fa W H l z s c X) (hcl : c < l.length) (hc : X c < 0) (hn : ∀ d : Int, 0 ≤ d → d ≤ 3 → X (stM W H l c d).toNat ≠ s) : Fa W H l z s (c + 1) X where
 pos i hi hx := by
  obtain ⟨m, a, b, d⟩ := h.pos i hi hx
  refine ⟨m, a, b, ?_⟩
  split at d <;> split <;> omega
 full i hi hf v hv hp hl := by
  by_cases q : i = c
  ·subst q
   exfalso
   have hno : ∀ v, dirs v → pth (stM W H l) i v = z → ¬ v.length ≤ s := fun v a b c => by
    have := h.full i hi hf v a b (by rw [if_neg (Nat.lt_irrefl _)]; omega)
    omega
   cases v with
   | nil => exact hno [] hv hp (Nat.zero_le _)
   | cons d t =>
    obtain ⟨hd, ht⟩ := dirs_cons.1 hv
    have hst := stM_range M i d (by omega) (by omega) hd.1 hd.2
    have hfs : rdOf false l (stM W H l i d) = false := rollN_free d 64 i hf
    obtain ⟨j, hj⟩ : ∃ j : Nat, stM W H l i d = (j : Int) := ⟨(stM W H l i d).toNat, by omega⟩
    simp only [pth, List.length_cons] at hp hl
    have hn' := hn d hd.1 hd.2
    rw [hj] at hp hst hfs hn'
    rw [Int.toNat_natCast] at hn'
    rw [if_pos (by omega)] at hl
    have h0 := h.full j (by omega) hfs t ht hp (by omega)
    obtain ⟨m, e, D, _⟩ := h.pos j (by omega) h0
    have hm := D.least t ht hp
    obtain ⟨u, hu, hup, hul⟩ := D.some_
    have := hno (d :: u) (dirs_cons.2 ⟨hd, hu⟩) (by simp only [pth]; rw [hj]; exact hup)
    simp only [List.length_cons] at this
    omega
  ·refine h.full i hi hf v hv hp ?_
   split at hl <;> split <;> omega
theorem Fa.put (M : Mv W H l fr z) {s c : Nat} {X : Nat → Int} (h : Fa W H l z s c X) (hcl : c < l.length) (hc : X c < 0) (hf : rdOf false l c = false) {d : Int} (hd : 0 ≤ d ∧ d ≤ 3) (hx : X (stM W H l c d).toNat = s) : Fa W H l z s (c + 1) (fun i => if i = c then ((s + 1 : Nat) : Int) else X i) where
 pos i hi hx' := by
  by_cases q : i = c
  ·subst q
   have hst := stM_range M i d (by omega) (by omega) hd.1 hd.2
   obtain ⟨j, hj⟩ : ∃ j : Nat, stM W H l i d = (j : Int) := ⟨(stM W H l i d).toNat, by omega⟩
   rw [hj] at hst
   rw [hj, Int.toNat_natCast] at hx
   obtain ⟨m, e, D, _⟩ := h.pos j (by omega) (by omega)
   obtain rfl : m = s := by omega
   obtain ⟨u, hu, hup, hul⟩ := D.some_
   refine ⟨m + 1, by simp, ⟨⟨d :: u, dirs_cons.2 ⟨hd, hu⟩, by simp only [pth]; rw [hj]; exact hup, by simp [hul]⟩, fun v hv hp => ?_⟩, by rw [if_pos (by omega)]; omega⟩
   rcases Nat.lt_or_ge m v.length with r | r
   ·omega
   ·have := h.full i hi hf v hv hp (by rw [if_neg (Nat.lt_irrefl _)]; omega)
    omega
  ·rw [if_neg q] at hx'
   obtain ⟨m, a, b, e⟩ := h.pos i hi hx'
   refine ⟨m, by rw [if_neg q]; exact a, b, ?_⟩
   split at e <;> split <;> omega
 full i hi hf v hv hp hl := by
  by_cases q : i = c
  ·rw [if_pos q]; omega
  ·rw [if_neg q]
   refine h.full i hi hf v hv hp ?_
   split at hl <;> split <;> omega
/-- The document's distances: all of them. -/
structure Far (W H : Int) (l : List Bool) (z : Int) (X : Nat → Int) : Prop where
 pos : ∀ i, i < l.length → 0 ≤ X i → ∃ m : Nat, X i = m ∧ Ds (stM W H l) i z m
 all : ∀ i, i < l.length → rdOf false l i = false → Rch W H l i z → 0 ≤ X i
/-- It ends in such a table. -/
def Fr (W H : Int) (l : List Bool) (z : Int) (g : Nat → Option (List Int)) : Prop := ∃ Y, Far W H l z Y ∧ Ev g (tab l.length Y)
theorem Fr.step {g f : Nat → Option (List Int)} (h : ∀ k, g (k + 1) = f k) : Fr W H l z f → Fr W H l z g := fun ⟨Y, a, b⟩ => ⟨Y, a, Ev.step h b⟩
theorem Fr.congr {g f : Nat → Option (List Int)} (h : ∀ k, g k = f k) : Fr W H l z f → Fr W H l z g := fun ⟨Y, a, b⟩ => ⟨Y, a, Ev.congr h b⟩
theorem Fr.bind {α : Type} {g : Nat → Option α} {f : Nat → α → Option (List Int)} {a : α} (h : Ev g a) : Fr W H l z (fun n => f n a) → Fr W H l z (fun n => (g n).bind (f n)) := fun ⟨Y, c, b⟩ => ⟨Y, c, Ev.bind h b⟩
/-- One cell in a round. -/
theorem far_cell (M : Mv W H l fr z) (s c : Nat) (hs : s < l.length) (hcl : c < l.length) 
  (next : ∀ X, Fa W H l z s (c + 1) X → Fr W H l z (fun k => padlockref03_far.l2 k (tab l.length X) (s : Int) ((c + 1 : Nat) : Int) W H l fr z)) :
  ∀ X, Fa W H l z s c X → Fr W H l z (fun k => padlockref03_far.l3 k (tab l.length X) (s : Int) (c : Int) 0 W H l fr z) := by
 have n64 := M.n64
 have ec : wrap64 ((c : Int) + 1) = ((c + 1 : Nat) : Int) := by rw [w64 _ (by omega) (by omega)]; omega
 have es : wrap64 ((s : Int) + 1) = ((s + 1 : Nat) : Int) := by rw [w64 _ (by omega) (by omega)]; omega
 have hc0 : (0 : Int) ≤ (c : Int) := by omega
 have hc1 : (c : Int) < (l.length : Int) := by omega
 have fin : ∀ X, Fa W H l z s (c + 1) X → ∀ d : Int, Fr W H l z (fun k => padlockref03_far.j4 k (tab l.length X) (s : Int) (c : Int) d false W H l fr z) := fun X hX d => by
  refine Fr.step (fun k => ?_) (next X hX)
  rw [padlockref03_far.j4, if_neg (by decide), ec]
 have done_ : ∀ X, Fa W H l z s (c + 1) X → 0 ≤ X c → ∀ d : Int, Fr W H l z (fun k => padlockref03_far.l3 k (tab l.length X) (s : Int) (c : Int) d W H l fr z) := fun X hX h0 d => by
  refine Fr.step (fun k => ?_) (fin X hX d)
  rw [padlockref03_far.l3]
  by_cases q : d < 4
  ·rw [if_pos q, if_pos hc0, if_pos (by rw [tab_len]; exact hc1), rdi_tab _ _ hc0 hc1, Int.toNat_natCast, if_neg (by omega)]
  ·rw [if_neg q]
 intro X hX
 by_cases q0 : 0 ≤ X c
 ·exact done_ X (hX.skip (.inl q0)) q0 0
 have start : ∀ d : Int, d < 4 → Fr W H l z (fun k => padlockref03_far.j4 k (tab l.length X) (s : Int) (c : Int) d (!(rdOf false l c)) W H l fr z) → Fr W H l z (fun k => padlockref03_far.l3 k (tab l.length X) (s : Int) (c : Int) d W H l fr z) := fun d hd h => by
  refine Fr.step (fun k => ?_) h
  rw [padlockref03_far.l3, if_pos hd, if_pos hc0, if_pos (by rw [tab_len]; exact hc1), rdi_tab _ _ hc0 hc1, Int.toNat_natCast, if_pos (by omega), if_pos hc1]
 cases hw : rdOf false l (c : Int) with
 | true =>
  refine start 0 (by omega) ?_
  rw [hw]
  exact fin X (hX.skip (.inr hw)) 0
 | false =>
  have key : ∀ (m : Nat) (d : Int), d + m = 4 → 0 ≤ d → (∀ e, 0 ≤ e → e < d → X (stM W H l c e).toNat ≠ s) → Fr W H l z (fun k => padlockref03_far.l3 k (tab l.length X) (s : Int) (c : Int) d W H l fr z) := by
   intro m
   induction m with
   | zero =>
    intro d hd h0 hn
    refine Fr.step (fun k => ?_) (fin X (hX.none_ M hcl (by omega) (fun e a b => hn e a (by omega))) d)
    rw [padlockref03_far.l3, if_neg (by omega)]
   | succ m ih =>
    intro d hd h0 hn
    have hd3 : 0 ≤ d ∧ d ≤ 3 := by omega
    have hst := stM_range M c d hc0 hc1 hd3.1 hd3.2
    have ed : wrap64 (d + 1) = d + 1 := w64 _ (by omega) (by omega)
    refine start d (by omega) ?_
    rw [hw]
    refine Fr.step (f := fun k => (padlockref03_rolls.f k W H l fr z (c : Int) d).bind fun t298 => (if 0 ≤ t298 then (if t298 < ((tab l.length X).length : Int) then (if (rd (tab l.length X) t298) = (s : Int) then (if 0 ≤ (c : Int) then (if (c : Int) < ((tab l.length X).length : Int) then (padlockref03_far.l3 k ((tab l.length X).set (c : Int).toNat ((s + 1 : Nat) : Int)) (s : Int) (c : Int) (d + 1) W H l fr z) else (none)) else (none)) else (padlockref03_far.l3 k (tab l.length X) (s : Int) (c : Int) (d + 1) W H l fr z)) else (none)) else (none))) (fun k => by rw [padlockref03_far.j4, if_pos (by decide), es, ed]) (Fr.bind (rolls_ev M hc0 hc1 hd3) ?_)
    by_cases q : X (stM W H l c d).toNat = s
    ·refine Fr.congr (fun k => ?_) (done_ _ (hX.put M hcl (by omega) hw hd3 q) (by simp; omega) (d + 1))
     rw [if_pos hst.1, if_pos (by rw [tab_len]; exact hst.2), rdi_tab _ _ hst.1 hst.2, if_pos q, if_pos hc0, if_pos (by rw [tab_len]; exact hc1), Int.toNat_natCast, tab_set]
    ·refine Fr.congr (fun k => ?_) (ih (d + 1) (by omega) (by omega) (fun e a b => by
      by_cases qe : e = d
      ·rw [qe]; exact q
      ·exact hn e a (by omega)))
     rw [if_pos hst.1, if_pos (by rw [tab_len]; exact hst.2), rdi_tab _ _ hst.1 hst.2, if_neg q]
  exact key 4 0 rfl (by omega) (fun e a b => by omega)
theorem far_cells (M : Mv W H l fr z) (s : Nat) (hs : s < l.length) 
  (next : ∀ X, Fa W H l z (s + 1) 0 X → Fr W H l z (fun k => padlockref03_far.l1 k (tab l.length X) ((s + 1 : Nat) : Int) W H l fr z)) :
  ∀ (m c : Nat) (X : Nat → Int), c + m = l.length → Fa W H l z s c X → Fr W H l z (fun k => padlockref03_far.l2 k (tab l.length X) (s : Int) (c : Int) W H l fr z) := by
 have n64 := M.n64
 have es : wrap64 ((s : Int) + 1) = ((s + 1 : Nat) : Int) := by rw [w64 _ (by omega) (by omega)]; omega
 intro m
 induction m with
 | zero =>
  intro c X hc hX
  obtain rfl : c = l.length := by omega
  refine Fr.step (fun k => ?_) (next X hX.round)
  rw [padlockref03_far.l2, if_neg (by rw [tab_len]; omega), es]
 | succ m ih =>
  intro c X hc hX
  refine Fr.step (fun k => ?_) (far_cell M s c hs (by omega) (fun X' h' => ih (c + 1) X' (by omega) h') X hX)
  rw [padlockref03_far.l2, if_pos (by rw [tab_len]; omega)]
theorem far_rounds (M : Mv W H l fr z) : ∀ (m s : Nat) (X : Nat → Int), s + m = l.length → Fa W H l z s 0 X → Fr W H l z (fun k => padlockref03_far.l1 k (tab l.length X) (s : Int) W H l fr z) := by
 have n64 := M.n64
 intro m
 induction m with
 | zero =>
  intro s X hs hX
  refine ⟨X, ⟨fun i hi h0 => ?_, fun i hi hf hR => ?_⟩, ?_⟩
  ·obtain ⟨m, a, b, _⟩ := hX.pos i hi h0
   exact ⟨m, a, b⟩
  ·obtain ⟨v, h1, h2⟩ := hR
   obtain ⟨L, _, D, hr⟩ := reached_all M i (by omega) (by omega)
   obtain ⟨e, h3, h4⟩ := D.all v h1
   have hb := D.best e h3
   have hsh := D.short e h3
   have hll := apart_le D.apart hr
   exact hX.full i hi hf e.2 hb.dir (by rw [hb.at_, h4, h2]) (by simp; omega)
  ·refine Ev.step (f := fun _ => some (tab l.length X)) (fun k => ?_) (Ev.now _)
   rw [padlockref03_far.l1, if_neg (by rw [tab_len]; omega)]
 | succ m ih =>
  intro s X hs hX
  refine Fr.step (fun k => ?_) (far_cells M s (by omega) (fun X' h' => ih (s + 1) X' (by omega) h') l.length 0 X (by omega) hX)
  rw [padlockref03_far.l1, if_pos (by rw [tab_len]; omega)]
  rfl
/-- The document's table. -/
theorem far_ev (M : Mv W H l fr z) : Fr W H l z (fun k => padlockref03_far.f k W H l fr z) := by
 have n64 := M.n64
 have z0 := M.z0
 have z1 := M.z1
 have build : ∀ (m i : Nat), i + m = l.length → Fr W H l z (fun k => padlockref03_far.l0 k (tab l.length (fun c => if c < i then -1 else 0)) (i : Int) W H l fr z) := by
  intro m
  induction m with
  | zero =>
   intro i hi
   obtain rfl : i = l.length := by omega
   refine Fr.step (fun k => ?_) (far_rounds M l.length 0 _ (by omega) (Fa.start z0))
   rw [padlockref03_far.l0, if_neg (by rw [tab_len]; omega), if_pos z0, if_pos (by rw [tab_len]; exact z1), tab_set]
   rw [show tab l.length (fun c => if c = z.toNat then (0 : Int) else if c < l.length then -1 else 0) = tab l.length (fun i => if i = z.toNat then 0 else -1) from tab_ext fun c hc => by rw [if_pos hc]]
   rfl
  | succ m ih =>
   intro i hi
   refine Fr.step (fun k => ?_) (ih (i + 1) (by omega))
   rw [padlockref03_far.l0, if_pos (by rw [tab_len]; omega), if_pos (by omega), Int.toNat_natCast, tab_set, w64 _ (by omega) (by omega)]
   rw [show tab l.length (fun c => if c = i then (-1 : Int) else if c < i then -1 else 0) = tab l.length (fun c => if c < i + 1 then -1 else 0) from tab_ext fun c hc => by
    by_cases q : c = i
    ·rw [if_pos q, if_pos (by omega)]
    ·rw [if_neg q]
     by_cases q2 : c < i
     ·rw [if_pos q2, if_pos (by omega)]
     ·rw [if_neg q2, if_neg (by omega)]]
   rfl
 refine Fr.congr (fun k => ?_) (build l.length 0 (by omega))
 unfold padlockref03_far.f
 rw [if_pos (by omega), if_pos (by omega), Int.toNat_natCast, tab_replicate]
 rfl
/-- A side on a shortest way. -/
theorem far_side {X : Nat → Int} (M : Mv W H l fr z) (F : Far W H l z X) {c : Int} (h0 : 0 ≤ c) (h1 : c < l.length) (hf : rdOf false l c = false) {m : Nat} (D : Ds (stM W H l) c z (m + 1)) {d : Int} {t : List Int} (hd : 0 ≤ d ∧ d ≤ 3) (ht : dirs t) (hp : pth (stM W H l) (stM W H l c d) t = z) (hl : t.length = m) : X (stM W H l c d).toNat = m := by
 have hst := stM_range M c d h0 h1 hd.1 hd.2
 have hfs : rdOf false l (stM W H l c d) = false := rollN_free d 64 c hf
 obtain ⟨j, hj⟩ : ∃ j : Nat, stM W H l c d = (j : Int) := ⟨(stM W H l c d).toNat, by omega⟩
 rw [hj] at hst hfs hp ⊢
 rw [Int.toNat_natCast]
 obtain ⟨m', e, D'⟩ := F.pos j (by omega) (F.all j (by omega) hfs ⟨t, ht, hp⟩)
 have a := D'.least t ht hp
 obtain ⟨u, hu, hup, hul⟩ := D'.some_
 have b := D.least (d :: u) (dirs_cons.2 ⟨hd, hu⟩) (by simp only [pth]; rw [hj]; exact hup)
 simp only [List.length_cons] at b
 omega
/-- The document's way out. -/
theorem refway {X : Nat → Int} (M : Mv W H l fr z) (F : Far W H l z X) : ∀ (m : Nat) (c : Int), 0 ≤ c → c < l.length → rdOf false l c = false → X c.toNat = m → Ds (stM W H l) c z m →
  ∃ w, Best (stM W H l) c z w ∧ w.length = m ∧ ∀ out : List Int, out.length + m < 1000 → Ev (fun k => padlockref03_Escape.l0 k (tab l.length X) out c W H l fr z) (out ++ w, 0) := by
 have n64 := M.n64
 intro m
 induction m with
 | zero =>
  intro c h0 h1 hf hx D
  obtain ⟨v, hv, hp, hl⟩ := D.some_
  obtain rfl : v = [] := List.eq_nil_of_length_eq_zero hl
  refine ⟨[], ⟨dirs_nil, hp, fun v hv _ => by have := cd_ge (n := 1) hv (by omega); exact this⟩, rfl, fun out _ => ?_⟩
  refine Ev.step (f := fun _ => some (out, 0)) (fun k => ?_) (Ev.eq (Ev.now _) (by rw [List.append_nil]))
  rw [padlockref03_Escape.l0, if_pos h0, if_pos (by rw [tab_len]; exact h1), rdi_tab _ _ h0 h1, hx, if_neg (by omega)]
 | succ m ih =>
  intro c h0 h1 hf hx D
  obtain ⟨v, hv, hp, hl⟩ := D.some_
  have hex : ∃ d, 0 ≤ d ∧ d ≤ 3 ∧ X (stM W H l c d).toNat = m := by
   cases v with
   | nil => simp at hl
   | cons d t =>
    obtain ⟨hd, ht⟩ := dirs_cons.1 hv
    exact ⟨d, hd.1, hd.2, far_side M F h0 h1 hf D hd ht hp (by simpa using hl)⟩
  obtain ⟨d, d0, d3, hxd, hleast⟩ := least4 (fun d => X (stM W H l c d).toNat = m) hex
  have hst := stM_range M c d h0 h1 d0 d3
  have hfs : rdOf false l (stM W H l c d) = false := rollN_free d 64 c hf
  obtain ⟨m', hxm, D'⟩ := F.pos (stM W H l c d).toNat (by omega) (by omega)
  obtain rfl : m' = m := by omega
  rw [show (((stM W H l c d).toNat : Nat) : Int) = stM W H l c d from by omega] at D'
  obtain ⟨w, hB, hwl, hE⟩ := ih (stM W H l c d) hst.1 hst.2 hfs hxd D'
  refine ⟨d :: w, ⟨dirs_cons.2 ⟨⟨d0, d3⟩, hB.dir⟩, hB.at_, fun u hu hup => ?_⟩, by simp [hwl], fun out ho => ?_⟩
  ·have hul := D.least u hu hup
   rcases Nat.lt_or_ge (d :: w).length u.length with q | q
   ·exact Int.le_of_lt (cd_shorter (n := 1) (m := 1) q (dirs_cons.2 ⟨⟨d0, d3⟩, hB.dir⟩) hu (by omega) (by omega))
   ·cases u with
    | nil => simp at hul
    | cons e t =>
     simp only [List.length_cons] at q hul
     obtain ⟨he, ht⟩ := dirs_cons.1 hu
     have hxe := far_side M F h0 h1 hf D he ht hup (by omega)
     have hde : d ≤ e := by
      rcases Int.lt_or_le e d with r | r
      ·exact absurd hxe (hleast e he.1 r)
      ·exact r
     rcases Int.lt_or_eq_of_le hde with r | r
     ·exact Int.le_of_lt (cd_lt (n := 4 * 1 + d) (m := 4 * 1 + e) (u := w) (v := t) (by omega) hB.dir ht (by omega))
     ·subst r
      have hb := hB.least t ht hup
      have hdf := cd_diff (n := 4 * 1 + d) (m := 1) (n' := 4 * 1 + d) (m' := 1) (u := w) (v := t) (by omega) rfl
      simp only [cd]
      omega
  ·have scan : ∀ (j : Nat) (e : Int), e + j = d → 0 ≤ e → Ev (fun k => padlockref03_Escape.l1 k (tab l.length X) out c e W H l fr z) (out ++ d :: w, 0) := by
    have em : wrap64 (((m' + 1 : Nat) : Int) - 1) = (m' : Int) := by rw [w64 _ (by omega) (by omega)]; omega
    intro j
    induction j with
    | zero =>
     intro e he he0
     obtain rfl : e = d := by omega
     have hgo := hE (out ++ [e]) (by simp; omega)
     rw [List.append_assoc, List.singleton_append] at hgo
     refine Ev.step (fun k => by rw [padlockref03_Escape.l1]) (Ev.bind (rolls_ev M h0 h1 ⟨d0, d3⟩) ?_)
     refine Ev.congr (fun k => ?_) (Ev.bind (rolls_ev M h0 h1 ⟨d0, d3⟩) (f := fun k t314 => padlockref03_Escape.l0 k (tab l.length X) (out ++ [e]) t314 W H l fr z) hgo)
     rw [if_pos hst.1, if_pos (by rw [tab_len]; exact hst.2), if_pos h0, if_pos (by rw [tab_len]; exact h1), rdi_tab _ _ hst.1 hst.2, rdi_tab _ _ h0 h1, hx, em, if_pos hxd, if_pos (by omega)]
    | succ j ihj =>
     intro e he he0
     have he3 : 0 ≤ e ∧ e ≤ 3 := by omega
     have hse := stM_range M c e h0 h1 he3.1 he3.2
     refine Ev.step (fun k => by rw [padlockref03_Escape.l1]) (Ev.bind (rolls_ev M h0 h1 he3) ?_)
     refine Ev.congr (fun k => ?_) (ihj (e + 1) (by omega) (by omega))
     rw [if_pos hse.1, if_pos (by rw [tab_len]; exact hse.2), if_pos h0, if_pos (by rw [tab_len]; exact h1), rdi_tab _ _ hse.1 hse.2, rdi_tab _ _ h0 h1, hx, em, if_neg (hleast e he0 (by omega)), w64 _ (by omega) (by omega)]
   refine Ev.step (fun k => ?_) (scan d.toNat 0 (by omega) (by omega))
   rw [padlockref03_Escape.l0, if_pos h0, if_pos (by rw [tab_len]; exact h1), rdi_tab _ _ h0 h1, hx, if_pos (by omega)]
theorem ds_rch {st : Int → Int → Int} {c z : Int} {m : Nat} (D : Ds st c z m) : ∃ v, dirs v ∧ pth st c v = z := by
 obtain ⟨v, a, b, _⟩ := D.some_
 exact ⟨v, a, b⟩
/-- The document's Escape. -/
theorem refescape_ev (M : Mv W H l fr z) (hB : mazeB W H l fr z = true) {r : List Int × Int} (hr : (r.2 = 0 ∧ Best (stM W H l) fr z r.1 ∧ r.1.length < l.length) ∨ (r = ([], 3) ∧ ¬ Rch W H l fr z)) : Ev (fun k => padlockref03_Escape.f k W H l fr z) r := by
 have n64 := M.n64
 have f0 := M.f0
 have f1 := M.f1
 obtain ⟨X, F, hE⟩ := far_ev M
 have efr : ((fr.toNat : Nat) : Int) = fr := by omega
 unfold padlockref03_Escape.f
 refine Ev.bind (checkmaze_ok hB) ?_
 simp only [if_true]
 refine Ev.bind hE ?_
 rcases hr with ⟨r2, hb, hbl⟩ | ⟨rfl, hn⟩
 ·have hx := F.all fr.toNat (by omega) (by rw [efr]; exact M.ff) (by rw [efr]; exact ⟨r.1, hb.dir, hb.at_⟩)
  obtain ⟨m, hm, D⟩ := F.pos fr.toNat (by omega) hx
  rw [efr] at D
  have hml := D.least r.1 hb.dir hb.at_
  obtain ⟨w, hw, hwl, hgo⟩ := refway M F m fr f0 f1 M.ff hm D
  have hg := hgo [] (by simp; omega)
  rw [List.nil_append, hw.unique hb] at hg
  refine Ev.congr (fun k => ?_) (Ev.eq hg (by rw [← r2]))
  rw [if_pos f0, if_pos (by rw [tab_len]; exact f1), rdi_tab _ _ f0 f1, if_neg (by omega)]
 ·refine Ev.congr (fun k => ?_) (Ev.now _)
  rw [if_pos f0, if_pos (by rw [tab_len]; exact f1), rdi_tab _ _ f0 f1, if_pos]
  rcases Int.lt_or_le (X fr.toNat) 0 with q | q
  ·exact q
  ·obtain ⟨m, hm, D⟩ := F.pos fr.toNat (by omega) q
   rw [efr] at D
   exact absurd (ds_rch D) hn
/-! The document's traps. -/
theorem lies_side (M : Mv W H l fr z) (Y : Nat → Int) (s c : Nat) (hcl : c < l.length) {r : List Int × Int}
  (next : ∀ X, Ps (stM W H l) fr l.length s ((c + 1 : Nat) : Int) 0 X → Ev (fun k => padlockref03_Traps.l1 k (tab l.length Y) (tab l.length X) (s : Int) ((c + 1 : Nat) : Int) W H l fr z) r) :
  ∀ (m : Nat) (d : Int) (X : Nat → Bool), d + m = 4 → 0 ≤ d → Ps (stM W H l) fr l.length s (c : Int) d X → (d = 0 ∨ X c = true) → Ev (fun k => padlockref03_Traps.l2 k (tab l.length Y) (tab l.length X) (s : Int) (c : Int) d W H l fr z) r := by
 have n64 := M.n64
 have ec : wrap64 ((c : Int) + 1) = ((c + 1 : Nat) : Int) := by rw [w64 _ (by omega) (by omega)]; omega
 have ec2 : ((c + 1 : Nat) : Int) = (c : Int) + 1 := by omega
 have hc0 : (0 : Int) ≤ (c : Int) := by omega
 have hc1 : (c : Int) < (l.length : Int) := by omega
 intro m
 induction m with
 | zero =>
  intro d X hd h0 hP _
  obtain rfl : d = 4 := by omega
  refine Ev.step (fun k => ?_) (next X (by rw [ec2]; exact hP.over))
  rw [padlockref03_Traps.l2, if_neg (by omega), ec]
 | succ m ih =>
  intro d X hd h0 hP hX0
  have hd3 : 0 ≤ d ∧ d ≤ 3 := by omega
  have ed : wrap64 (d + 1) = d + 1 := w64 _ (by omega) (by omega)
  cases hX : X c with
  | false =>
   have hd0 : d = 0 := by
    rcases hX0 with q | q
    ·exact q
    ·rw [hX] at q; cases q
   subst hd0
   refine Ev.step (fun k => ?_) (next X (by rw [ec2]; exact hP.skip (by rw [Int.toNat_natCast]; exact hX)))
   rw [padlockref03_Traps.l2, if_pos (by omega), if_pos hc0, if_pos (by rw [tab_len]; exact hc1), rdb_tab _ _ hc0 hc1, Int.toNat_natCast, hX, if_neg (by decide), ec]
  | true =>
   have hst := stM_range M c d hc0 hc1 hd3.1 hd3.2
   have hM := hP.mark hc0 hc1 hd3.1 hd3.2 hst.1 (by rw [Int.toNat_natCast]; exact hX)
   refine Ev.step (f := fun k => (padlockref03_rolls.f k W H l fr z (c : Int) d).bind fun t325 => (if 0 ≤ t325 then (if t325 < ((tab l.length X).length : Int) then (padlockref03_Traps.l2 k (tab l.length Y) ((tab l.length X).set (t325 : Int).toNat true) (s : Int) (c : Int) (d + 1) W H l fr z) else (none)) else (none))) (fun k => ?_) (Ev.bind (rolls_ev M hc0 hc1 hd3) ?_)
   ·rw [padlockref03_Traps.l2, if_pos (by omega), if_pos hc0, if_pos (by rw [tab_len]; exact hc1), rdb_tab _ _ hc0 hc1, Int.toNat_natCast, hX, if_pos rfl, ed]
   ·refine Ev.congr (fun k => ?_) (ih (d + 1) _ (by omega) (by omega) hM (.inr (by simp [hX])))
    rw [if_pos hst.1, if_pos (by rw [tab_len]; exact hst.2), tab_set]
theorem lies_cells (M : Mv W H l fr z) (Y : Nat → Int) (s : Nat) (hs : s < l.length) {r : List Int × Int}
  (next : ∀ X, Ps (stM W H l) fr l.length (s + 1) 0 0 X → Ev (fun k => padlockref03_Traps.l0 k (tab l.length Y) (tab l.length X) ((s + 1 : Nat) : Int) W H l fr z) r) :
  ∀ (m c : Nat) (X : Nat → Bool), c + m = l.length → Ps (stM W H l) fr l.length s (c : Int) 0 X → Ev (fun k => padlockref03_Traps.l1 k (tab l.length Y) (tab l.length X) (s : Int) (c : Int) W H l fr z) r := by
 have n64 := M.n64
 have es : wrap64 ((s : Int) + 1) = ((s + 1 : Nat) : Int) := by rw [w64 _ (by omega) (by omega)]; omega
 intro m
 induction m with
 | zero =>
  intro c X hc hP
  obtain rfl : c = l.length := by omega
  refine Ev.step (fun k => ?_) (next X (hP.pass (stM_range M) M.f0 M.f1))
  rw [padlockref03_Traps.l1, if_neg (by rw [tab_len]; omega), es]
 | succ m ih =>
  intro c X hc hP
  refine Ev.step (fun k => ?_) (lies_side M Y s c (by omega) (fun X' h' => ih (c + 1) X' (by omega) h') 4 0 X rfl (by omega) hP (.inl rfl))
  rw [padlockref03_Traps.l1, if_pos (by rw [tab_len]; omega)]
theorem lies_rounds (M : Mv W H l fr z) (Y : Nat → Int) {L : List En} (D : Done (stM W H l) fr L) (hr : ∀ e ∈ L, 0 ≤ e.1 ∧ e.1 < (l.length : Nat)) {r : List Int × Int}
  (next : Ev (fun k => padlockref03_Traps.l3 k (tab l.length Y) (tab l.length (met L)) ([] : List Int) 0) r) :
  ∀ (m s : Nat) (X : Nat → Bool), s + m = l.length → Ps (stM W H l) fr l.length s 0 0 X → Ev (fun k => padlockref03_Traps.l0 k (tab l.length Y) (tab l.length X) (s : Int) W H l fr z) r := by
 have n64 := M.n64
 intro m
 induction m with
 | zero =>
  intro s X hs hP
  rw [show tab l.length X = tab l.length (met L) from tab_ext fun i hi => hP.full D hr (by omega) i hi]
  refine Ev.step (fun k => ?_) next
  rw [padlockref03_Traps.l0, if_neg (by rw [tab_len]; omega)]
 | succ m ih =>
  intro s X hs hP
  refine Ev.step (fun k => ?_) (lies_cells M Y s (by omega) (fun X' h' => ih (s + 1) X' (by omega) h') l.length 0 X (by omega) hP)
  rw [padlockref03_Traps.l0, if_pos (by rw [tab_len]; omega)]
  rfl
theorem lies_pick (n : Nat) (hn : n ≤ 64) (Y : Nat → Int) (B : Nat → Bool) : ∀ (m i : Nat) (acc : List Int), i + m = n → acc.length ≤ i → Ev (fun k => padlockref03_Traps.l3 k (tab n Y) (tab n B) acc (i : Int)) (acc ++ pick (fun j => B j && decide (Y j < 0)) m i, 0) := by
 intro m
 induction m with
 | zero =>
  intro i acc hi ha
  refine Ev.step (f := fun _ => some (acc, 0)) (fun k => ?_) (Ev.eq (Ev.now _) (by rw [pick, List.append_nil]))
  rw [padlockref03_Traps.l3, if_neg (by rw [tab_len]; omega)]
 | succ m ih =>
  intro i acc hi ha
  have hi0 : (0 : Int) ≤ (i : Int) := by omega
  have hi1 : (i : Int) < (n : Int) := by omega
  have e1 : wrap64 ((i : Int) + 1) = ((i + 1 : Nat) : Int) := by rw [w64 _ (by omega) (by omega)]; omega
  rw [pick]
  by_cases q : B i = true
  ·by_cases q2 : Y i < 0
   ·rw [if_pos (by rw [q, decide_eq_true q2]; rfl)]
    refine Ev.step (fun k => ?_) (Ev.eq (ih (i + 1) (acc ++ [(i : Int)]) (by omega) (by simp; omega)) (by rw [List.append_assoc, List.singleton_append]))
    rw [padlockref03_Traps.l3, if_pos (by rw [tab_len]; exact hi1), if_pos hi0, if_pos (by rw [tab_len]; exact hi1), rdb_tab _ _ hi0 hi1, rdi_tab _ _ hi0 hi1, Int.toNat_natCast, if_pos q, if_pos q2, if_pos (by omega), e1]
   ·rw [if_neg (by rw [decide_eq_false q2, Bool.and_false]; decide)]
    refine Ev.step (fun k => ?_) (ih (i + 1) acc (by omega) (by omega))
    rw [padlockref03_Traps.l3, if_pos (by rw [tab_len]; exact hi1), if_pos hi0, if_pos (by rw [tab_len]; exact hi1), rdb_tab _ _ hi0 hi1, rdi_tab _ _ hi0 hi1, Int.toNat_natCast, if_pos q, if_neg q2, e1]
  ·have q' := q
   rw [Bool.not_eq_true] at q'
   rw [if_neg (by rw [q', Bool.false_and]; decide)]
   refine Ev.step (fun k => ?_) (ih (i + 1) acc (by omega) (by omega))
   rw [padlockref03_Traps.l3, if_pos (by rw [tab_len]; exact hi1), if_pos hi0, if_pos (by rw [tab_len]; exact hi1), rdb_tab _ _ hi0 hi1, Int.toNat_natCast, if_neg q, e1]
/-- The document's Traps. -/
theorem reftraps_ev (M : Mv W H l fr z) (hB : mazeB W H l fr z = true) {T : List Int} (hs : T.Pairwise (· < ·)) (hT : ∀ c, c ∈ T ↔ Rch W H l fr c ∧ ¬ Rch W H l c z) : Ev (fun k => padlockref03_Traps.f k W H l fr z) (T, 0) := by
 have n64 := M.n64
 have f0 := M.f0
 have f1 := M.f1
 obtain ⟨Y, F, hE⟩ := far_ev M
 obtain ⟨L, _, D, hr⟩ := reached_all M fr f0 f1
 have hTe : T = pick (fun j => met L j && decide (Y j < 0)) l.length 0 := by
  refine sorted_eq _ _ hs (pick_sorted _ _ _) (fun x => ?_)
  rw [hT, pick_mem]
  have hmet : ∀ j : Nat, met L j = true ↔ Rch W H l fr j := fun j => done_any D
  constructor
  ·rintro ⟨a, b⟩
   obtain ⟨v, hv, hp⟩ := a
   have hrg := pth_range (stM_range M) v fr hv f0 f1
   rw [hp] at hrg
   refine ⟨x.toNat, by omega, by omega, ?_, by omega⟩
   rw [Bool.and_eq_true, decide_eq_true_eq]
   refine ⟨(hmet _).2 ⟨v, hv, by omega⟩, ?_⟩
   rcases Int.lt_or_le (Y x.toNat) 0 with q | q
   ·exact q
   ·obtain ⟨m, _, D'⟩ := F.pos x.toNat (by omega) q
    have := ds_rch D'
    rw [show ((x.toNat : Nat) : Int) = x from by omega] at this
    exact absurd this b
  ·rintro ⟨j, _, hj, hp, rfl⟩
   rw [Bool.and_eq_true, decide_eq_true_eq] at hp
   have hR := (hmet j).1 hp.1
   refine ⟨hR, fun h => ?_⟩
   obtain ⟨v, hv, hpv⟩ := hR
   have hfree : rdOf false l (j : Int) = false := by rw [← hpv]; exact pth_free v fr M.ff
   have := F.all j (by omega) hfree h
   omega
 have hm : (List.replicate l.length false).set fr.toNat true = tab l.length (fun i => decide (i = fr.toNat)) := by
  rw [tab_replicate, tab_set]
  refine tab_ext fun j _ => ?_
  by_cases q : j = fr.toNat
  ·rw [if_pos q, decide_eq_true q]
  ·rw [if_neg q, decide_eq_false q]
 unfold padlockref03_Traps.f
 refine Ev.bind (checkmaze_ok hB) ?_
 simp only [if_true]
 refine Ev.bind hE ?_
 have hl3 := lies_pick l.length n64 Y (met L) l.length 0 [] (by omega) (by simp)
 rw [List.nil_append, ← hTe] at hl3
 refine Ev.congr (fun k => ?_) (lies_rounds M Y D hr hl3 l.length 0 _ (by omega) (Ps.start f0))
 rw [tab_len, if_pos (by omega), if_pos (by omega), Option.bind_some, if_pos f0, if_pos (by simpa using f1), Int.toNat_natCast, hm]
 rfl
/-- The law Rolls. -/
theorem rolls_law (mv : List Int) : Ev (fun k => padlocklaw03_PuzzlesRolls.f k W H l fr z mv) true := by
 by_cases hB : mazeB W H l fr z = true
 ·have M := mazeB_facts hB
  have n64 := M.n64
  obtain ⟨r, hr, hE⟩ := escape_all M hB
  obtain ⟨T, hT1, hTs, hTl, hT⟩ := traps_all M hB
  have hrl : r.1.length ≤ maxLen := by
   unfold maxLen
   rcases hE with ⟨_, _, a⟩ | ⟨a, _⟩
   ·omega
   ·rw [a]; simp
  unfold padlocklaw03_PuzzlesRolls.f
  refine Ev.bind (a := rollR W H l fr mv) ⟨65, fun k hk => roll_all M hB mv k hk⟩ ?_
  refine Ev.bind (refroll_ev M hB mv) ?_
  simp only [if_true, bne_self_eq_false]
  refine Ev.step (fun k => by rw [padlocklaw03_PuzzlesRolls.j0, if_neg (by decide)]) ?_
  refine Ev.bind (a := r) ⟨65, hr⟩ (Ev.bind (refescape_ev M hB hE) ?_)
  simp only [if_true]
  refine Ev.bind (sameInts_ev r.1 r.1 hrl) ?_
  simp only [decide_true, Bool.not_true]
  refine Ev.step (fun k => by rw [padlocklaw03_PuzzlesRolls.j1, if_neg (by decide)]) ?_
  refine Ev.bind (a := (T, 0)) ⟨65, hT1⟩ (Ev.bind (reftraps_ev M hB hTs hT) ?_)
  simp only [if_true]
  refine Ev.bind (sameInts_ev T T (by unfold maxLen; omega)) ?_
  simp only [decide_true, if_true]
  exact Ev.bind works_ev (Ev.now _)
 ·have h1 : ∀ k, puzzles_Roll.f k W H l fr z mv = some (0, 30) := fun k => by unfold puzzles_Roll.f; rw [if_neg hB]
  have h2 : ∀ k, puzzles_Escape.f k W H l fr z = some ([], 30) := fun k => by unfold puzzles_Escape.f; rw [if_neg hB]
  have h3 : ∀ k, puzzles_Traps.f k W H l fr z = some ([], 30) := fun k => by unfold puzzles_Traps.f; rw [if_neg hB]
  have g1 : Ev (fun k => padlockref03_Roll.f k W H l fr z mv) (0, 30) := by
   unfold padlockref03_Roll.f
   refine Ev.bind (checkmaze_no hB) ?_
   exact Ev.congr (fun k => if_neg (by decide)) (Ev.now _)
  have g2 : Ev (fun k => padlockref03_Escape.f k W H l fr z) ([], 30) := by
   unfold padlockref03_Escape.f
   refine Ev.bind (checkmaze_no hB) ?_
   exact Ev.congr (fun k => if_neg (by decide)) (Ev.now _)
  have g3 : Ev (fun k => padlockref03_Traps.f k W H l fr z) ([], 30) := by
   unfold padlockref03_Traps.f
   refine Ev.bind (checkmaze_no hB) ?_
   exact Ev.congr (fun k => if_neg (by decide)) (Ev.now _)
  unfold padlocklaw03_PuzzlesRolls.f
  refine Ev.bind (a := (0, 30)) ⟨0, fun k _ => h1 k⟩ (Ev.bind g1 ?_)
  simp only [if_true, bne_self_eq_false]
  refine Ev.step (fun k => by rw [padlocklaw03_PuzzlesRolls.j0, if_neg (by decide)]) ?_
  refine Ev.bind (a := ([], 30)) ⟨0, fun k _ => h2 k⟩ (Ev.bind g2 ?_)
  simp only [if_true]
  refine Ev.bind (sameInts_ev [] [] (by simp)) ?_
  simp only [decide_true, Bool.not_true]
  refine Ev.step (fun k => by rw [padlocklaw03_PuzzlesRolls.j1, if_neg (by decide)]) ?_
  refine Ev.bind (a := ([], 30)) ⟨0, fun k _ => h3 k⟩ (Ev.bind g3 ?_)
  simp only [if_true]
  refine Ev.bind (sameInts_ev [] [] (by simp)) ?_
  simp only [decide_true, if_true]
  exact Ev.bind works_ev (Ev.now _)
end

end Go.Proofs.Ytdhiijleafcfcaa.T
