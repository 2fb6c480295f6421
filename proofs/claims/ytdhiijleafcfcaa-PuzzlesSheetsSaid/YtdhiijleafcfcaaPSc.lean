/- Sheets in plain lists: what is seen. -/
import Derived.Test.YtdhiijleafcfcaaT0
import Derived.Test.YtdhiijleafcfcaaPSa
import Derived.Test.YtdhiijleafcfcaaTss
import Derived.Test.YtdhiijleafcfcaaTse
namespace Go.Proofs.Ytdhiijleafcfcaa.T
open Go.RowKit Go.Proofs.YtdhiijleafcfcaaW.PrintWords Go.Proofs.YtdhiijleafcfcaaW.PrintLast Go.Proofs.YtdhiijleafcfcaaW.PrintMore
attribute [local go_sem] max2_int min2_int max_two min_two max_three min_three max_four min_four
set_option linter.unusedVariables false
set_option linter.unusedSimpArgs false

def cat (f : Int → List Int) (lo : Int) : Nat → List Int
 | 0 => []
 | n + 1 => cat f lo n ++ f (lo + (n : Int))
theorem cat_add (f : Int → List Int) (lo : Int) (a : Nat) : ∀ b, cat f lo (a + b) = cat f lo a ++ cat f (lo + (a : Int)) b
 | 0 => by simp [cat]
 | b + 1 => by
  rw [← Nat.add_assoc, cat, cat, cat_add f lo a b, List.append_assoc]
  congr 3
  omega
theorem cat_nil (f : Int → List Int) (lo : Int) : ∀ n : Nat, (∀ z, lo ≤ z → z < lo + (n : Int) → f z = []) → cat f lo n = []
 | 0, _ => rfl
 | n + 1, h => by rw [cat, cat_nil f lo n (fun z a b => h z a (by omega)), h _ (by omega) (by omega)]; rfl
theorem cat_ext {f g : Int → List Int} {lo : Int} : ∀ {n : Nat}, (∀ z, lo ≤ z → z < lo + (n : Int) → f z = g z) → cat f lo n = cat g lo n
 | 0, _ => rfl
 | n + 1, h => by rw [cat, cat, cat_ext (fun z a b => h z a (by omega)), h _ (by omega) (by omega)]
theorem cat_wide (f : Int → List Int) (lo L : Int) (n N : Nat) (h : ∀ z, ¬ (lo ≤ z ∧ z < lo + (n : Int)) → f z = []) (h1 : L ≤ lo) (h2 : lo + (n : Int) ≤ L + (N : Int)) : cat f L N = cat f lo n := by
 obtain ⟨a, ha⟩ : ∃ a : Nat, lo = L + (a : Int) := ⟨(lo - L).toNat, by omega⟩
 obtain ⟨b, hb⟩ : ∃ b : Nat, N = a + (n + b) := ⟨N - a - n, by omega⟩
 subst hb
 rw [cat_add, cat_add, cat_nil f L a (fun z _ q => h z (by omega)), cat_nil f _ b (fun z q _ => h z (by omega)), ← ha]
 simp
theorem cat_shift (f : Int → List Int) (y : Int) (n m : Nat) (h1 : ∀ z, ¬ (0 ≤ z ∧ z < (m : Int)) → f z = []) (h2 : ∀ z, ¬ (y ≤ z ∧ z < y + (n : Int)) → f z = []) : cat f y n = cat f 0 m := by
 obtain ⟨L, N, a, b, c, d⟩ : ∃ (L : Int) (N : Nat), L ≤ 0 ∧ L ≤ y ∧ y + (n : Int) ≤ L + (N : Int) ∧ (m : Int) ≤ L + (N : Int) := ⟨-(y.natAbs : Int), n + m + 2 * y.natAbs, by omega, by omega, by omega, by omega⟩
 rw [← cat_wide f y L n N h2 b c, ← cat_wide f 0 L m N (fun z q => h1 z (by omega)) a (by omega)]
theorem cat_len (f : Int → List Int) (b : Nat) (h : ∀ z, (f z).length ≤ b) (lo : Int) : ∀ n : Nat, (cat f lo n).length ≤ b * n
 | 0 => Nat.zero_le _
 | n + 1 => by
  have := cat_len f b h lo n
  have := h (lo + (n : Int))
  rw [cat, List.length_append, Nat.mul_succ]
  omega
/-- What is seen at a cell of the lower sheet. -/
def gS (u l : List ByteArray) (x y r c : Int) : List Int :=
 if ((0 ≤ r - y ∧ r - y < u.length) ∧ (0 ≤ c - x ∧ c - x < w0 u) ∧ (0 ≤ r ∧ r < l.length) ∧ (0 ≤ c ∧ c < w0 l)) ∧ chS u (r - y) (c - x) = 46 ∧ chS l r c ≠ 46 then [chS l r c] else []
theorem gS_len (u l : List ByteArray) (x y r c : Int) : (gS u l x y r c).length ≤ 1 := by
 unfold gS
 split <;> simp
/-- What is seen. -/
def seenT (u l : List ByteArray) (x y : Int) : List Int := cat (fun r => cat (gS u l x y r) 0 (w0 l)) 0 l.length
theorem cell_g {u l : List ByteArray} {x y : Int} {i j : Nat} (hi : i < u.length) (hj : j < w0 u) : cellS u l x y i j = gS u l x y ((i : Int) + y) (x + (j : Int)) := by
 unfold cellS gS inR
 rw [show (i : Int) + y - y = (i : Int) from by omega, show x + (j : Int) - x = (j : Int) from by omega, show (j : Int) + x = x + (j : Int) from by omega]
 unfold chS
 have hw : (rdOf ByteArray.empty l 0).size = w0 l := rfl
 rw [hw]
 simp only [Bool.and_eq_true, decide_eq_true_eq]
 by_cases q : bt (rdOf ByteArray.empty u (i : Int)) (j : Int) = 46 ∧ (0 ≤ (i : Int) + y ∧ (i : Int) + y ≤ (l.length : Int) - 1) ∧ 0 ≤ x + (j : Int) ∧ x + (j : Int) ≤ (w0 l : Int) - 1
 ·rw [if_pos q]
  by_cases q2 : bt (rdOf ByteArray.empty l ((i : Int) + y)) (x + (j : Int)) = 46
  ·rw [if_pos q2, if_neg (fun h => h.2.2 q2)]
  ·rw [if_neg q2, if_pos ⟨⟨⟨by omega, by omega⟩, ⟨by omega, by omega⟩, ⟨q.2.1.1, by omega⟩, ⟨q.2.2.1, by omega⟩⟩, q.1, q2⟩]
 ·rw [if_neg q, if_neg (fun h => q ⟨h.2.1, ⟨h.1.2.2.1.1, by have := h.1.2.2.1.2; omega⟩, h.1.2.2.2.1, by have := h.1.2.2.2.2; omega⟩)]
theorem row_g {u l : List ByteArray} {x y : Int} {i : Nat} (hi : i < u.length) : ∀ k, k ≤ w0 u → rowS u l x y i k = cat (gS u l x y ((i : Int) + y)) x k
 | 0, _ => rfl
 | k + 1, hk => by rw [rowS, cat, row_g hi k (by omega), cell_g hi (by omega)]
theorem rows_g {u l : List ByteArray} (O : OkSh u) {x y : Int} : ∀ k, k ≤ u.length → rowsS u l x y k = cat (fun r => cat (gS u l x y r) x (w0 u)) y k
 | 0, _ => rfl
 | k + 1, hk => by
  have hw := w0_row O (i := (k : Int)) (by omega) (by omega)
  rw [rowsS, cat, rows_g O k (by omega), hw, row_g (by omega) _ (Nat.le_refl _), show (k : Int) + y = y + (k : Int) from by omega]
theorem rows_seen {u l : List ByteArray} (O : OkSh u) (x y : Int) : rowsS u l x y u.length = seenT u l x y := by
 rw [rows_g O _ (Nat.le_refl _)]
 unfold seenT
 have inner : ∀ r, cat (gS u l x y r) x (w0 u) = cat (gS u l x y r) 0 (w0 l) := fun r => cat_shift _ x _ _ (fun z q => if_neg (fun h => q h.1.2.2.2)) (fun z q => if_neg (fun h => q ⟨by have := h.1.2.1.1; omega, by have := h.1.2.1.2; omega⟩))
 rw [cat_ext (g := fun r => cat (gS u l x y r) 0 (w0 l)) (fun z _ _ => inner z)]
 exact cat_shift _ y _ _ (fun z q => cat_nil _ _ _ (fun c _ _ => if_neg (fun h => q h.1.2.2.1))) (fun z q => cat_nil _ _ _ (fun c _ _ => if_neg (fun h => q ⟨by have := h.1.1.1; omega, by have := h.1.1.2; omega⟩)))
theorem okSh_of {l : List ByteArray} (O : OkSh l) : okSh l = true := by
 unfold okSh
 rw [decide_eq_true O.n1, decide_eq_true O.n8, decide_eq_true O.m1, decide_eq_true O.m8]
 simp only [Bool.true_and, List.all_eq_true, decide_eq_true_eq]
 intro r hr
 obtain ⟨j, hj, rfl⟩ := List.getElem_of_mem hr
 have := O.all (j : Int) (by omega) (by omega)
 rwa [rdS_lt l j hj] at this
theorem see_val {u l : List ByteArray} (O : OkSh u) (Q : OkSh l) {x y : Int} (hx : -8 ≤ x ∧ x ≤ 8) (hy : -8 ≤ y ∧ y ≤ 8) : puzzles_see.f u l x y = some (strOfNums (seenT u l x y)) := by
 unfold puzzles_see.f
 rw [if_pos ⟨okSh_of O, okSh_of Q, by unfold inR; simp [hx.1, hx.2], by unfold inR; simp [hy.1, hy.2]⟩, rows_seen O]
/-! The document's. -/
theorem acc_len {acc : List Int} (g : Int → List Int) (hg : ∀ z, (g z).length ≤ 1) (c : Nat) (ha : acc.length ≤ 64) (hc : c ≤ 8) : (strOfNums (acc ++ cat g 0 c)).size ≤ 80 := by
 have h := cat_len g 1 hg 0 c
 rw [strOfNums_size, List.length_append]
 obtain ⟨L, hL⟩ : ∃ L, (cat g 0 c).length = L := ⟨_, rfl⟩
 rw [hL] at h ⊢
 omega
theorem in_yes {a n : Int} (h : 0 ≤ a ∧ a < n) : padlockref03_Within.f a 0 (n - 1) = some true := by
 rw [refwithin_val, decide_eq_true h.1, decide_eq_true (show a ≤ n - 1 by omega)]
 rfl
theorem in_no {a n : Int} (h : ¬ (0 ≤ a ∧ a < n)) : padlockref03_Within.f a 0 (n - 1) = some false := by
 rw [refwithin_val]
 congr 1
 rw [Bool.eq_false_iff]
 simp
 omega
/-- One step of the document's look at a cell. -/
theorem refsee_step {u l : List ByteArray} {x y t : Int} {r c NU WU NL WL : Nat} (hNU : u.length = NU) (hWU : (rdOf ByteArray.empty u 0).size = WU) (hNL : l.length = NL) (hWL : (rdOf ByteArray.empty l 0).size = WL)
  (hx : -8 ≤ x ∧ x ≤ 8) (hy : -8 ≤ y ∧ y ≤ 8) (hr : r < NL) (hc : c < WL) (h1 : 1 ≤ NU) (h2 : NU ≤ 8) (h3 : WU ≤ 8) (h4 : NL ≤ 8) (h5 : WL ≤ 8)
  (su : ∀ i : Int, 0 ≤ i → i < NU → (rdOf ByteArray.empty u i).size = WU) (sl : (rdOf ByteArray.empty l (r : Int)).size = WL) (X : ByteArray) (hX : X.size ≤ 80) (k : Nat) :
  padlockref03_see.l2 (k + 1) u l X (r : Int) (c : Int) t x y = padlockref03_see.l2 k u l (if ((0 ≤ (r : Int) - y ∧ (r : Int) - y < NU) ∧ (0 ≤ (c : Int) - x ∧ (c : Int) - x < WU)) ∧ chS u ((r : Int) - y) ((c : Int) - x) = 46 ∧ chS l (r : Int) (c : Int) ≠ 46 then X ++ (rdOf ByteArray.empty l (r : Int)).extract c (c + 1) else X) (r : Int) ((c + 1 : Nat) : Int) t x y := by
 have HSU := Aside0.mk su
 have HSL := Aside0.mk sl
 have HXX := Aside0.mk hX
 have HNU := Aside0.mk hNU
 have HWU := Aside0.mk hWU
 have HNL := Aside0.mk hNL
 have HWL := Aside0.mk hWL
 clear su sl hX hNU hWU hNL hWL
 have ec : wrap64 ((c : Int) + 1) = ((c + 1 : Nat) : Int) := by rw [w64 _ (by omega) (by omega)]; omega
 have e1 : wrap64 ((r : Int) - y) = (r : Int) - y := w64 _ (by omega) (by omega)
 have e2 : wrap64 ((NU : Int) - 1) = (NU : Int) - 1 := w64 _ (by omega) (by omega)
 have e3 : wrap64 ((c : Int) - x) = (c : Int) - x := w64 _ (by omega) (by omega)
 have e4 : wrap64 ((WU : Int) - 1) = (WU : Int) - 1 := w64 _ (by omega) (by omega)
 have p1 : (0 : Int) < (NL : Int) := by omega
 have p2 : (c : Int) < (WL : Int) := by omega
 have p3 : (0 : Int) < (NU : Int) := by omega
 have p4 : (0 : Int) ≤ (r : Int) := by omega
 have p5 : (r : Int) < (NL : Int) := by omega
 have p6 : (0 : Int) ≤ (c : Int) := by omega
 have p7 : (c : Int) ≤ ((c + 1 : Nat) : Int) := by omega
 have p8 : ((c + 1 : Nat) : Int) ≤ (WL : Int) := by omega
 rw [padlockref03_see.l2, HNL.out, if_pos p1, HWL.out, if_pos p2, e1, HNU.out, e2]
 by_cases A : 0 ≤ (r : Int) - y ∧ (r : Int) - y < NU
 ·rw [in_yes A, Option.bind_some, if_pos rfl, if_pos p3, HWU.out, e3, e4]
  by_cases B : 0 ≤ (c : Int) - x ∧ (c : Int) - x < WU
  ·rw [in_yes B, Option.bind_some, if_pos rfl, if_pos A.1, if_pos A.2, if_pos B.1, HSU.out _ A.1 A.2, if_pos B.2]
   by_cases C : chS u ((r : Int) - y) ((c : Int) - x) = 46
   ·rw [if_pos (show bt (rdOf ByteArray.empty u ((r : Int) - y)) ((c : Int) - x) = 46 from C), if_pos p4, if_pos p5, if_pos p6, HSL.out, if_pos p2]
    by_cases D : chS l (r : Int) (c : Int) = 46
    ·rw [if_pos (show bt (rdOf ByteArray.empty l (r : Int)) (c : Int) = 46 from D), ec, if_neg (fun h => h.2.2 D)]
    ·have hsz : X.size + ((rdOf ByteArray.empty l (r : Int)).extract c (c + 1)).size ≤ 9223372036854775807 := by
      have h80 := HXX.out
      rw [ByteArray.size_extract, HSL.out]
      omega
     rw [if_neg (show ¬ bt (rdOf ByteArray.empty l (r : Int)) (c : Int) = 46 from D), ec, if_pos p7, if_pos p8, Int.toNat_natCast, Int.toNat_natCast, if_pos hsz, if_pos ⟨⟨A, B⟩, C, D⟩]
   ·rw [if_neg (show ¬ bt (rdOf ByteArray.empty u ((r : Int) - y)) ((c : Int) - x) = 46 from C), ec, if_neg (fun h => C h.2.1)]
  ·rw [in_no B, Option.bind_some, if_neg (by decide), ec, if_neg (fun h => B h.1.2)]
 ·rw [in_no A, Option.bind_some, if_neg (by decide), ec, if_neg (fun h => A h.1.1)]
theorem step_val {u l : List ByteArray} {x y : Int} {r c : Nat} {acc : List Int} (hr : r < l.length) (hc : c < w0 l) (hs : c < (rdOf ByteArray.empty l (r : Int)).size) :
  (if ((0 ≤ (r : Int) - y ∧ (r : Int) - y < ((u.length : Nat) : Int)) ∧ (0 ≤ (c : Int) - x ∧ (c : Int) - x < ((w0 u : Nat) : Int))) ∧ chS u ((r : Int) - y) ((c : Int) - x) = 46 ∧ chS l (r : Int) (c : Int) ≠ 46 then strOfNums acc ++ (rdOf ByteArray.empty l (r : Int)).extract c (c + 1) else strOfNums acc) = strOfNums (acc ++ gS u l x y (r : Int) (c : Int)) := by
 unfold gS
 by_cases q : ((0 ≤ (r : Int) - y ∧ (r : Int) - y < ((u.length : Nat) : Int)) ∧ (0 ≤ (c : Int) - x ∧ (c : Int) - x < ((w0 u : Nat) : Int))) ∧ chS u ((r : Int) - y) ((c : Int) - x) = 46 ∧ chS l (r : Int) (c : Int) ≠ 46
 ·rw [if_pos q, if_pos ⟨⟨q.1.1, q.1.2, ⟨Int.natCast_nonneg r, Int.ofNat_lt.2 hr⟩, ⟨Int.natCast_nonneg c, Int.ofNat_lt.2 hc⟩⟩, q.2⟩, append_one _ _ _ hs]
  rfl
 ·rw [if_neg q, if_neg (fun h => q ⟨⟨h.1.1, h.1.2.1⟩, h.2⟩), List.append_nil]
theorem refsee_l2 {u l : List ByteArray} (O : OkSh u) (Q : OkSh l) (t x y : Int) (hx : -8 ≤ x ∧ x ≤ 8) (hy : -8 ≤ y ∧ y ≤ 8) (r : Nat) (hr : r < l.length) (acc : List Int) (ha : acc.length ≤ 64) {R : ByteArray}
  (next : Ev (fun k => padlockref03_see.l1 k u l (strOfNums (acc ++ cat (gS u l x y (r : Int)) 0 (w0 l))) ((r + 1 : Nat) : Int) t x y) R) :
  ∀ (m c : Nat), c + m = w0 l → Ev (fun k => padlockref03_see.l2 k u l (strOfNums (acc ++ cat (gS u l x y (r : Int)) 0 c)) (r : Int) (c : Int) t x y) R := by
 have HQ := Aside0.mk Q
 have HO := Aside0.mk O
 have hrs := Aside0.mk (w0_row Q (i := (r : Int)) (Int.natCast_nonneg r) (Int.ofNat_lt.2 hr))
 have ln : 0 < ((l.length : Nat) : Int) := by omega
 have er : l.length ≤ 8 → wrap64 ((r : Int) + 1) = ((r + 1 : Nat) : Int) := fun h8 => by rw [w64 _ (by omega) (by omega)]; omega
 have er' := er Q.n8
 clear er
 intro m
 induction m with
 | zero =>
  intro c hc
  obtain rfl : c = w0 l := by omega
  refine Ev.step (fun k => ?_) next
  rw [padlockref03_see.l2, if_pos ln, if_neg (show ¬ ((w0 l : Nat) : Int) < (((rdOf ByteArray.empty l 0).size : Nat) : Int) from fun h => Int.lt_irrefl _ h), er']
 | succ m ih =>
  intro c hc
  have hcw : c < w0 l := by omega
  have IH := ih (c + 1) (by omega)
  rw [cat, Int.zero_add, ← List.append_assoc, ← step_val hr hcw (by rw [hrs.out]; exact hcw)] at IH
  exact Ev.step (fun k => refsee_step (NU := u.length) (WU := w0 u) (NL := l.length) (WL := w0 l) rfl rfl rfl rfl hx hy hr hcw HO.out.n1 HO.out.n8 HO.out.m8 HQ.out.n8 HQ.out.m8 (fun i a b => w0_row HO.out a b) hrs.out _ (acc_len _ (gS_len u l x y (r : Int)) c ha (Nat.le_trans (Nat.le_of_lt hcw) HQ.out.m8)) k) IH
theorem refsee_l1 {u l : List ByteArray} (O : OkSh u) (Q : OkSh l) (t x y : Int) (hx : -8 ≤ x ∧ x ≤ 8) (hy : -8 ≤ y ∧ y ≤ 8) : ∀ (m r : Nat), r + m = l.length → Ev (fun k => padlockref03_see.l1 k u l (strOfNums (cat (fun r => cat (gS u l x y r) 0 (w0 l)) 0 r)) (r : Int) t x y) (strOfNums (seenT u l x y)) := by
 have n8 := Q.n8
 have hF : ∀ z, (cat (gS u l x y z) 0 (w0 l)).length ≤ 8 := fun z => by
  have h := cat_len (gS u l x y z) 1 (gS_len u l x y z) 0 (w0 l)
  rw [Nat.one_mul] at h
  exact Nat.le_trans h Q.m8
 intro m
 induction m with
 | zero =>
  intro r hr
  obtain rfl : r = l.length := by omega
  refine Ev.step (f := fun _ => some (strOfNums (seenT u l x y))) (fun k => ?_) (Ev.now _)
  rw [padlockref03_see.l1, if_neg (fun h => Int.lt_irrefl _ h)]
  rfl
 | succ m ih =>
  intro r hr
  have hrl : r < l.length := by omega
  have hacc : (cat (fun r => cat (gS u l x y r) 0 (w0 l)) 0 r).length ≤ 64 := Nat.le_trans (cat_len (fun r => cat (gS u l x y r) 0 (w0 l)) 8 hF 0 r) (by omega)
  have IH := ih (r + 1) (by omega)
  rw [cat, Int.zero_add] at IH
  have := refsee_l2 O Q t x y hx hy r hrl _ hacc IH (w0 l) 0 (Nat.zero_add _)
  rw [cat, List.append_nil] at this
  refine Ev.step (fun k => ?_) this
  rw [padlockref03_see.l1, if_pos (Int.ofNat_lt.2 hrl)]
  rfl
def turnN : Nat → List ByteArray → List ByteArray
 | 0, u => u
 | m + 1, u => turnN m (turnT u)
theorem turnN_snoc : ∀ (m : Nat) (u : List ByteArray), turnN (m + 1) u = turnT (turnN m u)
 | 0, _ => rfl
 | m + 1, u => turnN_snoc m (turnT u)
theorem turnN_ok : ∀ (m : Nat) {u : List ByteArray}, OkSh u → OkSh (turnN m u)
 | 0, _, O => O
 | m + 1, _, O => turnN_ok m (turn_ok O)
/-- The document's see. -/
theorem refsee_ev {l : List ByteArray} (Q : OkSh l) (t x y : Int) (ht : t ≤ 3) (hx : -8 ≤ x ∧ x ≤ 8) (hy : -8 ≤ y ∧ y ≤ 8) : ∀ (m : Nat) (i : Int) (u : List ByteArray), OkSh u → i + m = t → 0 ≤ i → Ev (fun k => padlockref03_see.l0 k u l i t x y) (strOfNums (seenT (turnN m u) l x y)) := by
 intro m
 induction m with
 | zero =>
  intro i u O hi h0
  refine Ev.step (fun k => ?_) (refsee_l1 O Q t x y hx hy l.length 0 (Nat.zero_add _))
  rw [padlockref03_see.l0, if_neg (by omega)]
  rfl
 | succ m ih =>
  intro i u O hi h0
  refine Ev.step (fun k => by rw [padlockref03_see.l0, if_pos (by omega)]) (Ev.bind (quarter_ev O) ?_)
  rw [w64 _ (by omega) (by omega)]
  exact ih (i + 1) (turnT u) (turn_ok O) (by omega) (by omega)

end Go.Proofs.Ytdhiijleafcfcaa.T
