/- Mazes in plain lists: the first of the shortest moves. -/
import Derived.Test.YtdhiijleafcfcaaProg
namespace Go.Proofs.Ytdhiijleafcfcaa.Mz
/-- Moves as a number: base four, with what stands ahead. -/
def cd : Int → List Int → Int
 | n, [] => n
 | n, d :: t => cd (4 * n + d) t
def dirs (w : List Int) : Prop := ∀ d ∈ w, 0 ≤ d ∧ d ≤ 3
def pth (st : Int → Int → Int) : Int → List Int → Int
 | c, [] => c
 | c, d :: t => pth st (st c d) t
theorem dirs_nil : dirs [] := fun _ h => by cases h
theorem dirs_cons {d : Int} {t : List Int} : dirs (d :: t) ↔ (0 ≤ d ∧ d ≤ 3) ∧ dirs t :=
 ⟨fun h => ⟨h d (by simp), fun x hx => h x (by simp [hx])⟩, fun h x hx => by rcases List.mem_cons.1 hx with rfl | hx; exact h.1; exact h.2 x hx⟩
theorem dirs_append {a b : List Int} : dirs (a ++ b) ↔ dirs a ∧ dirs b :=
 ⟨fun h => ⟨fun x hx => h x (by simp [hx]), fun x hx => h x (by simp [hx])⟩, fun h x hx => by rcases List.mem_append.1 hx with hx | hx; exact h.1 x hx; exact h.2 x hx⟩
theorem cd_append (n : Int) (a b : List Int) : cd n (a ++ b) = cd (cd n a) b := by
 induction a generalizing n with
 | nil => rfl
 | cons d t ih => simp only [List.cons_append, cd]; exact ih _
theorem pth_append (st : Int → Int → Int) (c : Int) (a b : List Int) : pth st c (a ++ b) = pth st (pth st c a) b := by
 induction a generalizing c with
 | nil => rfl
 | cons d t ih => simp only [List.cons_append, pth]; exact ih _
theorem cd_snoc (n : Int) (a : List Int) (d : Int) : cd n (a ++ [d]) = 4 * cd n a + d := by rw [cd_append]; rfl
theorem pth_snoc (st : Int → Int → Int) (c : Int) (a : List Int) (d : Int) : pth st c (a ++ [d]) = st (pth st c a) d := by rw [pth_append]; rfl
theorem cd_mono {n m : Int} (v : List Int) (h : n ≤ m) : cd n v ≤ cd m v := by
 induction v generalizing n m with
 | nil => exact h
 | cons d t ih => exact ih (by omega)
theorem cd_ge {n : Int} {v : List Int} (hd : dirs v) (h : 0 ≤ n) : n ≤ cd n v := by
 induction v generalizing n with
 | nil => exact Int.le_refl _
 | cons d t ih =>
  obtain ⟨h1, h2⟩ := dirs_cons.1 hd
  have := ih h2 (n := 4 * n + d) (by omega)
  simp only [cd]
  omega
theorem cd_lt {n m : Int} : ∀ {u v : List Int}, u.length = v.length → dirs u → dirs v → n < m → cd n u < cd m v
 | [], [], _, _, _, h => h
 | a :: u, b :: v, hl, hu, hv, h => by
  obtain ⟨a1, a2⟩ := dirs_cons.1 hu
  obtain ⟨b1, b2⟩ := dirs_cons.1 hv
  exact cd_lt (u := u) (v := v) (by simpa using hl) a2 b2 (by omega)
theorem cd_shorter {n m : Int} : ∀ {u v : List Int}, u.length < v.length → dirs u → dirs v → n < 4 * m → 0 ≤ m → cd n u < cd m v
 | [], b :: v, _, _, hv, h, hm => by
  obtain ⟨b1, b2⟩ := dirs_cons.1 hv
  have := cd_ge (n := 4 * m + b) b2 (by omega)
  simp only [cd]
  omega
 | a :: u, b :: v, hl, hu, hv, h, hm => by
  obtain ⟨a1, a2⟩ := dirs_cons.1 hu
  obtain ⟨b1, b2⟩ := dirs_cons.1 hv
  exact cd_shorter (u := u) (v := v) (by simpa using hl) a2 b2 (by omega) (by omega)
theorem cd_len {u v : List Int} (hu : dirs u) (hv : dirs v) (h : cd 1 u ≤ cd 1 v) : u.length ≤ v.length := by
 rcases Nat.lt_or_ge v.length u.length with h1 | h1
 ·have := cd_shorter (n := 1) (m := 1) h1 hv hu (by omega) (by omega)
  omega
 ·exact h1
theorem cd_inj {n m : Int} : ∀ {u v : List Int}, u.length = v.length → dirs u → dirs v → cd n u = cd m v → n = m ∧ u = v
 | [], [], _, _, _, h => ⟨h, rfl⟩
 | a :: u, b :: v, hl, hu, hv, h => by
  obtain ⟨a1, a2⟩ := dirs_cons.1 hu
  obtain ⟨b1, b2⟩ := dirs_cons.1 hv
  obtain ⟨h1, rfl⟩ := cd_inj (u := u) (v := v) (by simpa using hl) a2 b2 h
  have : a = b := by omega
  subst this
  exact ⟨by omega, rfl⟩
theorem cd_eq {u v : List Int} (hu : dirs u) (hv : dirs v) (h : cd 1 u = cd 1 v) : u = v :=
 (cd_inj (Nat.le_antisymm (cd_len hu hv (by omega)) (cd_len hv hu (by omega))) hu hv h).2

/-- The first of the shortest moves from c to t. -/
structure Best (st : Int → Int → Int) (c t : Int) (w : List Int) : Prop where
 dir : dirs w
 at_ : pth st c w = t
 least : ∀ v, dirs v → pth st c v = t → cd 1 w ≤ cd 1 v
theorem Best.unique {st : Int → Int → Int} {c t : Int} {u v : List Int} (h : Best st c t u) (k : Best st c t v) : u = v := by
 have h1 := h.least v k.dir k.at_
 have h2 := k.least u h.dir h.at_
 exact cd_eq h.dir k.dir (by omega)
abbrev En := Int × List Int
/-- What the search keeps: entries up to i have been gone through, and of the i-th the sides below s. -/
structure Srch (st : Int → Int → Int) (c0 : Int) (L : List En) (i : Nat) (s : Int) : Prop where
 root : L[0]? = some (c0, [])
 valid : ∀ e ∈ L, dirs e.2 ∧ pth st c0 e.2 = e.1
 apart : L.Pairwise fun a b => a.1 ≠ b.1
 order : L.Pairwise fun a b => cd 1 a.2 < cd 1 b.2
 bound : ∀ x : En, L[i]? = some x → ∀ e ∈ L, cd 1 e.2 < 4 * cd 1 x.2 + s
 shut : ∀ (j : Nat) (x : En), L[j]? = some x → ∀ d : Int, 0 ≤ d → d ≤ 3 → j < i ∨ (j = i ∧ d < s) → ∃ e ∈ L, e.1 = st x.1 d ∧ cd 1 e.2 ≤ 4 * cd 1 x.2 + d
 short : ∀ (j : Nat) (x : En), L[j]? = some x → x.2.length ≤ j
theorem Srch.start (st : Int → Int → Int) (c0 : Int) : Srch st c0 [(c0, [])] 0 0 where
 root := rfl
 valid e he := by simp only [List.mem_singleton] at he; subst he; exact ⟨dirs_nil, rfl⟩
 apart := by simp
 order := by simp
 bound x hx e he := by simp only [List.getElem?_cons_zero, Option.some.injEq] at hx; simp only [List.mem_singleton] at he; subst hx he; show (1 : Int) < 4 * 1 + 0; omega
 shut j x _ d h0 _ h := by omega
 short j x hx := by
  cases j with
  | zero => simp only [List.getElem?_cons_zero, Option.some.injEq] at hx; subst hx; exact Nat.le_refl _
  | succ j => simp at hx
/-- A side that leads to a known cell. -/
theorem Srch.known {st : Int → Int → Int} {c0 : Int} {L : List En} {i : Nat} {s : Int} {x : En} (h : Srch st c0 L i s) (hx : L[i]? = some x) (hk : ∃ e ∈ L, e.1 = st x.1 s) : Srch st c0 L i (s + 1) where
 root := h.root
 valid := h.valid
 apart := h.apart
 order := h.order
 bound y hy e he := by have := h.bound y hy e he; omega
 shut j y hy d h0 h3 hj := by
  by_cases c : j = i ∧ d = s
  ·obtain ⟨rfl, rfl⟩ := c
   rw [hx] at hy
   cases hy
   obtain ⟨e, he, h1⟩ := hk
   exact ⟨e, he, h1, by have := h.bound x hx e he; omega⟩
  ·exact h.shut j y hy d h0 h3 (by omega)
 short := h.short
/-- A side that leads to a new cell. -/
theorem Srch.fresh {st : Int → Int → Int} {c0 : Int} {L : List En} {i : Nat} {s : Int} {x : En} (h : Srch st c0 L i s) (hx : L[i]? = some x) (hs0 : 0 ≤ s) (hs3 : s ≤ 3) (hk : ¬ ∃ e ∈ L, e.1 = st x.1 s) :
  Srch st c0 (L ++ [(st x.1 s, x.2 ++ [s])]) i (s + 1) := by
 have hlt : i < L.length := (List.getElem?_eq_some_iff.1 hx).1
 have hxm : x ∈ L := List.mem_of_getElem? hx
 have hold : ∀ j y, (L ++ [(st x.1 s, x.2 ++ [s])])[j]? = some y → L[j]? = some y ∨ (j = L.length ∧ y = (st x.1 s, x.2 ++ [s])) := by
  intro j y hy
  rcases Nat.lt_trichotomy j L.length with c | c | c
  ·rw [List.getElem?_append_left c] at hy; exact .inl hy
  ·subst c; rw [List.getElem?_append_right (Nat.le_refl _)] at hy; simp at hy; exact .inr ⟨rfl, hy.symm⟩
  ·rw [List.getElem?_eq_none (by simp; omega)] at hy; cases hy
 refine ⟨?_, ?_, ?_, ?_, ?_, ?_, ?_⟩
 ·rw [List.getElem?_append_left (by omega)]; exact h.root
 ·intro e he
  rcases List.mem_append.1 he with he | he
  ·exact h.valid e he
  ·simp only [List.mem_singleton] at he
   subst he
   obtain ⟨v1, v2⟩ := h.valid x hxm
   exact ⟨dirs_append.2 ⟨v1, dirs_cons.2 ⟨⟨hs0, hs3⟩, dirs_nil⟩⟩, by rw [pth_snoc, v2]⟩
 ·refine List.pairwise_append.2 ⟨h.apart, by simp, fun a ha b hb => ?_⟩
  simp only [List.mem_singleton] at hb
  subst hb
  exact fun e => hk ⟨a, ha, e⟩
 ·refine List.pairwise_append.2 ⟨h.order, by simp, fun a ha b hb => ?_⟩
  simp only [List.mem_singleton] at hb
  subst hb
  rw [cd_snoc]
  exact h.bound x hx a ha
 ·intro y hy e he
  rcases hold i y hy with hy | ⟨c, _⟩
  ·rw [hx] at hy
   cases hy
   rcases List.mem_append.1 he with he | he
   ·have := h.bound x hx e he; omega
   ·simp only [List.mem_singleton] at he
    subst he
    rw [cd_snoc]
    omega
  ·omega
 ·intro j y hy d h0 h3 hj
  rcases hold j y hy with hy2 | ⟨c, _⟩
  ·clear hold hy
   by_cases c : j = i ∧ d = s
   ·obtain ⟨rfl, rfl⟩ := c
    have hy' := hx.symm.trans hy2
    cases hy'
    exact ⟨_, List.mem_append.2 (.inr (List.mem_singleton.2 rfl)), rfl, by rw [cd_snoc]; omega⟩
   ·obtain ⟨e, he, h1, h2⟩ := h.shut j y hy2 d h0 h3 (by omega)
    exact ⟨e, List.mem_append.2 (.inl he), h1, h2⟩
  ·omega
 ·intro j y hy
  rcases hold j y hy with hy | ⟨c, rfl⟩
  ·exact h.short j y hy
  ·have := h.short i x hx
   simp only [List.length_append, List.length_singleton]
   omega
/-- The next entry. -/
theorem Srch.next {st : Int → Int → Int} {c0 : Int} {L : List En} {i : Nat} (h : Srch st c0 L i 4) (hlt : i < L.length) : Srch st c0 L (i + 1) 0 where
 root := h.root
 valid := h.valid
 apart := h.apart
 order := h.order
 bound y hy e he := by
  have h1 := h.bound L[i] (List.getElem?_eq_getElem hlt) e he
  obtain ⟨hl, rfl⟩ := List.getElem?_eq_some_iff.1 hy
  have h2 := List.pairwise_iff_getElem.1 h.order i (i + 1) hlt hl (by omega)
  omega
 shut j y hy d h0 h3 hj := h.shut j y hy d h0 h3 (by omega)
 short := h.short
/-- The search's end. -/
structure Done (st : Int → Int → Int) (c0 : Int) (L : List En) : Prop where
 best : ∀ e ∈ L, Best st c0 e.1 e.2
 all : ∀ v, dirs v → ∃ e ∈ L, e.1 = pth st c0 v
 apart : L.Pairwise fun a b => a.1 ≠ b.1
 short : ∀ e ∈ L, e.2.length < L.length
theorem Srch.done {st : Int → Int → Int} {c0 : Int} {L : List En} (h : Srch st c0 L L.length 0) : Done st c0 L := by
 have go : ∀ v, dirs v → ∀ e ∈ L, ∃ e' ∈ L, e'.1 = pth st e.1 v ∧ cd 1 e'.2 ≤ cd (cd 1 e.2) v := by
  intro v
  induction v with
  | nil => intro _ e he; exact ⟨e, he, rfl, Int.le_refl _⟩
  | cons d t ih =>
   intro hv e he
   obtain ⟨⟨d0, d3⟩, ht⟩ := dirs_cons.1 hv
   obtain ⟨j, hj, rfl⟩ := List.getElem_of_mem he
   obtain ⟨e1, h1, h2, h3⟩ := h.shut j _ (List.getElem?_eq_getElem hj) d d0 d3 (.inl hj)
   obtain ⟨e2, k1, k2, k3⟩ := ih ht e1 h1
   exact ⟨e2, k1, by rw [k2, h2]; rfl, Int.le_trans k3 (cd_mono t h3)⟩
 have hr : (c0, []) ∈ L := List.mem_of_getElem? h.root
 have all : ∀ v, dirs v → ∃ e ∈ L, e.1 = pth st c0 v ∧ cd 1 e.2 ≤ cd 1 v := fun v hv => by
  obtain ⟨e, h1, h2, h3⟩ := go v hv _ hr
  exact ⟨e, h1, h2, h3⟩
 refine ⟨fun e he => ?_, fun v hv => ?_, h.apart, fun e he => ?_⟩
 ·obtain ⟨v1, v2⟩ := h.valid e he
  refine ⟨v1, v2, fun v hv hp => ?_⟩
  obtain ⟨e', h1, h2, h3⟩ := all v hv
  rw [hp] at h2
  obtain ⟨i, hi, rfl⟩ := List.getElem_of_mem he
  obtain ⟨j, hj, rfl⟩ := List.getElem_of_mem h1
  rcases Nat.lt_trichotomy i j with c | c | c
  ·exact absurd h2.symm (List.pairwise_iff_getElem.1 h.apart i j hi hj c)
  ·subst c; exact h3
  ·exact absurd h2 (List.pairwise_iff_getElem.1 h.apart j i hj hi c)
 ·obtain ⟨e, h1, h2, _⟩ := all v hv
  exact ⟨e, h1, h2⟩
 ·obtain ⟨i, hi, rfl⟩ := List.getElem_of_mem he
  have := h.short i _ (List.getElem?_eq_getElem hi)
  omega
/-- Cells that are apart and lie below n are at most n. -/
theorem apart_le {n : Nat} : ∀ {L : List En}, (L.Pairwise fun a b => a.1 ≠ b.1) → (∀ e ∈ L, 0 ≤ e.1 ∧ e.1 < n) → L.length ≤ n := by
 induction n with
 | zero =>
  intro L _ h
  cases L with
  | nil => exact Nat.le_refl _
  | cons e t => have := h e (by simp); omega
 | succ n ih =>
  intro L ha hb
  have h1 := ih (L := L.filter fun e => e.1 ≠ (n : Int)) (ha.filter _) (fun e he => by
   obtain ⟨m1, m2⟩ := List.mem_filter.1 he
   have := hb e m1
   simp only [ne_eq, decide_eq_true_eq] at m2
   omega)
  have h2 : L.length ≤ (L.filter fun e => e.1 ≠ (n : Int)).length + 1 := by
   clear ih hb h1
   induction L with
   | nil => simp
   | cons e t ih =>
    obtain ⟨a1, a2⟩ := List.pairwise_cons.1 ha
    by_cases c : e.1 = (n : Int)
    ·have hall : t.filter (fun e => e.1 ≠ (n : Int)) = t := by
      refine List.filter_eq_self.2 fun x hx => ?_
      have := a1 x hx
      simp only [ne_eq, decide_eq_true_eq]
      omega
     rw [List.filter_cons]
     simp only [c, ne_eq, not_true_eq_false, decide_false, Bool.false_eq_true, if_false, List.length_cons]
     have : (t.filter fun e => decide (e.1 ≠ (n : Int))) = t := hall
     simp only [ne_eq] at this
     rw [this]
     exact Nat.le_refl _
    ·have := ih a2
     rw [List.filter_cons]
     simp only [ne_eq, c, not_false_eq_true, decide_true, if_true, List.length_cons] at this ⊢
     omega
  omega
/-- A table. -/
def tab {α : Type} (n : Nat) (f : Nat → α) : List α := (List.range n).map f
theorem tab_len {α : Type} (n : Nat) (f : Nat → α) : (tab n f).length = n := by simp [tab]
theorem tab_get {α : Type} (n : Nat) (f : Nat → α) (i : Nat) (h : i < n) (d : α) : (tab n f).getD i d = f i := by
 rw [List.getD_eq_getElem?_getD]
 simp [tab, h]
theorem tab_ext {α : Type} {n : Nat} {f g : Nat → α} (h : ∀ i, i < n → f i = g i) : tab n f = tab n g := by
 unfold tab
 exact List.map_congr_left fun i hi => h i (List.mem_range.1 hi)
theorem tab_set {α : Type} (n : Nat) (f : Nat → α) (i : Nat) (v : α) : (tab n f).set i v = tab n (fun c => if c = i then v else f c) := by
 apply List.ext_getElem
 ·simp [tab]
 ·intro j h1 h2
  simp only [tab, List.getElem_set, List.getElem_map, List.getElem_range]
  by_cases c : i = j
  ·subst c; simp
  ·simp [c, Ne.symm c]
theorem tab_replicate {α : Type} (n : Nat) (v : α) : List.replicate n v = tab n (fun _ => v) := by
 apply List.ext_getElem
 ·simp [tab]
 ·intro j h1 h2
  simp [tab]
theorem tab_list {α : Type} (l : List α) (d : α) : l = tab l.length (fun i => l.getD i d) := by
 apply List.ext_getElem
 ·simp [tab]
 ·intro j h1 h2
  simp only [tab, List.getElem_map, List.getElem_range]
  rw [List.getD_eq_getElem?_getD, List.getElem?_eq_getElem h1, Option.getD_some]
/-- The cells that a search has come to. -/
def met (L : List En) (c : Nat) : Bool := L.any fun e => e.1 == (c : Int)
theorem met_iff {L : List En} {c : Nat} : met L c = true ↔ ∃ e ∈ L, e.1 = (c : Int) := by
 unfold met
 rw [List.any_eq_true]
 exact ⟨fun ⟨e, h1, h2⟩ => ⟨e, h1, by simpa using h2⟩, fun ⟨e, h1, h2⟩ => ⟨e, h1, by simpa using h2⟩⟩
theorem met_snoc (L : List En) (e : En) (c : Nat) (he : 0 ≤ e.1) : met (L ++ [e]) c = if c = e.1.toNat then true else met L c := by
 by_cases q : c = e.1.toNat
 ·rw [if_pos q, met_iff]
  exact ⟨e, by simp, by omega⟩
 ·rw [if_neg q, Bool.eq_iff_iff, met_iff, met_iff]
  constructor
  ·rintro ⟨x, h1, h2⟩
   rcases List.mem_append.1 h1 with h1 | h1
   ·exact ⟨x, h1, h2⟩
   ·simp only [List.mem_singleton] at h1; subst h1; omega
  ·rintro ⟨x, h1, h2⟩
   exact ⟨x, by simp [h1], h2⟩
theorem pth_range {st : Int → Int → Int} {n : Nat} (hst : ∀ c d : Int, 0 ≤ c → c < n → 0 ≤ d → d ≤ 3 → 0 ≤ st c d ∧ st c d < n) : ∀ (v : List Int) (c : Int), dirs v → 0 ≤ c → c < n → 0 ≤ pth st c v ∧ pth st c v < n
 | [], c, _, h0, h1 => ⟨h0, h1⟩
 | d :: t, c, hv, h0, h1 => by
  obtain ⟨⟨d0, d3⟩, ht⟩ := dirs_cons.1 hv
  obtain ⟨a, b⟩ := hst c d h0 h1 d0 d3
  exact pth_range hst t _ ht a b
/-- Marks that are carried on in rounds: s rounds are over; in this one the cells below c, and of c the sides below d. -/
structure Ps (st : Int → Int → Int) (fr : Int) (n : Nat) (s : Nat) (c d : Int) (X : Nat → Bool) : Prop where
 sound : ∀ i, i < n → X i = true → ∃ v, dirs v ∧ pth st fr v = (i : Int)
 all : ∀ v, dirs v → v.length ≤ s → X (pth st fr v).toNat = true
 fwd : ∀ v, dirs v → v.length ≤ s → ∀ d' : Int, 0 ≤ d' → d' ≤ 3 → (pth st fr v < c ∨ (pth st fr v = c ∧ d' < d)) → X (st (pth st fr v) d').toNat = true
section
variable {st : Int → Int → Int} {fr : Int} {n s : Nat} {c d : Int} {X : Nat → Bool}
theorem Ps.start (h0 : 0 ≤ fr) : Ps st fr n 0 0 0 (fun i => decide (i = fr.toNat)) where
 sound i _ hx := ⟨[], dirs_nil, by simp only [decide_eq_true_eq] at hx; simp only [pth]; omega⟩
 all v hv hl := by
  obtain rfl : v = [] := List.eq_nil_of_length_eq_zero (by omega)
  simp [pth]
 fwd v hv hl d' _ _ h := by
  obtain rfl : v = [] := List.eq_nil_of_length_eq_zero (by omega)
  simp only [pth] at h
  omega
theorem Ps.mark (h : Ps st fr n s c d X) (hc0 : 0 ≤ c) (hc1 : c < n) (hd0 : 0 ≤ d) (hd3 : d ≤ 3) (hst0 : 0 ≤ st c d) (hx : X c.toNat = true) : Ps st fr n s c (d + 1) (fun i => if i = (st c d).toNat then true else X i) where
 sound i hi hx' := by
  split at hx'
  ·obtain ⟨v, h1, h2⟩ := h.sound c.toNat (by omega) hx
   refine ⟨v ++ [d], dirs_append.2 ⟨h1, dirs_cons.2 ⟨⟨hd0, hd3⟩, dirs_nil⟩⟩, ?_⟩
   rw [pth_snoc, h2, show ((c.toNat : Nat) : Int) = c from by omega]
   omega
  ·exact h.sound i hi hx'
 all v hv hl := by simp only [h.all v hv hl, ite_self]
 fwd v hv hl d' h0 h3 hj := by
  by_cases q : pth st fr v = c ∧ d' = d
  ·rw [q.1, q.2, if_pos rfl]
  ·simp only [h.fwd v hv hl d' h0 h3 (by omega), ite_self]
theorem Ps.skip (h : Ps st fr n s c d X) (hx : X c.toNat = false) : Ps st fr n s (c + 1) 0 X where
 sound := h.sound
 all := h.all
 fwd v hv hl d' h0 h3 hj := by
  by_cases q : pth st fr v = c
  ·have := h.all v hv hl
   rw [q, hx] at this
   cases this
  ·exact h.fwd v hv hl d' h0 h3 (by omega)
theorem Ps.over (h : Ps st fr n s c 4 X) : Ps st fr n s (c + 1) 0 X where
 sound := h.sound
 all := h.all
 fwd v hv hl d' h0 h3 hj := h.fwd v hv hl d' h0 h3 (by omega)
theorem Ps.pass (hst : ∀ c d : Int, 0 ≤ c → c < n → 0 ≤ d → d ≤ 3 → 0 ≤ st c d ∧ st c d < n) (hf0 : 0 ≤ fr) (hf1 : fr < n) (h : Ps st fr n s (n : Int) 0 X) : Ps st fr n (s + 1) 0 0 X where
 sound := h.sound
 all v hv hl := by
  rcases Nat.lt_or_ge s v.length with q | q
  ·obtain ⟨u, d, rfl⟩ : ∃ u d, v = u ++ [d] := ⟨v.dropLast, v.getLast (by intro e; subst e; simp at q), (List.dropLast_concat_getLast _).symm⟩
   obtain ⟨h1, h2⟩ := dirs_append.1 hv
   obtain ⟨⟨d0, d3⟩, _⟩ := dirs_cons.1 h2
   rw [pth_snoc]
   exact h.fwd u h1 (by simp at hl; omega) d d0 d3 (.inl (pth_range hst u fr h1 hf0 hf1).2)
  ·exact h.all v hv q
 fwd v hv hl d' h0 h3 hj := by
  have := (pth_range hst v fr hv hf0 hf1).1
  omega
theorem Ps.full (h : Ps st fr n s 0 0 X) {L : List En} (D : Done st fr L) (hr : ∀ e ∈ L, 0 ≤ e.1 ∧ e.1 < n) (hs : n ≤ s + 1) (i : Nat) (hi : i < n) : X i = met L i := by
 rw [Bool.eq_iff_iff, met_iff]
 constructor
 ·intro hx
  obtain ⟨v, h1, h2⟩ := h.sound i hi hx
  obtain ⟨e, h3, h4⟩ := D.all v h1
  exact ⟨e, h3, by rw [h4, h2]⟩
 ·rintro ⟨e, h1, h2⟩
  have := D.short e h1
  have hl := apart_le D.apart hr
  have h3 := h.all e.2 (D.best e h1).dir (by omega)
  rw [(D.best e h1).at_, h2] at h3
  simpa using h3
end
end Go.Proofs.Ytdhiijleafcfcaa.Mz
