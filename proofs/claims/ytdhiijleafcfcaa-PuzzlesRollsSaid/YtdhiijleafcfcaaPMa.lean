/- Mazes in plain lists: what the program answers. -/
import Derived.Test.YtdhiijleafcfcaaT0
import Derived.Test.YtdhiijleafcfcaaPg
import Derived.Test.YtdhiijleafcfcaaTr
import Derived.Test.YtdhiijleafcfcaaRo30
namespace Go.Proofs.Ytdhiijleafcfcaa.T
open Go.RowKit Go.Proofs.YtdhiijleafcfcaaW.PrintWords Go.Proofs.YtdhiijleafcfcaaW.PrintLast Go.Proofs.YtdhiijleafcfcaaW.PrintMore
attribute [local go_sem] max2_int min2_int max_two min_two max_three min_three max_four min_four
set_option linter.unusedVariables false
set_option linter.unusedSimpArgs false

open Mz
theorem nb_div {W H c s : Int} (h : Gd W H c) (hn : 0 ≤ nb W H c s) : nb W H c s / W = c / W + dy s ∧ nb W H c s % W = c % W + dx s ∧ 0 ≤ c % W + dx s ∧ c % W + dx s ≤ W - 1 ∧ 0 ≤ c / W + dy s ∧ c / W + dy s ≤ H - 1 := by
 unfold nb at hn ⊢
 by_cases k : 0 ≤ c % W + dx s ∧ c % W + dx s ≤ W - 1 ∧ 0 ≤ c / W + dy s ∧ c / W + dy s ≤ H - 1
 ·rw [if_pos k]
  obtain ⟨k1, k2, k3, k4⟩ := k
  have w1 := h.w1
  generalize c % W + dx s = x at *
  generalize c / W + dy s = y at *
  rw [Int.add_comm (y * W) x]
  exact ⟨by rw [Int.add_mul_ediv_right _ _ (by omega), Int.ediv_eq_zero_of_lt k1 (by omega)]; omega, by rw [Int.add_mul_emod_self_right, Int.emod_eq_of_lt k1 (by omega)], k1, k2, k3, k4⟩
 ·rw [if_neg k] at hn
  omega
/-- How far a ball can roll. -/
def ms (W H c d : Int) : Int := if d = 0 then c / W else if d = 1 then W - 1 - c % W else if d = 2 then H - 1 - c / W else c % W
theorem ms_next {W H c d : Int} (h : Gd W H c) (hd : 0 ≤ d ∧ d ≤ 3) (hn : 0 ≤ nb W H c d) : ms W H (nb W H c d) d = ms W H c d - 1 ∧ 0 ≤ ms W H (nb W H c d) d := by
 obtain ⟨h1, h2, h3, h4, h5, h6⟩ := nb_div h hn
 unfold ms
 rw [h1, h2]
 have : d = 0 ∨ d = 1 ∨ d = 2 ∨ d = 3 := by omega
 rcases this with rfl | rfl | rfl | rfl <;> simp [dx, dy] at * <;> omega
theorem ms_bd {W H c d : Int} (h : Gd W H c) : 0 ≤ ms W H c d ∧ ms W H c d < 64 := by
 obtain ⟨d1, d2, d3, d4, _, _, d7⟩ := gd_div h
 have := h.w1
 have := h.w2
 have := h.h2
 have h4 := Int.emod_lt_of_pos c (b := W) (by omega)
 unfold ms
 split
 ·omega
 ·split
  ·omega
  ·split <;> omega
def rollN (W H : Int) (l : List Bool) : Nat → Int → Int → Int
 | 0, c, _ => c
 | n + 1, c, d => if (decide (0 ≤ nb W H c d) && !rdOf false l (nb W H c d)) = true then rollN W H l n (nb W H c d) d else c
/-- Where a ball comes to lie. -/
abbrev stM (W H : Int) (l : List Bool) (c d : Int) : Int := rollN W H l 64 c d
/-- A valid maze. -/
structure Mv (W H : Int) (l : List Bool) (fr z : Int) : Prop where
 w1 : 1 ≤ W
 w2 : W ≤ 64
 h1 : 1 ≤ H
 h2 : H ≤ 64
 wh : W * H = l.length
 n64 : l.length ≤ 64
 f0 : 0 ≤ fr
 f1 : fr < l.length
 z0 : 0 ≤ z
 z1 : z < l.length
 ff : rdOf false l fr = false
 zf : rdOf false l z = false
section
variable {W H : Int} {l : List Bool} {fr z : Int}
theorem Mv.gd (M : Mv W H l fr z) {c : Int} (h0 : 0 ≤ c) (h1 : c < l.length) : Gd W H c := ⟨M.w1, M.w2, M.h1, M.h2, h0, by rw [M.wh]; exact h1⟩
theorem mazeB_facts {a0 a1 : Int} {l : List Bool} {a3 a4 : Int} (h : mazeB a0 a1 l a3 a4 = true) : Mv a0 a1 l a3 a4 := by
 unfold mazeB cellB inR at h
 simp only [Bool.and_eq_true, decide_eq_true_eq, beq_iff_eq, Bool.not_eq_true', Bool.not_eq_eq_eq_not, Bool.not_true] at h
 obtain ⟨⟨p1, p2⟩, ⟨p3, p4⟩, p5, p6, ⟨p7, p8⟩, ⟨p9, p10⟩, p11, p12⟩ := h
 have g := gd_mul (W := a0) (y := a1) (by omega) (by omega) (by omega) (by omega)
 rw [Int.mul_comm] at g
 rw [w64 (a0 * a1) (by omega) (by omega)] at p5 p6 p8 p10
 rw [w64 _ (by omega) (by omega)] at p8 p10
 exact ⟨p1, p2, p3, p4, p6.symm, by omega, p7, by omega, p9, by omega, p11, p12⟩
theorem rollN_range (M : Mv W H l fr z) (d : Int) : ∀ (n : Nat) (c : Int), 0 ≤ c → c < l.length → 0 ≤ rollN W H l n c d ∧ rollN W H l n c d < l.length
 | 0, c, h0, h1 => ⟨h0, h1⟩
 | n + 1, c, h0, h1 => by
  unfold rollN
  split
  ·rename_i hc
   rw [Bool.and_eq_true, decide_eq_true_eq] at hc
   have := nb_range (M.gd h0 h1) hc.1
   rw [M.wh] at this
   exact rollN_range M d n _ hc.1 this
  ·exact ⟨h0, h1⟩
theorem stM_range (M : Mv W H l fr z) (c d : Int) (h0 : 0 ≤ c) (h1 : c < (l.length : Nat)) (_ : 0 ≤ d) (_ : d ≤ 3) : 0 ≤ stM W H l c d ∧ stM W H l c d < (l.length : Nat) := rollN_range M d 64 c h0 h1
theorem rollN_free (d : Int) : ∀ (n : Nat) (c : Int), rdOf false l c = false → rdOf false l (rollN W H l n c d) = false
 | 0, c, h => h
 | n + 1, c, h => by
  unfold rollN
  split
  ·rename_i hc
   rw [Bool.and_eq_true, Bool.not_eq_true'] at hc
   exact rollN_free d n _ hc.2
  ·exact h
theorem pth_free : ∀ (v : List Int) (c : Int), rdOf false l c = false → rdOf false l (pth (stM W H l) c v) = false
 | [], c, h => h
 | d :: t, c, h => pth_free t _ (rollN_free d 64 c h)
theorem roll_l0 (M : Mv W H l fr z) (x2 x3 x5 x6 : Int) {d : Int} (hd : 0 ≤ d ∧ d ≤ 3) : ∀ (n k : Nat) (c : Int), 0 ≤ c → c < l.length → ms W H c d < n → n ≤ k → puzzles_maze_roll.l0 k c d W H x2 x3 l x5 x6 = some (rollN W H l n c d) := by
 intro n
 induction n with
 | zero => intro k c h0 h1 hm _; have := (ms_bd (d := d) (M.gd h0 h1)).1; omega
 | succ n ih =>
  intro k c h0 h1 hm hk
  obtain ⟨k, rfl⟩ : ∃ j, k = j + 1 := ⟨k - 1, by omega⟩
  obtain ⟨x, hx1, hx2⟩ := beside_val (M.gd h0 h1) hd
  rw [puzzles_maze_roll.l0, hx1, Option.bind_some, rollN]
  by_cases q : 0 ≤ nb W H c d
  ·have hr := nb_range (M.gd h0 h1) q
   rw [M.wh] at hr
   rw [hx2 q, if_pos (by exact decide_eq_true q), if_pos q, if_pos hr, decide_eq_true q, Bool.true_and]
   cases hw : rdOf false l (nb W H c d) with
   | true => rw [if_pos rfl, if_neg (by decide)]
   | false =>
    have := ms_next (M.gd h0 h1) hd q
    rw [if_neg (by decide), if_pos (by decide)]
    simp only
    exact ih k _ q hr (by omega) (by omega)
  ·rw [if_neg (by simpa using q), if_neg (by rw [decide_eq_false q, Bool.false_and]; decide)]
/-- A function that tells where a ball comes to lie. -/
def Good (W H : Int) (l : List Bool) (rl : Int → Int → Option Int) : Prop := ∀ c d : Int, 0 ≤ c → c < l.length → 0 ≤ d → d ≤ 3 → rl c d = some (stM W H l c d)
theorem rollK_good (M : Mv W H l fr z) (k : Nat) (hk : 64 ≤ k) : Good W H l (rollK k W H l fr z) := fun c d h0 h1 d0 d3 => roll_l0 M W H fr z ⟨d0, d3⟩ 64 k c h0 h1 (ms_bd (M.gd h0 h1)).2 hk
theorem in_srch (M : Mv W H l fr z) (c0 : Int) (i : Nat) (x : En) : ∀ (d s : Nat) (L : List En), s + d = 4 → Srch (stM W H l) c0 L i s → (∀ e ∈ L, 0 ≤ e.1 ∧ e.1 < (l.length : Nat)) → L[i]? = some x →
  ∃ L', (∀ rl, Good W H l rl → rchIn rl x.1 x.2 (([0, 1, 2, 3] : List Int).drop s) L = some L') ∧ Srch (stM W H l) c0 L' i 4 ∧ (∀ e ∈ L', 0 ≤ e.1 ∧ e.1 < (l.length : Nat)) ∧ L'[i]? = some x := by
 intro d
 induction d with
 | zero =>
  intro s L hs hS hr hx
  obtain rfl : s = 4 := by omega
  exact ⟨L, fun rl _ => rfl, hS, hr, hx⟩
 | succ d ih =>
  intro s L hs hS hr hx
  have hxr := hr x (List.mem_of_getElem? hx)
  have hil : i < L.length := (List.getElem?_eq_some_iff.1 hx).1
  have hll := apart_le hS.apart hr
  have n64 := M.n64
  have hst := stM_range M x.1 s hxr.1 hxr.2 (by omega) (by omega)
  have hsh := hS.short i x hx
  by_cases q : ∃ e ∈ L, e.1 = stM W H l x.1 s
  ·obtain ⟨L', h1, h2⟩ := ih (s + 1) L (by omega) (hS.known hx q) hr hx
   refine ⟨L', fun rl hg => ?_, h2⟩
   rw [four_drop s (by omega), rchIn, hg x.1 s hxr.1 hxr.2 (by omega) (by omega), Option.bind_some, if_pos, h1 rl hg]
   obtain ⟨e, he1, he2⟩ := q
   exact List.any_eq_true.2 ⟨e, he1, by simpa using he2⟩
  ·obtain ⟨L', h1, h2⟩ := ih (s + 1) (L ++ [(stM W H l x.1 s, x.2 ++ [(s : Int)])]) (by omega) (hS.fresh hx (by omega) (by omega) q) (fun e he => by
    rcases List.mem_append.1 he with he | he
    ·exact hr e he
    ·simp only [List.mem_singleton] at he; subst he; exact hst) (by rw [List.getElem?_append_left hil]; exact hx)
   refine ⟨L', fun rl hg => ?_, h2⟩
   rw [four_drop s (by omega), rchIn, hg x.1 s hxr.1 hxr.2 (by omega) (by omega), Option.bind_some, if_neg, if_pos ⟨hst.1, by omega, by omega, by omega⟩, h1 rl hg]
   intro h
   obtain ⟨e, he1, he2⟩ := List.any_eq_true.1 h
   exact q ⟨e, he1, by simpa using he2⟩
theorem out_srch (M : Mv W H l fr z) (c0 : Int) : ∀ (m i : Nat) (L : List En), m + i = l.length → Srch (stM W H l) c0 L i 0 → (∀ e ∈ L, 0 ≤ e.1 ∧ e.1 < (l.length : Nat)) → i ≤ L.length →
  ∃ L', (∀ rl, Good W H l rl → ∀ k, m < k → rchOut rl k L i = some L') ∧ Done (stM W H l) c0 L' ∧ (∀ e ∈ L', 0 ≤ e.1 ∧ e.1 < (l.length : Nat)) := by
 intro m
 induction m with
 | zero =>
  intro i L hm hS hr hi
  have hll := apart_le hS.apart hr
  obtain rfl : i = L.length := by omega
  refine ⟨L, fun rl _ k hk => ?_, hS.done, hr⟩
  obtain ⟨k, rfl⟩ : ∃ j, k = j + 1 := ⟨k - 1, by omega⟩
  rw [rchOut, List.getElem?_eq_none (Nat.le_refl _)]
 | succ m ih =>
  intro i L hm hS hr hi
  by_cases hlt : i < L.length
  ·obtain ⟨L1, h1, h2, h3, h4⟩ := in_srch M c0 i L[i] 4 0 L rfl hS hr (List.getElem?_eq_getElem hlt)
   have hl1 : i < L1.length := (List.getElem?_eq_some_iff.1 h4).1
   obtain ⟨L', h5, h6⟩ := ih (i + 1) L1 (by omega) (h2.next hl1) h3 (by omega)
   refine ⟨L', fun rl hg k hk => ?_, h6⟩
   obtain ⟨k, rfl⟩ : ∃ j, k = j + 1 := ⟨k - 1, by omega⟩
   rw [rchOut, List.getElem?_eq_getElem hlt]
   simp only
   have := h1 rl hg
   rw [List.drop_zero] at this
   rw [this, Option.bind_some]
   exact h5 rl hg k (by omega)
  ·have hll := apart_le hS.apart hr
   obtain rfl : i = L.length := by omega
   refine ⟨L, fun rl _ k hk => ?_, hS.done, hr⟩
   obtain ⟨k, rfl⟩ : ∃ j, k = j + 1 := ⟨k - 1, by omega⟩
   rw [rchOut, List.getElem?_eq_none (Nat.le_refl _)]
/-- The search from a cell. -/
theorem reached_all (M : Mv W H l fr z) (c0 : Int) (h0 : 0 ≤ c0) (h1 : c0 < l.length) : ∃ L, (∀ k, 65 ≤ k → reachedF k W H l fr z c0 = some L) ∧ Done (stM W H l) c0 L ∧ (∀ e ∈ L, 0 ≤ e.1 ∧ e.1 < (l.length : Nat)) := by
 have n64 := M.n64
 obtain ⟨L, a, b, c⟩ := out_srch M c0 l.length 0 [(c0, [])] (by omega) (Srch.start _ _) (fun e he => by simp only [List.mem_singleton] at he; subst he; exact ⟨h0, h1⟩) (by omega)
 refine ⟨L, fun k hk => ?_, b, c⟩
 unfold reachedF
 rw [if_pos ⟨h0, by omega⟩]
 exact a _ (rollK_good M k (by omega)) k (by omega)
/-- Can the ball come from a cell to another one? -/
def Rch (W H : Int) (l : List Bool) (c z : Int) : Prop := ∃ v, dirs v ∧ pth (stM W H l) c v = z
theorem done_any {c0 z : Int} {L : List En} (D : Done (stM W H l) c0 L) : (L.any fun e => e.1 == z) = true ↔ Rch W H l c0 z := by
 rw [List.any_eq_true]
 constructor
 ·rintro ⟨e, h1, h2⟩
  exact ⟨e.2, (D.best e h1).dir, by rw [(D.best e h1).at_]; simpa using h2⟩
 ·rintro ⟨v, h1, h2⟩
  obtain ⟨e, h3, h4⟩ := D.all v h1
  exact ⟨e, h3, by rw [h4, h2]; simp⟩
/-- What Escape comes to. -/
theorem escape_all (M : Mv W H l fr z) (hB : mazeB W H l fr z = true) : ∃ r : List Int × Int, (∀ k, 65 ≤ k → puzzles_Escape.f k W H l fr z = some r) ∧ ((r.2 = 0 ∧ Best (stM W H l) fr z r.1 ∧ r.1.length < l.length) ∨ (r = ([], 3) ∧ ¬ Rch W H l fr z)) := by
 obtain ⟨L, h1, D, hr⟩ := reached_all M fr M.f0 M.f1
 have hz : 0 ≤ z ∧ z < 1000 := ⟨M.z0, by have := M.z1; have := M.n64; omega⟩
 refine ⟨match movesTo L z with | some m => (m, 0) | none => ([], 3), fun k hk => ?_, ?_⟩
 ·unfold puzzles_Escape.f
  rw [if_pos hB, if_pos hz, h1 k hk, Option.bind_some]
  cases movesTo L z <;> rfl
 ·unfold movesTo
  cases hf : L.find? (fun e => e.1 == z) with
  | none =>
   refine .inr ⟨rfl, fun h => ?_⟩
   obtain ⟨e, h3, h4⟩ := List.any_eq_true.1 ((done_any D).2 h)
   exact absurd h4 (by simpa using List.find?_eq_none.1 hf e h3)
  | some e =>
   have m1 := List.mem_of_find?_eq_some hf
   have m2 := List.find?_some hf
   simp only [beq_iff_eq] at m2
   have hb := D.best e m1
   rw [m2] at hb
   exact .inl ⟨rfl, hb, Nat.lt_of_lt_of_le (D.short e m1) (apart_le D.apart hr)⟩
theorem traps_in (M : Mv W H l fr z) : ∀ cs : List Int, (∀ c ∈ cs, 0 ≤ c ∧ c < (l.length : Nat)) → ∃ o, (∀ k, 65 ≤ k → trapsIn k W H l fr z cs = some o) ∧ o.Sublist cs ∧ ∀ c, c ∈ o ↔ c ∈ cs ∧ ¬ Rch W H l c z
 | [], _ => ⟨[], fun _ _ => rfl, List.Sublist.refl _, by simp⟩
 | c :: t, h => by
  obtain ⟨o, h1, h2, h3⟩ := traps_in M t (fun x hx => h x (by simp [hx]))
  have hc := h c (by simp)
  obtain ⟨S, s1, D, _⟩ := reached_all M c hc.1 hc.2
  refine ⟨if (S.any fun e => e.1 == z) = true then o else c :: o, fun k hk => ?_, ?_, fun y => ?_⟩
  ·rw [trapsIn, s1 k hk, Option.bind_some, h1 k hk, Option.bind_some]
  ·by_cases q : (S.any fun e => e.1 == z) = true
   ·rw [if_pos q]; exact h2.cons c
   ·rw [if_neg q]; exact h2.cons_cons c
  ·by_cases q : (S.any fun e => e.1 == z) = true
   ·rw [if_pos q, h3]
    have hq := (done_any D).1 q
    constructor
    ·rintro ⟨a, b⟩; exact ⟨by simp [a], b⟩
    ·rintro ⟨a, b⟩
     rcases List.mem_cons.1 a with rfl | a
     ·exact absurd hq b
     ·exact ⟨a, b⟩
   ·rw [if_neg q, List.mem_cons, h3, List.mem_cons]
    have hq : ¬ Rch W H l c z := fun h => q ((done_any D).2 h)
    constructor
    ·rintro (rfl | ⟨a, b⟩)
     ·exact ⟨.inl rfl, hq⟩
     ·exact ⟨.inr a, b⟩
    ·rintro ⟨rfl | a, b⟩
     ·exact .inl rfl
     ·exact .inr ⟨a, b⟩
/-- What Traps comes to. -/
theorem traps_all (M : Mv W H l fr z) (hB : mazeB W H l fr z = true) : ∃ T : List Int, (∀ k, 65 ≤ k → puzzles_Traps.f k W H l fr z = some (T, 0)) ∧ T.Pairwise (· < ·) ∧ T.length ≤ 64 ∧ ∀ c, c ∈ T ↔ Rch W H l fr c ∧ ¬ Rch W H l c z := by
 obtain ⟨L, h1, D, hr⟩ := reached_all M fr M.f0 M.f1
 have n64 := M.n64
 have hz : 0 ≤ z ∧ z < 1000 := ⟨M.z0, by have := M.z1; omega⟩
 have hll := apart_le D.apart hr
 obtain ⟨o, o1, o2, o3⟩ := traps_in M (L.map (·.1)) (fun c hc => by obtain ⟨e, he, rfl⟩ := List.mem_map.1 hc; exact hr e he)
 have hnd : (L.map (·.1)).Pairwise (· ≠ ·) := List.pairwise_map.2 D.apart
 have hond : o.Pairwise (· ≠ ·) := hnd.sublist o2
 have hp := List.mergeSort_perm o (fun x y => decide (x ≤ y))
 refine ⟨o.mergeSort fun x y => decide (x ≤ y), fun k hk => ?_, ?_, ?_, fun c => ?_⟩
 ·unfold puzzles_Traps.f
  rw [if_pos hB, if_pos hz, h1 k hk, Option.bind_some, if_pos (by omega), o1 k hk, Option.bind_some]
 ·have s1 : (o.mergeSort fun x y => decide (x ≤ y)).Pairwise (fun a b => decide (a ≤ b) = true) := List.pairwise_mergeSort (fun a b c h1 h2 => by simp at *; omega) (fun a b => by simp; omega) o
  have s2 : (o.mergeSort fun x y => decide (x ≤ y)).Pairwise (· ≠ ·) := (hp.pairwise_iff (fun {a b} h => Ne.symm h)).2 hond
  exact (s1.and s2).imp (fun {a b} h => by have := of_decide_eq_true h.1; have := h.2; omega)
 ·rw [hp.length_eq]
  have := o2.length_le
  rw [List.length_map] at this
  omega
 ·rw [hp.mem_iff, o3]
  have : c ∈ L.map (·.1) ↔ Rch W H l fr c := by
   rw [← done_any D, List.any_eq_true, List.mem_map]
   constructor
   ·rintro ⟨e, a, b⟩; exact ⟨e, a, by simpa using b⟩
   ·rintro ⟨e, a, b⟩; exact ⟨e, a, by simpa using b⟩
  rw [this]
theorem rollAll_val (M : Mv W H l fr z) (k : Nat) (hk : 65 ≤ k) : ∀ (mv : List Int) (c : Int), 0 ≤ c → c < l.length → dirs mv → rollAll k W H l fr z c mv = some (pth (stM W H l) c mv)
 | [], c, _, _, _ => rfl
 | d :: t, c, h0, h1, hd => by
  obtain ⟨hd0, ht⟩ := dirs_cons.1 hd
  have hst := rollN_range M d 64 c h0 h1
  rw [rollAll]
  have := rollK_good M k (by omega) c d h0 h1 hd0.1 hd0.2
  unfold rollK at this
  rw [this, Option.bind_some]
  exact rollAll_val M k hk t _ hst.1 hst.2 ht
theorem cf84_val (mv : List Int) : cf84.f mv = some (mv.any fun x => !inR 0 3 x) := rfl
/-- What Roll comes to. -/
def rollR (W H : Int) (l : List Bool) (fr : Int) (mv : List Int) : Int × Int := if (mv.length : Int) > 200 then (0, 1) else if mv.all (inR 0 3) = true then (pth (stM W H l) fr mv, 0) else (0, 1)
theorem all_dirs {mv : List Int} (h : mv.all (inR 0 3) = true) : dirs mv := fun d hd => by
 have := List.all_eq_true.1 h d hd
 unfold inR at this
 simpa using this
theorem roll_all (M : Mv W H l fr z) (hB : mazeB W H l fr z = true) (mv : List Int) (k : Nat) (hk : 65 ≤ k) : puzzles_Roll.f k W H l fr z mv = some (rollR W H l fr mv) := by
 unfold puzzles_Roll.f rollR
 rw [if_pos hB]
 by_cases h : (mv.length : Int) > 200
 ·rw [if_pos h, if_pos h]
 ·have hcv : (mv.any fun x => !inR 0 3 x) = !(mv.all (inR 0 3)) := by rw [List.all_eq_not_any_not, Bool.not_not]
  rw [if_neg h, if_neg h, cf84_val, Option.bind_some, hcv]
  cases q : mv.all (inR 0 3) with
  | true => rw [if_neg (by decide), if_pos rfl, rollAll_val M k hk mv fr M.f0 M.f1 (all_dirs q), Option.bind_some]
  | false => rw [if_pos (by decide), if_neg (by decide)]
end

end Go.Proofs.Ytdhiijleafcfcaa.T
