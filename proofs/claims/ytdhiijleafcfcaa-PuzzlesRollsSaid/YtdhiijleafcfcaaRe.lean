/- The cells that the ball reaches: a queue of cells, and a map of the moves to each. -/
import Derived.Test.YtdhiijleafcfcaaT0
import Derived.Test.YtdhiijleafcfcaaMa
import Derived.Test.YtdhiijleafcfcaaWi
import Derived.Test.YtdhiijleafcfcaaTgr
import Derived.Deep.RegionWith
import Derived.StillTailTactics
namespace Go.Proofs.Ytdhiijleafcfcaa.T
open Go.RowKit Go.Proofs.YtdhiijleafcfcaaW.PrintWords Go.Proofs.YtdhiijleafcfcaaW.PrintLast Go.Proofs.YtdhiijleafcfcaaW.PrintMore
attribute [local go_sem] max2_int min2_int max_two min_two max_three min_three max_four min_four
set_option linter.unusedVariables false
set_option linter.unusedSimpArgs false

open Mz
def rchIn (rl : Int → Int → Option Int) (c : Int) (wy : List Int) : List Int → List En → Option (List En)
 | [], L => some L
 | d :: t, L => (rl c d).bind fun z => if (L.any fun e => e.1 == z) = true then rchIn rl c wy t L else if 0 ≤ z ∧ z < 1000 ∧ L.length < 1000 ∧ wy.length < 1000 then rchIn rl c wy t (L ++ [(z, wy ++ [d])]) else none
def rchOut (rl : Int → Int → Option Int) : Nat → List En → Nat → Option (List En)
 | 0, _, _ => none
 | k + 1, L, i => match L[i]? with
  | none => some L
  | some e => (rchIn rl e.1 e.2 [0, 1, 2, 3] L).bind fun L' => rchOut rl k L' (i + 1)
def rollK (k : Nat) (a0 a1 : Int) (l : List Bool) (a3 a4 : Int) (c d : Int) : Option Int := puzzles_maze_roll.f k a0 a1 a0 a1 l a3 a4 c d
def reachedF (k : Nat) (a0 a1 : Int) (l : List Bool) (a3 a4 : Int) (c : Int) : Option (List En) := if 0 ≤ c ∧ c < 1000 then rchOut (rollK k a0 a1 l a3 a4) k [(c, [])] 0 else none
structure ReA (w : World) (B : Nat) (A : Option Addr) (c : Nat) (l : List Bool) (a0 a1 a3 a4 : Int) (L : List En) (cs : List Int) (v : Value) (V : World) : Prop where
 n1 : V.heap[w.heap.size]? = some (.cells #[.int .i64 a0, .int .i64 a1, .int .i64 a0, .int .i64 a1, .slice A l.length c, .int .i64 a3, .int .i64 a4] 99 (0, 0))
 hv : Kd.R (Kd.int .i64) 3 V w.heap.size (fun _ => True) v cs
 hm : MapIs V w.heap.size (fun k => some k ≠ v.ownBlock) B L
 hb : Below w.heap.size w V
 ap : L.Pairwise fun a b => a.1 ≠ b.1
 rg : ∀ e ∈ L, 0 ≤ e.1 ∧ e.1 < 1000
theorem wf_small {c : Int} (h : 0 ≤ c ∧ c < 1000) : (Lit.int .i64 c).wf = true := WalkArith.wf_i64 (by omega)
section
variable {w : World} {B : Nat} {A : Option Addr} {c : Nat} {l : List Bool} {a0 a1 a3 a4 : Int} {L : List En} {cs : List Int} {v : Value} {V V' : World}
theorem ReA.drew (h : ReA w B A c l a0 a1 a3 a4 L cs v V) : ReA w B A c l a0 a1 a3 a4 L cs v V.drew := ⟨h.n1, Kd.R_drewN h.hv 1, h.hm.drewN 1, pw_below_drewN h.hb 1, h.ap, h.rg⟩
theorem ReA.below (h : ReA w B A c l a0 a1 a3 a4 L cs v V) (hb : Below V.heap.size V V') : ReA w B A c l a0 a1 a3 a4 L cs v V' :=
 ⟨(hb.block _ (blk_lt h.n1)).trans h.n1, Kd.R_below h.hv hb, h.hm.below hb, h.hb.trans (hb.mono h.hb.size), h.ap, h.rg⟩
theorem map_ne {v : Value} {ok : Nat → Prop} {base : Nat} (hv : Kd.R (Kd.int .i64) 3 V base ok v cs) {ok' : Nat → Prop} (hm : MapIs V base ok' B L) : some B ≠ v.ownBlock := by
 obtain ⟨es, clk, h1, _⟩ := hm
 intro e
 obtain ⟨cells, hc⟩ := Kd.R_typed hv B e.symm
 rw [h1] at hc
 cases hc
/-- The queue grows. -/
theorem ReA.app (h : ReA w B A c l a0 a1 a3 a4 L cs v V) {v' : Value} {cs' : List Int} (ho : Kd.R (Kd.int .i64) 3 V' w.heap.size (fun _ => True) v' cs') (hb : Below w.heap.size w V') (hg : V.grownBy V' v.ownBlock) (hat : v'.ownBlock = v.ownBlock ∨ ∃ b, v'.ownBlock = some b ∧ V.heap.size ≤ b) : ReA w B A c l a0 a1 a3 a4 L cs' v' V' :=
 ⟨(hg.block _ (blk_lt h.n1) (Kd.R_ne h.hv h.n1 (by decide))).trans h.n1, ho, h.hm.grown hg (map_ne h.hv h.hm) hat, hb, h.ap, h.rg⟩
theorem ReA.idx (h : ReA w B A c l a0 a1 a3 a4 L cs v V) (i : Nat) (x : Int) (hx : cs[i]? = some x) : ∃ ad cp, v = .slice (some ad) cs.length cp ∧ V.cell? (ad.add i) = some (.int .i64 x) := by
 obtain ⟨A', cp, rfl⟩ := Kd.R_slice h.hv
 obtain ⟨hlt, hx'⟩ := List.getElem?_eq_some_iff.1 hx
 obtain ⟨ad, rfl, hca⟩ := Kd.at_int (Kd.R_reads' h.hv).2.2 (i : Int) (by omega) (by omega)
 refine ⟨ad, cp, rfl, ?_⟩
 rw [Int.toNat_natCast] at hca
 rw [hca]
 unfold rd
 rw [Int.toNat_natCast, List.getD_eq_getElem?_getD, hx]
 rfl
theorem ReA.look (h : ReA w B A c l a0 a1 a3 a4 L cs v V) (e : En) (he : e ∈ L) (cm : Bool) :
  ∃ u, (Instr.lookup 105 (.map (some B)) (.int .i64 e.1) cm).run Try.prog V = .ok (if cm then .tuple #[u, .bool true] else u) V ∧ Kd.R (Kd.int .i64) 3 V w.heap.size (fun k => some k ≠ v.ownBlock) u e.2 := by
 rcases ma_find h.hm h.ap e.1 (wf_small (h.rg e he)) cm with ⟨_, h2⟩ | ⟨e', u, h1, h2, h3, h4⟩
 ·exact absurd rfl (h2 e he)
 ·have : e' = e := by
   obtain ⟨i, hi, rfl⟩ := List.getElem_of_mem he
   obtain ⟨j, hj, rfl⟩ := List.getElem_of_mem h1
   rcases Nat.lt_trichotomy i j with q | q | q
   ·exact absurd h2.symm (List.pairwise_iff_getElem.1 h.ap i j hi hj q)
   ·subst q; rfl
   ·exact absurd h2 (List.pairwise_iff_getElem.1 h.ap j i hj hi q)
  subst this
  exact ⟨u, h3, h4⟩
theorem ReA.miss (h : ReA w B A c l a0 a1 a3 a4 L cs v V) (z : Int) (hz : (Lit.int .i64 z).wf = true) (hno : ∀ e ∈ L, e.1 ≠ z) (cm : Bool) :
  (Instr.lookup 105 (.map (some B)) (.int .i64 z) cm).run Try.prog V = .ok (if cm then .tuple #[.slice none 0 0, .bool false] else .slice none 0 0) V := by
 rcases ma_find h.hm h.ap z hz cm with ⟨h1, _⟩ | ⟨e', u, h1, h2, _, _⟩
 ·exact h1
 ·exact absurd h2 (hno e' h1)
/-- A row that is newer than the queue's. -/
theorem new_row (h : ReA w B A c l a0 a1 a3 a4 L cs v V) {u : Value} {xs : List Int} (ho : Kd.R (Kd.int .i64) 3 V' V.heap.size (fun _ => True) u xs) : Kd.R (Kd.int .i64) 3 V' w.heap.size (fun k => some k ≠ v.ownBlock) u xs :=
 Kd.R_mono (Kd.R_lower (Kd.R_bound ho) h.hb.size) (fun k hk e => by
  obtain ⟨cells, hc⟩ := Kd.R_typed h.hv k e.symm
  have := blk_lt hc
  have := hk.2.1
  omega)
/-- The new cell's moves are stored. -/
theorem ReA.store (h : ReA w B A c l a0 a1 a3 a4 L cs v V) (z : Int) (hz : 0 ≤ z ∧ z < 1000) (hno : ∀ e ∈ L, e.1 ≠ z) (hsz : L.length < 1000) {u : Value} {xs : List Int} (hu : Kd.R (Kd.int .i64) 3 V w.heap.size (fun k => some k ≠ v.ownBlock) u xs) :
  ∃ V', (Instr.mapUpdate 105 (.map (some B)) (.int .i64 z) u).run Try.prog V = .ok () V' ∧ ReA w B A c l a0 a1 a3 a4 (L ++ [(z, xs)]) cs v V' := by
 obtain ⟨V', h1, h2, hg⟩ := ma_store h.hm z (wf_small hz) hno (by omega) u xs hu 0 (Nat.zero_le _)
 have hBb : w.heap.size ≤ B := by obtain ⟨_, _, _, q, _⟩ := h.hm; exact q
 have hBne : ∀ k, (∃ cells q, V.heap[k]? = some (.cells cells q (0, 0))) → some k ≠ some B := by
  rintro k ⟨cells, q, hk⟩ e
  cases e
  obtain ⟨_, _, h5, _⟩ := h.hm
  rw [h5] at hk
  cases hk
 refine ⟨V', h1, ?_, ?_, h2, h.hb.grown hg h.hb.size (fun j hj => by cases hj; exact hBb), ?_, ?_⟩
 ·exact (hg.block _ (blk_lt h.n1) (hBne _ ⟨_, _, h.n1⟩)).trans h.n1
 ·refine Kd.R_mono (Kd.R_grown (Kd.R_bound h.hv) hg (fun k hk => ?_)) (fun _ _ => trivial)
  obtain ⟨_, _, _, q, _, cells, hc⟩ := hk
  exact hBne k ⟨cells, q, hc⟩
 ·refine List.pairwise_append.2 ⟨h.ap, by simp, fun a ha b hb => ?_⟩
  simp only [List.mem_singleton] at hb
  subst hb
  exact hno a ha
 ·intro e he
  rcases List.mem_append.1 he with he | he
  ·exact h.rg e he
  ·simp only [List.mem_singleton] at he; subst he; exact hz
end
theorem four_drop (s : Nat) (h : s < 4) : ([0, 1, 2, 3] : List Int).drop s = (s : Int) :: ([0, 1, 2, 3] : List Int).drop (s + 1) := by
 have : s = 0 ∨ s = 1 ∨ s = 2 ∨ s = 3 := by omega
 rcases this with rfl | rfl | rfl | rfl <;> rfl
/-- What reached returns. -/
def ReP (w : World) (R : List En) (e : Ending) (w' : World) : Prop := ∃ (v : Value) (B : Nat), e = .returned (.tuple #[v, .map (some B)]) ∧ Kd.R (Kd.int .i64) 3 w' w.heap.size (fun _ => True) v (R.map (·.1)) ∧ MapIs w' w.heap.size (fun k => some k ≠ v.ownBlock) B R ∧ (R.Pairwise fun a b => a.1 ≠ b.1) ∧ (∀ e ∈ R, 0 ≤ e.1 ∧ e.1 < 1000) ∧ Below w.heap.size w w'
set_option maxHeartbeats 8000000 in
set_option maxRecDepth 100000 in
theorem reached_calls (k : Nat) (a0 a1 : Int) (A : Option Addr) (c : Nat) (l : List Bool) (a3 a4 : Int) (fr : Int) (R : List En) (w : World) (hr : Kd.C Kd.bool w A l.length l) (hc : l.length ≤ c) (h : reachedF k a0 a1 l a3 a4 fr = some R) :
  Calls Try.prog 88 #[.agg #[.int .i64 a0, .int .i64 a1, .int .i64 a0, .int .i64 a1, .slice A l.length c, .int .i64 a3, .int .i64 a4], .int .i64 fr] w (ReP w R) := by
 have hu99 := Try.underlying99
 unfold reachedF at h
 by_cases hf : 0 ≤ fr ∧ fr < 1000
 ·rw [if_pos hf] at h
  have HL := Aside0.mk h
  have HR := Aside0.mk hr
  have HC := Aside0.mk hc
  -- the start
  obtain ⟨W4, hW4⟩ : ∃ W4 : World, W4 = (((w.alloc (.cells #[.int .i64 a0, .int .i64 a1, .int .i64 a0, .int .i64 a1, .slice A l.length c, .int .i64 a3, .int .i64 a4] 99)).alloc (.cells #[.int .i64 fr] 3)).alloc (.map #[] 0)).alloc (.cells #[] 3) := ⟨_, rfl⟩
  obtain ⟨q1, q2, q3, q4⟩ := four_new w (.cells #[.int .i64 a0, .int .i64 a1, .int .i64 a0, .int .i64 a1, .slice A l.length c, .int .i64 a3, .int .i64 a4] 99) (.cells #[.int .i64 fr] 3) (.map #[] 0) (.cells #[] 3)
  rw [← hW4] at q1 q2 q3 q4
  have hS4 : ReA w (w.heap.size + 1 + 1) A c l a0 a1 a3 a4 [] [fr] (.slice (some ⟨w.heap.size + 1, 0, none⟩) 1 1) W4 := by
   refine ⟨q1, ?_, ⟨#[], 0, q3, by omega, by simp, rfl, fun j x e h1 => by simp at h1⟩, by rw [hW4]; exact below_alloc (below_alloc (below_alloc (below_alloc (Below.refl _ _) _) _) _) _, by simp, by simp⟩
   have h1 : Kd.R (Kd.int .i64) 3 ((w.alloc (.cells #[.int .i64 a0, .int .i64 a1, .int .i64 a0, .int .i64 a1, .slice A l.length c, .int .i64 a3, .int .i64 a4] 99)).alloc (.cells #[.int .i64 fr] 3)) w.heap.size (fun _ => True) (.slice (some ⟨(w.alloc (.cells #[.int .i64 a0, .int .i64 a1, .int .i64 a0, .int .i64 a1, .slice A l.length c, .int .i64 a3, .int .i64 a4] 99)).heap.size, 0, none⟩) 1 1) [fr] := Kd.R_of_own (own_lit (w.alloc (.cells #[.int .i64 a0, .int .i64 a1, .int .i64 a0, .int .i64 a1, .slice A l.length c, .int .i64 a3, .int .i64 a4] 99)) w.heap.size 3 .i64 [fr] (by simp) (by simp)) (fun _ _ => trivial)
   rw [World.size_alloc] at h1
   rw [hW4]
   exact Kd.R_alloc (Kd.R_alloc h1 _) _
  have hu4 : Kd.R (Kd.int .i64) 3 W4 w.heap.size (fun k => some k ≠ (Value.slice (some ⟨w.heap.size + 1, 0, none⟩) 1 1).ownBlock) (.slice (some ⟨w.heap.size + 1 + 1 + 1, 0, none⟩) 0 0) [] := by
   have h1 : Kd.R (Kd.int .i64) 3 ((((w.alloc (.cells #[.int .i64 a0, .int .i64 a1, .int .i64 a0, .int .i64 a1, .slice A l.length c, .int .i64 a3, .int .i64 a4] 99)).alloc (.cells #[.int .i64 fr] 3)).alloc (.map #[] 0)).alloc (.cells #[] 3)) w.heap.size (fun k => some k ≠ some (w.heap.size + 1)) (.slice (some ⟨(((w.alloc (.cells #[.int .i64 a0, .int .i64 a1, .int .i64 a0, .int .i64 a1, .slice A l.length c, .int .i64 a3, .int .i64 a4] 99)).alloc (.cells #[.int .i64 fr] 3)).alloc (.map #[] 0)).heap.size, 0, none⟩) 0 0) [] := Kd.R_of_own (own_lit (((w.alloc (.cells #[.int .i64 a0, .int .i64 a1, .int .i64 a0, .int .i64 a1, .slice A l.length c, .int .i64 a3, .int .i64 a4] 99)).alloc (.cells #[.int .i64 fr] 3)).alloc (.map #[] 0)) w.heap.size 3 .i64 [] (by simp; omega) (by simp)) (fun k hk => by simp [Value.ownBlock] at hk ⊢; omega)
   rw [World.size_alloc, World.size_alloc, World.size_alloc] at h1
   rw [hW4]
   exact h1
  obtain ⟨W5, hrun, hS5⟩ := hS4.store fr hf (by simp) (by simp) hu4
  rw [hW4] at hrun
  have HS5 := Aside0.mk hS5
  have hmm := @run_makeMap Try.prog
  clear hW4 q1 q2 q3 q4 hS4 hu4 hS5 h hr hc hf
  go_enter Try.func88, Try.ntmps88
  go_wp2
  go_loopg [4, 6] k (fun kq v4 v6 wr => ∃ (i : Nat) (L : List En), v6 = .int .i64 (i : Int) ∧ Aside0 (rchOut (rollK k a0 a1 l a3 a4) kq L i = some R) ∧ Aside0 (ReA w (w.heap.size + 1 + 1) A c l a0 a1 a3 a4 L (L.map (·.1)) v4 wr))
  case atStart => exact ⟨0, [(fr, [])], rfl, HL, HS5⟩
  case round =>
   clear HL HS5 hrun hmm
   obtain ⟨i, L, rfl, HA, HS⟩ := hrel
   cases gk with
   | zero => exact absurd HA.out (by simp [rchOut])
   | succ k2 =>
    have hA := HA.out
    clear HA
    rw [rchOut] at hA
    obtain ⟨wo, rfl⟩ : ∃ wo : World, wo = wr := ⟨_, rfl⟩
    obtain ⟨A4, c4, e4⟩ := Kd.R_slice HS.out.hv
    rw [List.length_map] at e4
    subst e4
    by_cases hlt : i < L.length
    ·obtain ⟨e, he⟩ : ∃ e, L[i]? = some e := ⟨_, List.getElem?_eq_getElem hlt⟩
     rw [he] at hA
     simp only at hA
     obtain ⟨L', hIn, hOut⟩ := Option.bind_eq_some_iff.mp hA
     have HIn := Aside0.mk hIn
     have HOut := Aside0.mk hOut
     have HE := Aside0.mk he
     have hlt' : (i : Int) < (L.length : Int) := by omega
     clear hA hIn hOut he
     go_wp2
     go_loopg [4, 7] 5 (fun gg v4 v7 wr => ∃ (s : Nat) (L2 : List En), s ≤ 4 ∧ 4 - s < gg ∧ v7 = .int .i64 (s : Int) ∧ Aside0 (rchIn (rollK k a0 a1 l a3 a4) e.1 e.2 (([0, 1, 2, 3] : List Int).drop s) L2 = some L') ∧ Aside0 (L2[i]? = some e) ∧ Aside0 (ReA w (w.heap.size + 1 + 1) A c l a0 a1 a3 a4 L2 (L2.map (·.1)) v4 wr))
     case atStart => exact ⟨0, L, by omega, by omega, rfl, HIn, HE, HS⟩
     case round =>
      clear HIn HE HS
      obtain ⟨s, L2, hs4, hg, rfl, HI, HE, HS⟩ := hrel
      have hC := HE.out
      have hIx : (L2.map (·.1))[i]? = some e.1 := by rw [List.getElem?_map, hC]; rfl
      have hlt2 : i < L2.length := (List.getElem?_eq_some_iff.1 hC).1
      have heM : e ∈ L2 := List.mem_of_getElem? hC
      obtain ⟨ad, cp, e4, hca⟩ := HS.out.idx i e.1 hIx
      rw [List.length_map] at e4
      subst e4
      have hlt2' : (i : Int) < (L2.length : Int) := by omega
      have w1' : IntKind.i64.wrap ((s : Int) + 1) = (s : Int) + 1 := IntWalk.i64_in _ (by omega)
      have w2' : IntKind.i64.wrap ((i : Int) + 1) = (i : Int) + 1 := IntWalk.i64_in _ (by have := apart_le (n := 1000) HS.out.ap (fun e he => by have := HS.out.rg e he; omega); omega)
      by_cases hs : s < 4
      ·have hle : (s : Int) ≤ 3 := by omega
       have hI := HI.out
       rw [four_drop s hs, rchIn] at hI
       obtain ⟨z, hz, hI⟩ := Option.bind_eq_some_iff.mp hI
       unfold rollK at hz
       have HZ := Aside0.mk hz
       have HI2 := Aside0.mk hI
       have HIX := Aside0.mk hIx
       have HEM := Aside0.mk heM
       have hcell := fun j => blk_cell HS.out.n1 j
       have x0 := hcell 0
       have x1 := hcell 1
       have x2 := hcell 2
       have x3 := hcell 3
       have x4 := hcell 4
       have x5 := hcell 5
       have x6 := hcell 6
       simp only [List.getElem?_toArray, List.getElem?_cons_zero, List.getElem?_cons_succ] at x0 x1 x2 x3 x4 x5 x6
       clear HI hz hcell hC hIx heM HI2
       by_cases hk : (L2.any fun x => x.1 == z) = true
       ·rw [if_pos hk] at hI
        have HI3 := Aside0.mk hI
        obtain ⟨x, hx1, hx2⟩ := List.any_eq_true.1 hk
        have HX := Aside0.mk (show x ∈ L2 ∧ x.1 = z from ⟨hx1, by simpa using hx2⟩)
        clear hI hk hx1 hx2
        go_wp2
        go_still_tail 6, (by kernel_rfl)
        go_wp2_with (go_at_call 85; refine Calls.mono (puzzles_maze_roll.calls k a0 a1 a0 a1 A c l a3 a4 e.1 (s : Int) z _ (Kd.C_below HR.out HS.out.drew.hb) HC.out HZ.out) ?_; rintro e3 w3 ⟨rfl, hb3⟩; have hS3 := HS.out.drew.below hb3; obtain ⟨u, hlk, hu⟩ := hS3.look x HX.out.1 true; rw [HX.out.2, if_pos rfl] at hlk; have HS3 := Aside0.mk hS3; clear hS3 hb3 hu)
        go_roundg (gk - 1)
        case measure => omega
        case rel => exact ⟨s + 1, L2, by omega, by omega, by go_num, HI3, HE, HS3⟩
       ·rw [if_neg hk] at hI
        by_cases hlim : 0 ≤ z ∧ z < 1000 ∧ L2.length < 1000 ∧ e.2.length < 1000
        ·rw [if_pos hlim] at hI
         have HI3 := Aside0.mk hI
         have HLM := Aside0.mk hlim
         have HNO := Aside0.mk (show ∀ x ∈ L2, x.1 ≠ z from fun x hx hxz => hk (List.any_eq_true.2 ⟨x, hx, by simpa using hxz⟩))
         have HWF := Aside0.mk (wf_small ⟨hlim.1, hlim.2.1⟩)
         have HIX2 := Aside0.mk (show (L2.map (·.1) ++ [z])[i]? = some e.1 by rw [List.getElem?_append_left (by simpa using hlt2)]; exact HIX.out)
         have HCLN := Aside0.mk (show slices_Clone_int_int.f e.2 = some e.2 from if_pos (by omega))
         clear hI hk hlim
         go_wp2
         go_still_tail 6, (by kernel_rfl)
         go_wp2_with (first
          | (go_at_call 85; refine Calls.mono (puzzles_maze_roll.calls k a0 a1 a0 a1 A c l a3 a4 e.1 (s : Int) z _ (Kd.C_below HR.out HS.out.drew.hb) HC.out HZ.out) ?_; rintro e3 w3 ⟨rfl, hb3⟩; have hS3 := HS.out.drew.below hb3; have hlk := hS3.miss z HWF.out HNO.out true; rw [if_pos rfl] at hlk; have HS3 := Aside0.mk hS3; clear hS3 hb3)
          | ((with_reducible refine gate_builtin (b := .append) (xs := #[.tmp 42, .tmp 44]) rfl ?_); at_builtin; refine Kd.R_append (Kd.int .i64) (w0 := w) w.heap.size rfl (.tmp 42) (.tmp 44) 22 3 (.int .i64 0) 8 rfl Try.underlying22 info3 rfl (by decide) (by omega) (.slice (some ad) L2.length cp) (L2.map (·.1)) z [.int .i64 z] (fun _ => True) (fun _ => False) rfl rfl ?aP (fun _ hk => hk.elim) ?aF ?aO ?aB ?aS ?aL ?_; (case aP => exact rfl); (case aB => exact HS3.out.hb); (case aF => exact (fun _ _ => trivial)); (case aO => exact HS3.out.hv); (case aS => exact below_size HS3.out.hb); (case aL => have := HLM.out; simp only [List.length_map]; omega); intro v5 w5 ho hb hg hat; have hS5 := HS3.out.app ho hb hg hat; obtain ⟨ad5, cp5, e5, hca5⟩ := hS5.idx i e.1 HIX2.out; simp only [List.length_append, List.length_map, List.length_singleton] at e5; subst e5; obtain ⟨u, hlk5, hu⟩ := hS5.look e HEM.out false; obtain ⟨Au, cu, eu⟩ := Kd.R_slice hu; subst eu; rw [if_neg Bool.false_ne_true] at hlk5; have HS5 := Aside0.mk hS5; have HU := Aside0.mk hu; clear hlk HS3 ho hb hg hat hS5 hu)
          | (go_at_call 70; refine Calls.mono (slices_Clone_int_int.calls Au cu e.2 e.2 _ (Kd.R_reads' HU.out).2.2 (Kd.R_reads' HU.out).2.1 HCLN.out) ?_; rintro e6 w6 ⟨v6, rfl, hR6, hb6⟩; obtain ⟨A6, c6, e66⟩ := Kd.R_slice hR6; subst e66; have HR6 := Aside0.mk hR6; have HB6 := Aside0.mk hb6; clear hlk5 hca5 hR6 hb6)
          | ((with_reducible refine gate_builtin (b := .append) (xs := #[.tmp 54, .tmp 56]) rfl ?_); at_builtin; refine Kd.R_append (Kd.int .i64) (w0 := w5) w5.heap.size rfl (.tmp 54) (.tmp 56) 22 3 (.int .i64 0) 8 rfl Try.underlying22 info3 rfl (by decide) (by omega) (.slice A6 e.2.length c6) e.2 (s : Int) [.int .i64 (s : Int)] (fun _ => True) (fun _ => False) rfl rfl ?bP (fun _ hk => hk.elim) ?bF ?bO ?bB ?bS ?bL ?_; (case bP => exact rfl); (case bB => exact HB6.out); (case bF => exact (fun _ _ => trivial)); (case bO => exact HR6.out); (case bS => exact below_size HB6.out); (case bL => have := HLM.out; omega); intro v7 w7 ho hb hg hat; have hS7 := HS5.out.below hb; obtain ⟨w8, hup, hS8⟩ := hS7.store z ⟨HLM.out.1, HLM.out.2.1⟩ HNO.out HLM.out.2.2.1 (new_row HS5.out ho); have HS8 := Aside0.mk hS8; clear ho hb hg hat hS7 hS8))
         go_roundg (gk - 1)
         case measure => omega
         case rel => exact ⟨s + 1, L2 ++ [(z, e.2 ++ [(s : Int)])], by omega, by omega, by go_num, HI3, ⟨by rw [List.getElem?_append_left hlt2]; exact HE.out⟩, ⟨by rw [List.map_append]; exact HS8.out⟩⟩
        ·rw [if_neg hlim] at hI
         cases hI
      ·obtain rfl : s = 4 := by omega
       have hle : ¬ ((4 : Nat) : Int) ≤ 3 := by omega
       have hI := HI.out
       have e5 : L2 = L' := Option.some.inj hI
       subst e5
       clear hI HI hs hca
       go_wp2
       go_roundg k2
       case measure => omega
       case rel => exact ⟨i + 1, L2, by go_num, HOut, HS⟩
    ·have hn : L[i]? = none := List.getElem?_eq_none (by omega)
     rw [hn] at hA
     have hRL : L = R := Option.some.inj hA
     subst hRL
     have hlt' : ¬ (i : Int) < (L.length : Int) := by omega
     go_wp2
     go_ret2
     exact ⟨.slice A4 L.length c4, w.heap.size + 1 + 1, rfl, HS.out.hv, HS.out.hm, HS.out.ap, HS.out.rg, HS.out.hb⟩
 ·rw [if_neg hf] at h
  cases h

end Go.Proofs.Ytdhiijleafcfcaa.T
