/- The iterator of all hangings: the search. -/
import Derived.Test.YtdhiijleafcfcaaT0
import Derived.Test.YtdhiijleafcfcaaHi
namespace Go.Proofs.Ytdhiijleafcfcaa.T
open Go.RowKit Go.Proofs.YtdhiijleafcfcaaW.PrintWords Go.Proofs.YtdhiijleafcfcaaW.PrintLast Go.Proofs.YtdhiijleafcfcaaW.PrintMore
attribute [local go_sem] max2_int min2_int max_two min_two max_three min_three max_four min_four
set_option linter.unusedVariables false
set_option linter.unusedSimpArgs false

section
variable {N : Nat} {l : List S76} {A : Option Addr} {c Bn Bl Bh By Bp Bx g lp base : Nat} {K : Nat → Prop} {J Jx : List HX → (Nat → Prop) → World → Prop}
/-- What the append of one portrait leaves. -/
theorem happ {D : Nat → Prop} {v v1 : Value} {W1 w1 : World} {pl p : List Int} {x : Int} {s : List HX} (hJ' : Jlaw J) (hA : HApart l A Bn Bl Bh By Bp Bx g base K) (h : HEnv N l A c Bn Bl Bh By Bp Bx g lp base D v W1 pl p) (hJ : J s D W1)
  (ho : Kd.R (Kd.int .i64) 3 w1 base (fun _ => True) v1 (p ++ [x])) (hg : W1.grownBy w1 v.ownBlock) (hat : v1.ownBlock = v.ownBlock ∨ ∃ b, v1.ownBlock = some b ∧ W1.heap.size ≤ b) :
  ∃ D1 : Nat → Prop, HEnv N l A c Bn Bl Bh By Bp Bx g lp base D1 v1 (w1.setCell ⟨Bh, 0, none⟩ v1) pl (p ++ [x]) ∧ J s D1 (w1.setCell ⟨Bh, 0, none⟩ v1) := by
 refine ⟨fun k => D k ∨ v1.ownBlock = some k, h.store hA (Same.of_grown hg (fun _ hk => hk)) ho hat (fun k => Iff.rfl), hJ' _ _ _ _ _ hJ ((Same.of_grown hg (fun k hk e => hk (h.vo k e.symm).1)).setCell ⟨Bh, 0, none⟩ (by simp; exact h.dh) _) (fun k hk => ?_)⟩
 rcases hk with hk | hk
 ·exact .inl hk
 ·rcases hat with e | ⟨b, e, hb⟩
  ·exact .inl (h.vo k (by rw [← e]; exact hk)).1
  ·rw [e] at hk
   obtain rfl := Option.some.inj hk
   exact .inr hb
theorem hh_grown {D : Nat → Prop} {v : Value} {W1 w1 : World} {pl p : List Int} (h : HEnv N l A c Bn Bl Bh By Bp Bx g lp base D v W1 pl p) (hg : W1.grownBy w1 v.ownBlock) : w1.heap[Bh]? = some (.cells #[v] 22 (0, 0)) :=
 blk_grown h.hh hg (fun e => (h.vo Bh e.symm).2.2.1 rfl)
theorem HEnv.cellAt {D : Nat → Prop} {v : Value} {W : World} {p q : List Int} (h : HEnv N l A c Bn Bl Bh By Bp Bx g lp base D v W (plOf N q) p) (k : Nat) (hk : k < N) : W.cell? ⟨g, k, none⟩ = some (.int .i64 (posI q (k : Int))) := by
 rw [blk_cell h.hg]
 simp [plOf_get N q k hk]
/-- A hanging with one portrait more begins at the head of a block. -/
theorem HEnv.head {D : Nat → Prop} {v : Value} {W : World} {pl p : List Int} {x : Int} (h : HEnv N l A c Bn Bl Bh By Bp Bx g lp base D v W pl (p ++ [x])) : ∃ g' ch, v = .slice (some ⟨g', 0, none⟩) (p.length + 1) ch ∧ p.length + 1 ≤ ch := by
 obtain ⟨Av, cv, rfl⟩ := Kd.R_slice h.hv
 obtain ⟨_, hcv, hRC⟩ := Kd.R_reads' h.hv
 simp only [List.length_append, List.length_singleton] at hcv hRC ⊢
 cases Av with
 | none => exact absurd (hRC.2.2 (by omega)) (by rintro ⟨ad, e, _⟩; cases e)
 | some ad => obtain ⟨g', rfl⟩ := Kd.R_head h.hv; exact ⟨g', cv, rfl, hcv⟩
set_option maxHeartbeats 4000000 in
set_option maxRecDepth 100000 in
theorem hnext_calls (hA : HApart l A Bn Bl Bh By Bp Bx g base K) (hJ' : Jlaw J) (hY' : HYields lp J Jx K base) (hc : l.length ≤ c) (h1 : 1 ≤ N) (h6 : N ≤ 6) (hs : ∀ s ∈ l, saidB s (N : Int) = true) :
  ∀ (m : Nat) (p : List Int) (pre : List HX) (D : Nat → Prop) (v : Value) (W : World), p.length + m = N → J pre D W → HEnv N l A c Bn Bl Bh By Bp Bx g lp base D v W (plOf N p) p →
   Calls Try.prog 152 #[.pointer (some ⟨Bh, 0, none⟩), .pointer (some ⟨Bn, 0, none⟩), .pointer (some ⟨Bl, 0, none⟩), .pointer (some ⟨Bp, 0, none⟩), .pointer (some ⟨By, 0, none⟩), .pointer (some ⟨Bx, 0, none⟩)] W
    (RetB (HPost J Jx (fun D' W' => ∃ v', HEnv N l A c Bn Bl Bh By Bp Bx g lp base D' v' W' (plOf N p) p) pre (hOuts N (okH N l) m p))) := by
 intro m
 induction m with
 | zero =>
  intro p pre D v W hm hJ hE
  exact hnext_end hA hJ' hY' hc h1 h6 hs p hm pre D v W hJ hE
 | succ m ih =>
  intro p pre D v W hm hJ hE
  have hu22 := Try.underlying22
  obtain ⟨F, hF⟩ : ∃ F, okH N l = F := ⟨_, rfl⟩
  rw [hF] at ih ⊢
  obtain ⟨Av, cv, rfl⟩ := Kd.R_slice hE.hv
  have hEn := hE.hn
  have hEh := blk_cell hE.hh 0
  simp only [List.getElem?_toArray, List.getElem?_cons_zero] at hEh
  have e0 : ((p.length : Int) == (N : Int)) = false := beq_eq_false_iff_ne.mpr (by omega)
  have IH := Aside0.mk ih
  have HJ' := Aside0.mk hJ'
  have HE := Aside0.mk hE
  have HJ := Aside0.mk hJ
  have HM := Aside0.mk hm
  have hm' : p.length < N := by omega
  clear ih hJ' hE hJ hY' hs hF hm
  go_enter Try.func152, Try.ntmps152
  go_wp2
  go_loopg [7, 21] (N + 1) (fun gg _ s21 wr => ∃ (k : Nat) (D' : Nat → Prop) (v' : Value) (xs : List HX), k ≤ N ∧ N - k < gg ∧ s21 = .int .i64 (k : Int) ∧ Aside0 (xs.map (fun x => x.2.2) = hUpto N F m p k) ∧ Aside0 (J (pre ++ xs) D' wr) ∧ Aside0 (HEnv N l A c Bn Bl Bh By Bp Bx g lp base D' v' wr (plOf N p) p))
  case atStart => exact ⟨0, D, _, [], by omega, by omega, rfl, ⟨rfl⟩, ⟨by rw [List.append_nil]; exact HJ.out⟩, HE⟩
  case round =>
   clear hEn hEh HE HJ
   obtain ⟨k, D', v', xs, hk, hgg, rfl, HX, HJr, HEr⟩ := hrel
   by_cases hkN : k < N
   ·have hkNz : (k : Int) < (N : Int) := by omega
    have w3 : IntKind.i64.wrap ((k : Int) + 1) = (k : Int) + 1 := IntWalk.i64_in _ (by omega)
    have hEp := HEr.out.hp
    have hEc := HEr.out.cellAt k hkN
    by_cases hin : (k : Int) ∈ p
    ·have hz := (posI_nonneg p (k : Int)).2 hin
     have HI := Aside0.mk hin
     generalize posI p (k : Int) = z at hEc hz
     clear hin
     go_wp2
     go_roundg (N + 1 - (k + 1))
     case measure => omega
     case rel => exact ⟨k + 1, D', v', xs, by omega, by omega, by go_num, ⟨by rw [hUpto_succ, if_pos HI.out, List.append_nil]; exact HX.out⟩, HJr, HEr⟩
    ·have hz : ¬ 0 ≤ posI p (k : Int) := fun h => hin ((posI_nonneg p (k : Int)).1 h)
     obtain ⟨Av', cv', rfl⟩ := Kd.R_slice HEr.out.hv
     have HI := Aside0.mk hin
     generalize posI p (k : Int) = z at hEc hz
     have hEh := blk_cell HEr.out.hh 0
     simp only [List.getElem?_toArray, List.getElem?_cons_zero] at hEh
     have hfg := blk_frozen HEr.out.hg k
     have hE1 := HEr.out.place hA k (p.length : Int)
     have hJ1 := HJ'.out _ _ _ _ _ HJr.out ((Same.refl (fun k => ¬ D' k) wr).setCell ⟨g, k, none⟩ (by simp; exact HEr.out.dg) (.int .i64 (p.length : Int))) (fun _ h => .inl h)
     rw [plOf_snoc N p k hkN hin] at hE1
     have hEh1 := blk_cell hE1.hh 0
     simp only [List.getElem?_toArray, List.getElem?_cons_zero] at hEh1
     have HE1 := Aside0.mk hE1
     have HJ1 := Aside0.mk hJ1
     have HB1 := Aside0.mk (show base ≤ (wr.setCell ⟨g, k, none⟩ (.int .i64 (p.length : Int))).heap.size from by have := hE1.db g hE1.dg; omega)
     have HSZ := Aside0.mk (show (wr.setCell ⟨g, k, none⟩ (.int .i64 (p.length : Int))).heap.size = wr.heap.size from by simp [World.setCell])
     clear hin hE1 hJ1
     go_wp2_with (first
      | ((with_reducible refine gate_builtin (b := .append) (xs := #[.tmp 34, .tmp 36]) rfl ?_); at_builtin; refine Kd.R_append (Kd.int .i64) (w0 := wr.setCell ⟨g, k, none⟩ (.int .i64 (p.length : Int))) base rfl (.tmp 34) (.tmp 36) 22 3 (.int .i64 0) 8 rfl Try.underlying22 info3 rfl (by decide) (by omega) (.slice Av' p.length cv') p (k : Int) [.int .i64 (k : Int)] (fun _ => True) (fun _ => False) rfl (by rw [HSZ.out]; rfl) ?aP (fun _ hk => hk.elim) ?aF ?aO ?aB ?aS ?aL ?_; (case aP => exact rfl); (case aB => exact Below.refl _ _); (case aF => exact (fun _ _ => trivial)); (case aO => exact Kd.R_mono HE1.out.hv (fun _ _ => trivial)); (case aS => exact HB1.out); (case aL => omega); intro v5 w5 ho hb hg hat; have hh5 := hh_grown HE1.out hg; have c5 := blk_cell hh5 0; have f5 := blk_frozen hh5 0; simp only [List.getElem?_toArray, List.getElem?_cons_zero] at c5; obtain ⟨D5, hE5, hJ5⟩ := happ HJ'.out hA HE1.out HJ1.out ho hg hat; obtain ⟨g5, ch5, rfl, hch5⟩ := hE5.head; have hx5 := hE5.hx; have HC := Aside0.mk (IH.out (p ++ [(k : Int)]) (pre ++ xs) D5 _ _ (by have := HM.out; simp only [List.length_append, List.length_singleton]; omega) hJ5 hE5); clear ho hb hg hat hh5 hE5 hJ5)
      | (go_at_call 152; refine HC.out.mono ?_; rintro e w' ⟨(_ | _), rfl, HN⟩; all_goals first
       | (obtain ⟨D6, q6, hq6, hJ6⟩ := HN.no rfl; have HQ6 := Aside0.mk hq6; have HJ6 := Aside0.mk hJ6; clear HN hq6 hJ6)
       | (obtain ⟨D6, xs6, hx6, hJ6, v6, hE6⟩ := HN.yes rfl; obtain ⟨g6, ch6, rfl, hch6⟩ := hE6.head; have c6 := blk_cell hE6.hh 0; have f6 := blk_frozen hE6.hh 0; simp only [List.getElem?_toArray, List.getElem?_cons_zero] at c6; have hE7 := hE6.cut hA; have hp7 := hE7.hp; have c7 := hE7.cellAt k hkN; have f7 := blk_frozen hE7.hg k; have HE6 := Aside0.mk hE6; have HE7 := Aside0.mk hE7; have HX6 := Aside0.mk hx6; have HJ6 := Aside0.mk hJ6; clear HN hx6 hE6 hE7 hJ6)))
     ·go_ret
      refine ⟨false, rfl, (fun h => by cases h), fun _ => ?_⟩
      obtain ⟨t, ht⟩ := hUpto_pre N F m p (N - (k + 1)) (k + 1) (by omega)
      rw [hUpto_succ, if_neg HI.out] at ht
      obtain ⟨t2, ht2⟩ := HQ6.out
      refine ⟨D6, xs ++ q6, ⟨t2 ++ t, ?_⟩, by rw [← List.append_assoc]; exact HJ6.out⟩
      rw [← ht, ← ht2, List.map_append, HX.out]
      simp only [List.append_assoc]
     ·go_roundg (N + 1 - (k + 1))
      case measure => omega
      case rel =>
       have hE8 := HE7.out.place hA k (-1)
       rw [plOf_back N p k hkN HI.out] at hE8
       refine ⟨k + 1, D6, _, xs ++ xs6, by omega, by omega, by go_num, ⟨?_⟩, ⟨?_⟩, ⟨hE8⟩⟩
       ·rw [hUpto_succ, if_neg HI.out, List.map_append, HX.out, HX6.out]
       ·rw [← List.append_assoc]
        exact HJ'.out _ _ _ _ _ HJ6.out (((Same.refl (fun k => ¬ D6 k) w').setCell ⟨Bh, 0, none⟩ (by simp; exact HE6.out.dh) _).setCell ⟨g, k, none⟩ (by simp; exact HE6.out.dg) _) (fun _ h => .inl h)
   ·obtain rfl : k = N := by omega
    have hkNz : ¬ (k : Int) < (k : Int) := by omega
    go_wp2
    go_ret
    exact ⟨true, rfl, fun _ => ⟨D', xs, by rw [HX.out, hUpto_all], HJr.out, v', HEr.out⟩, fun h => by cases h⟩
end
def HS (N : Nat) (l : List S76) (xs : List HX) : Prop := xs.map (fun x => x.2.2) = hOuts N (okH N l) N []
def HSp (N : Nat) (l : List S76) (xs : List HX) : Prop := xs.map (fun x => x.2.2) <+: hOuts N (okH N l) N []
/-- The boxes that an iterator's start lays. -/
def W3h (lp : Nat) (W : World) : World := ((W.alloc (.cells #[.func (.yield lp) #[] #[]] 27)).alloc (.cells #[.slice none 0 0] 22)).alloc (.cells #[.int .i64 (-1)] 3)
theorem W3h_size (lp : Nat) (W : World) : (W3h lp W).heap.size = W.heap.size + 3 := by simp [W3h]
theorem W3h_below (lp : Nat) (W : World) : Below W.heap.size W (W3h lp W) := below_alloc (below_alloc (below_alloc (Below.refl _ _) _) _) _
theorem W3h_new (lp : Nat) (W : World) : (W3h lp W).heap[W.heap.size]? = some (.cells #[.func (.yield lp) #[] #[]] 27 (0, 0)) ∧ (W3h lp W).heap[W.heap.size + 1]? = some (.cells #[.slice none 0 0] 22 (0, 0)) ∧ (W3h lp W).heap[W.heap.size + 1 + 1]? = some (.cells #[.int .i64 (-1)] 3 (0, 0)) := by
 have a1 := World.alloc_heap_new W (.cells #[.func (.yield lp) #[] #[]] 27)
 have a2 := World.alloc_heap_new (W.alloc (.cells #[.func (.yield lp) #[] #[]] 27)) (.cells #[.slice none 0 0] 22)
 have a3 := World.alloc_heap_new ((W.alloc (.cells #[.func (.yield lp) #[] #[]] 27)).alloc (.cells #[.slice none 0 0] 22)) (.cells #[.int .i64 (-1)] 3)
 simp only [World.size_alloc] at a2 a3
 refine ⟨?_, ?_, a3⟩
 ·unfold W3h
  rw [heap_alloc_old _ _ _ (by simp; omega), heap_alloc_old _ _ _ (by simp)]
  exact a1
 ·unfold W3h
  rw [heap_alloc_old _ _ _ (by simp)]
  exact a2
def fnH (Bh Bn Bl Bp By Bx : Nat) : Value := .func (.func 152) #[] #[.pointer (some ⟨Bh, 0, none⟩), .pointer (some ⟨Bn, 0, none⟩), .pointer (some ⟨Bl, 0, none⟩), .pointer (some ⟨Bp, 0, none⟩), .pointer (some ⟨By, 0, none⟩), .pointer (some ⟨Bx, 0, none⟩)]
theorem hang_start (N : Nat) (l : List S76) (A : Option Addr) (c Bn Bl : Nat) (w : World) (K : Nat → Prop) (hn : w.cell? ⟨Bn, 0, none⟩ = some (.int .i64 (N : Int))) (hl : w.cell? ⟨Bl, 0, none⟩ = some (.slice A l.length c)) (hr : Kd.C k76 w A l.length l) (hKn : K Bn) (hKl : K Bl)
  (hKA : ∀ ad, A = some ad → 0 < l.length → ad.block < w.heap.size ∧ K ad.block) (hc : l.length ≤ c) (h1 : 1 ≤ N) (h6 : N ≤ 6) (hs : ∀ s ∈ l, saidB s (N : Int) = true)
  (lp : Nat) (J Jx : List HX → (Nat → Prop) → World → Prop) (W : World) (hb : Below w.heap.size w W) (hJ : Jlaw J) (hY : HYields lp J Jx (fun k => k < w.heap.size ∧ K k) W.heap.size) (h0 : J [] (fun _ => False) W)
  (w1 : World) (g : Nat) (hg1 : (W3h lp W).heap.size ≤ g) (hg2 : w1.heap[g]? = some (.cells (List.replicate N (.int .i64 (-1))).toArray 3 (0, 0))) (hb1 : Below (W3h lp W).heap.size (W3h lp W) w1) :
  Calls Try.prog 152 #[.pointer (some ⟨W.heap.size + 1, 0, none⟩), .pointer (some ⟨Bn, 0, none⟩), .pointer (some ⟨Bl, 0, none⟩), .pointer (some ⟨w1.heap.size, 0, none⟩), .pointer (some ⟨W.heap.size, 0, none⟩), .pointer (some ⟨w1.heap.size + 1, 0, none⟩)]
   ((w1.alloc (.cells #[.slice (some ⟨g, 0, none⟩) N N] 22)).alloc (.cells #[fnH (W.heap.size + 1) Bn Bl w1.heap.size W.heap.size (w1.heap.size + 1)] 26))
   (RetB (HPost J Jx (fun _ _ => True) [] (hOuts N (okH N l) N []))) := by
 have hz3 := W3h_size lp W
 obtain ⟨n1, n2, n3⟩ := W3h_new lp W
 have hz := hb.size
 have hz1 := hb1.size
 have hltg := blk_lt hg2
 have hltn := World.block_lt_of_cell? w _ hn
 have hltl := World.block_lt_of_cell? w _ hl
 simp only at hltn hltl
 obtain ⟨W5, hW5⟩ : ∃ W5, (w1.alloc (.cells #[.slice (some ⟨g, 0, none⟩) N N] 22)).alloc (.cells #[fnH (W.heap.size + 1) Bn Bl w1.heap.size W.heap.size (w1.heap.size + 1)] 26) = W5 := ⟨_, rfl⟩
 have hz5 : W5.heap.size = w1.heap.size + 2 := by rw [← hW5]; simp
 have hb5 : Below w1.heap.size w1 W5 := by rw [← hW5]; exact below_alloc (below_alloc (Below.refl _ _) _) _
 have m1 : W5.heap[w1.heap.size]? = some (.cells #[.slice (some ⟨g, 0, none⟩) N N] 22 (0, 0)) := by
  rw [← hW5, heap_alloc_old _ _ _ (by simp)]
  exact World.alloc_heap_new w1 _
 have m2 : W5.heap[w1.heap.size + 1]? = some (.cells #[fnH (W.heap.size + 1) Bn Bl w1.heap.size W.heap.size (w1.heap.size + 1)] 26 (0, 0)) := by
  have := World.alloc_heap_new (w1.alloc (.cells #[.slice (some ⟨g, 0, none⟩) N N] 22)) (.cells #[fnH (W.heap.size + 1) Bn Bl w1.heap.size W.heap.size (w1.heap.size + 1)] 26)
  rw [World.size_alloc, hW5] at this
  exact this
 have hbW : Below W.heap.size W W5 := (W3h_below lp W).trans ((hb1.mono (by omega)).trans (hb5.mono (by omega)))
 have hbw : Below w.heap.size w W5 := hb.trans (hbW.mono hz)
 have up : ∀ k o, k < W.heap.size + 3 → (W3h lp W).heap[k]? = some o → W5.heap[k]? = some o := fun k o hk ho => (hb5.block k (by omega)).trans ((hb1.block k (by omega)).trans ho)
 rw [hW5]
 obtain ⟨D, hD⟩ : ∃ D : Nat → Prop, ∀ k, D k ↔ k = W.heap.size ∨ k = W.heap.size + 1 ∨ k = g ∨ k = w1.heap.size ∨ k = w1.heap.size + 1 := ⟨_, fun k => Iff.rfl⟩
 have hA : HApart l A Bn Bl (W.heap.size + 1) W.heap.size w1.heap.size (w1.heap.size + 1) g W.heap.size (fun k => k < w.heap.size ∧ K k) :=
  ⟨⟨⟨hltn, hKn⟩, by omega⟩, ⟨⟨hltl, hKl⟩, by omega⟩, fun ad e hp => ⟨⟨(hKA ad e hp).1, (hKA ad e hp).2⟩, by have := (hKA ad e hp).1; omega⟩, ⟨by omega, by omega, by omega, by omega⟩, ⟨by omega, by omega, by omega⟩⟩
 have hE : HEnv N l A c Bn Bl (W.heap.size + 1) W.heap.size w1.heap.size (w1.heap.size + 1) g lp W.heap.size D (.slice none 0 0) W5 (plOf N []) [] := by
  refine ⟨(hbw.cell hltn).trans hn, (hbw.cell hltl).trans hl, Kd.C_below hr hbw, blk_cell (up _ _ (by omega) n1) 0, blk_cell m2 0, blk_cell m1 0, ?_, up _ _ (by omega) n2, Kd.R_nil _ _ _ _ _, fun k hk => by simp [Value.ownBlock] at hk,
   (hD _).2 (.inr (.inl rfl)), (hD _).2 (.inl rfl), (hD _).2 (.inr (.inr (.inr (.inl rfl)))), (hD _).2 (.inr (.inr (.inr (.inr rfl)))), (hD _).2 (.inr (.inr (.inl rfl))), fun k hk => ?_⟩
  ·rw [plOf_nil, List.map_replicate]
   exact (hb5.block g (by omega)).trans hg2
  ·rcases (hD k).1 hk with h | h | h | h | h <;> omega
 have hJ5 : J [] D W5 := hJ _ _ _ _ _ h0 (Same.of_below hbW (fun k hk _ => hk)) (fun k hk => by rcases (hD k).1 hk with h | h | h | h | h <;> (right; omega))
 refine (hnext_calls hA hJ hY hc h1 h6 hs N [] [] D _ W5 (by simp) hJ5 hE).mono ?_
 rintro e w' ⟨b, rfl, HN⟩
 exact ⟨b, rfl, fun hb => by
  obtain ⟨D', xs, h1, h2, _⟩ := HN.yes hb
  exact ⟨D', xs, h1, h2, trivial⟩, HN.no⟩
set_option maxHeartbeats 4000000 in
set_option maxRecDepth 100000 in
theorem hang_seq (N : Nat) (l : List S76) (A : Option Addr) (c Bn Bl : Nat) (w : World) (K : Nat → Prop) (hn : w.cell? ⟨Bn, 0, none⟩ = some (.int .i64 (N : Int))) (hl : w.cell? ⟨Bl, 0, none⟩ = some (.slice A l.length c)) (hr : Kd.C k76 w A l.length l) (hKn : K Bn) (hKl : K Bl)
  (hKA : ∀ ad, A = some ad → 0 < l.length → ad.block < w.heap.size ∧ K ad.block) (hc : l.length ≤ c) (h1 : 1 ≤ N) (h6 : N ≤ 6) (hs : ∀ s ∈ l, saidB s (N : Int) = true) :
  SeqC Try.prog 150 #[] #[.pointer (some ⟨Bn, 0, none⟩), .pointer (some ⟨Bl, 0, none⟩)] (fun k => k < w.heap.size ∧ K k) hY hRd (HS N l) (HSp N l) w := by
 intro m lp J Jx W hb hJ hJx hY h0
 refine callsIn_wide.2 ?_
 show Calls Try.prog 150 #[.func (.yield lp) #[] #[], .pointer (some ⟨Bn, 0, none⟩), .pointer (some ⟨Bl, 0, none⟩)] W _
 have hu22 := Try.underlying22
 have hYl : HYields lp J Jx (fun k => k < w.heap.size ∧ K k) W.heap.size := fun n pre x D W1 hj hrd hd => hY n pre x D W1 hj hrd hd
 have HST := Aside0.mk (hang_start N l A c Bn Bl w K hn hl hr hKn hKl hKA hc h1 h6 hs lp J Jx W hb hJ hYl h0)
 have hz := hb.size
 have hltn := World.block_lt_of_cell? w _ hn
 have hn1 : (W3h lp W).cell? ⟨Bn, 0, none⟩ = some (.int .i64 (N : Int)) := ((W3h_below lp W).cell (Nat.lt_of_lt_of_le hltn hz)).trans ((hb.cell hltn).trans hn)
 have HR1 := Aside0.mk (repeat_calls N h1 h6 (W.heap.size + 1 + 1) (W3h lp W) (W3h_new lp W).2.2)
 unfold W3h at hn1 HST HR1
 clear hY hJ hJx h0 hYl hs hKA hKl hKn hr hl hn hb hltn hz
 go_enter Try.func150, Try.ntmps150
 go_wp2_with (first | (go_at_call 151; refine HR1.out.mono ?_; rintro e w1 ⟨g, rfl, hg1, hg2, hb1⟩; have HG := Aside0.mk (HST.out w1 g hg1 hg2 hb1); clear hg1 hg2 hb1 HST) | (go_at_call 152; refine HG.out.mono ?_; rintro e w' ⟨b, rfl, HN⟩))
 go_end0
 cases b with
 | true =>
  obtain ⟨D, xs, h2, h3, _⟩ := HN.yes rfl
  exact ⟨⟨_, rfl⟩, .inl ⟨D, xs, h2, by simpa using h3⟩⟩
 | false =>
  obtain ⟨D, q, h2, h3⟩ := HN.no rfl
  exact ⟨⟨_, rfl⟩, .inr ⟨D, q, h2, by simpa using h3⟩⟩

end Go.Proofs.Ytdhiijleafcfcaa.T
