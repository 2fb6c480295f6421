/- The iterator of all turns that solve pipes: what comes, in which order. -/
import Derived.Test.YtdhiijleafcfcaaT0
import Derived.Test.YtdhiijleafcfcaaWe
import Derived.Test.YtdhiijleafcfcaaTp
namespace Go.Proofs.Ytdhiijleafcfcaa.T
open Go.RowKit Go.Proofs.YtdhiijleafcfcaaW.PrintWords Go.Proofs.YtdhiijleafcfcaaW.PrintLast Go.Proofs.YtdhiijleafcfcaaW.PrintMore
attribute [local go_sem] max2_int min2_int max_two min_two max_three min_three max_four min_four
set_option linter.unusedVariables false
set_option linter.unusedSimpArgs false

def pOuts (F : List Int → Bool) : Nat → List Int → Int → List (List Int × Int)
 | 0, p, sum => if F p = true then [(p, sum)] else []
 | m + 1, p, sum => pOuts F m (p ++ [0]) (sum + 0) ++ pOuts F m (p ++ [1]) (sum + 1) ++ pOuts F m (p ++ [2]) (sum + 2) ++ pOuts F m (p ++ [3]) (sum + 3)
structure PEnv (a0 a1 : Int) (pc : List Int) (a3 a4 : Int) (A : Option Addr) (c Bp By Bs Bn g l : Nat) (W : World) (xs : List Int) : Prop where
 hp : W.heap[Bp]? = some (.cells #[.int .i64 a0, .int .i64 a1, .int .i64 a0, .int .i64 a1, .slice A pc.length c, .int .i64 a3, .int .i64 a4] 115 (0, 0))
 hr : Kd.C (Kd.int .i64) W A pc.length pc
 hy : W.cell? ⟨By, 0, none⟩ = some (.func (.yield l) #[] #[])
 hs : W.cell? ⟨Bs, 0, none⟩ = some (.slice (some ⟨g, 0, none⟩) pc.length pc.length)
 hn : W.cell? ⟨Bn, 0, none⟩ = some (.func (.func 140) #[] #[.pointer (some ⟨Bs, 0, none⟩), .pointer (some ⟨Bp, 0, none⟩), .pointer (some ⟨By, 0, none⟩), .pointer (some ⟨Bn, 0, none⟩)])
 hg : W.heap[g]? = some (.cells (xs.map (Value.int .i64)).toArray 3 (0, 0))
 hl : xs.length = pc.length
structure PApart (pc : List Int) (A : Option Addr) (Bp By Bs Bn g : Nat) (D K : Nat → Prop) : Prop where
 kA : ∀ ad, A = some ad → 0 < pc.length → D ad.block ∨ K ad.block
 kp : D Bp
 ky : D By
 ks : D Bs
 kn : D Bn
 kg : D g
 nA : ∀ ad, A = some ad → 0 < pc.length → ad.block ≠ g
 np : Bp ≠ g
 ny : By ≠ g
 ns : Bs ≠ g
 nn : Bn ≠ g
section
variable {a0 a1 : Int} {pc : List Int} {a3 a4 : Int} {A : Option Addr} {c Bp By Bs Bn g l : Nat} {D K : Nat → Prop}
theorem PEnv.same {W W' : World} {xs : List Int} (h : PEnv a0 a1 pc a3 a4 A c Bp By Bs Bn g l W xs) (hA : PApart pc A Bp By Bs Bn g D K) (hS : Same (fun k => D k ∨ K k) W W') : PEnv a0 a1 pc a3 a4 A c Bp By Bs Bn g l W' xs :=
 ⟨hS.at_ (.inl hA.kp) h.hp, hS.reads h.hr hA.kA, hS.cell (.inl hA.ky) h.hy, hS.cell (.inl hA.ks) h.hs, hS.cell (.inl hA.kn) h.hn, hS.at_ (.inl hA.kg) h.hg, h.hl⟩
theorem PEnv.below {W W' : World} {xs : List Int} (h : PEnv a0 a1 pc a3 a4 A c Bp By Bs Bn g l W xs) (hb : Below W.heap.size W W') : PEnv a0 a1 pc a3 a4 A c Bp By Bs Bn g l W' xs := by
 have hS : Same (fun _ => True) W W' := Same.of_below hb (fun k hk _ => hk)
 exact ⟨hS.at_ trivial h.hp, hS.reads h.hr (fun _ _ _ => trivial), hS.cell trivial h.hy, hS.cell trivial h.hs, hS.cell trivial h.hn, hS.at_ trivial h.hg, h.hl⟩
theorem PEnv.set_ {W : World} {xs : List Int} (h : PEnv a0 a1 pc a3 a4 A c Bp By Bs Bn g l W xs) (hA : PApart pc A Bp By Bs Bn g D K) (i : Nat) (v : Int) : PEnv a0 a1 pc a3 a4 A c Bp By Bs Bn g l (W.setCell ⟨g, i, none⟩ (.int .i64 v)) (xs.set i v) := by
 have hS : Same (fun k => k ≠ g) W (W.setCell ⟨g, i, none⟩ (.int .i64 v)) := (Same.refl _ W).setCell ⟨g, i, none⟩ (by simp) _
 refine ⟨hS.at_ hA.np h.hp, hS.reads h.hr hA.nA, hS.cell hA.ny h.hy, hS.cell hA.ns h.hs, hS.cell hA.nn h.hn, ?_, by rw [List.length_set]; exact h.hl⟩
 rw [blk_set h.hg]
 simp [List.map_set]
theorem PEnv.cellAt {W : World} {xs : List Int} (h : PEnv a0 a1 pc a3 a4 A c Bp By Bs Bn g l W xs) (i : Nat) (hi : i < pc.length) : W.cell? ⟨g, i, none⟩ = some (.int .i64 (xs.getD i 0)) := by
 rw [blk_cell h.hg]
 have := h.hl
 simp [List.getElem?_eq_getElem (show i < xs.length by omega), List.getD_eq_getElem?_getD]
theorem PEnv.row {W : World} {xs : List Int} (h : PEnv a0 a1 pc a3 a4 A c Bp By Bs Bn g l W xs) (hn : pc.length ≤ 10) : Kd.C (Kd.int .i64) W (some ⟨g, 0, none⟩) xs.length xs :=
 wRd_C (g, xs, 0) W ⟨h.hg, by have := h.hl; simp only; omega⟩
end
/-- What a list of turns answers. -/
def Solv (F : List Int → Bool) (a0 a1 : Int) (pc : List Int) (a3 a4 : Int) : Prop :=
 ∀ p : List Int, p.length = pc.length → (∀ x ∈ p, 0 ≤ x ∧ x ≤ 3) → ∃ k wet lk, puzzles_plumbing_flows.f k a0 a1 a0 a1 pc a3 a4 p = some (wet, lk) ∧ wet.length = pc.length ∧ F p = (!decide (lk > 0) && rdOf false wet a4)
section
variable {a0 a1 : Int} {pc : List Int} {a3 a4 : Int} {A : Option Addr} {c Bp By Bs Bn g l base : Nat} {D K : Nat → Prop} {J Jx : List WX → (Nat → Prop) → World → Prop} {F : List Int → Bool}
set_option maxHeartbeats 4000000 in
set_option maxRecDepth 100000 in
attribute [local go_sem] Oper.semAt_some in
theorem pnext_end (hA : PApart pc A Bp By Bs Bn g D K) (hD : ∀ k, D k ↔ k = Bp ∨ k = By ∨ k = Bs ∨ k = Bn ∨ k = g) (hbase : base ≤ Bp ∧ base ≤ By ∧ base ≤ Bs ∧ base ≤ Bn ∧ base ≤ g) (hJ' : Jlaw J) (hY : WYields l J Jx D K base) (hF : Solv F a0 a1 pc a3 a4) (hc : pc.length ≤ c) (hn : pc.length ≤ 10) (h4 : 0 ≤ a4 ∧ a4 < pc.length)
  (sum : Int) (pre : List WX) (xs : List Int) (W : World) (hJ : J pre D W) (hE : PEnv a0 a1 pc a3 a4 A c Bp By Bs Bn g l W xs) (hx : ∀ x ∈ xs, 0 ≤ x ∧ x ≤ 3) :
  Calls Try.prog 140 #[.int .i64 (pc.length : Int), .int .i64 sum, .pointer (some ⟨Bs, 0, none⟩), .pointer (some ⟨Bp, 0, none⟩), .pointer (some ⟨By, 0, none⟩), .pointer (some ⟨Bn, 0, none⟩)] W
   (RetB (NextPost J Jx (PEnv a0 a1 pc a3 a4 A c Bp By Bs Bn g l) D pc.length pre (wTag g (pOuts F 0 xs sum)) xs)) := by
 have hu50 := Try.underlying50
 have hu115 := Try.underlying115
 have hlen : xs.length = pc.length := hE.hl
 have e0 : ((pc.length : Int) == (pc.length : Int)) = true := by simp
 obtain ⟨k, wet, lk, hf, hwl, hFv⟩ := hF xs hlen hx
 have hcell := fun j => blk_cell hE.hp j
 have x0 := hcell 0
 have x1 := hcell 1
 have x2 := hcell 2
 have x3 := hcell 3
 have x4 := hcell 4
 have x5 := hcell 5
 have x6 := hcell 6
 simp only [List.getElem?_toArray, List.getElem?_cons_zero, List.getElem?_cons_succ] at x0 x1 x2 x3 x4 x5 x6
 have hs := hE.hs
 have hy := hE.hy
 have HX6 := Aside0.mk x6
 have HS := Aside0.mk hs
 have HY0 := Aside0.mk hy
 have hBp : Bp < W.heap.size := blk_lt hE.hp
 have hBs : Bs < W.heap.size := World.block_lt_of_cell? W _ hs
 have hBy : By < W.heap.size := World.block_lt_of_cell? W _ hy
 have hBn : Bn < W.heap.size := World.block_lt_of_cell? W _ hE.hn
 have hBg : g < W.heap.size := blk_lt hE.hg
 have HE := Aside0.mk hE
 have HJ := Aside0.mk hJ
 have HYl := Aside0.mk hY
 have HL := Aside0.mk hlen
 have HF := Aside0.mk hf
 have HROW := Aside0.mk (hE.row hn)
 have HR := Aside0.mk hE.hr
 have HC := Aside0.mk hc
 have HFV := Aside0.mk hFv
 have hcall := puzzles_plumbing_flows.calls k a0 a1 a0 a1 A c pc a3 a4 (some ⟨g, 0, none⟩) xs.length xs wet lk W HR.out HC.out HROW.out (Nat.le_refl _) HF.out
 rw [hlen] at hcall
 have HCALL := Aside0.mk hcall
 clear hcall
 have HCL := Aside0.mk (show xs.length ≤ pc.length by omega)
 have HJM := Aside0.mk (fun (w1 : World) (hb : Below W.heap.size W w1) => hJ' pre D D W w1 hJ (Same.of_below hb (fun k hk _ => hk)) (fun _ h => .inl h))
 have h41 : (a4 : Int) < (wet.length : Int) := by omega
 have h40 := h4.1
 clear hJ hE hY hlen hf hcell hJ' hc hFv
 by_cases q1 : lk > 0
 ·have e1 : decide (lk > 0) = true := decide_eq_true q1
  go_enter Try.func140, Try.ntmps140
  go_wp2_with (go_at_call 99; refine Calls.mono HCALL.out ?_; rintro e w1 ⟨v, rfl, hR, hb⟩; have HB := Aside0.mk hb; clear hb hR)
  go_ret
  refine ⟨true, rfl, fun _ => ⟨?_, xs, HE.out.below HB.out, by rw [← HL.out, List.take_length]⟩, fun h => by cases h⟩
  have : pOuts F 0 xs sum = [] := by unfold pOuts; rw [HFV.out, e1]; rfl
  rw [this]
  simpa [wTag] using HJM.out w1 HB.out
 ·have e1 : decide (lk > 0) = false := decide_eq_false q1
  cases q2 : rdOf false wet a4 with
  | false =>
   go_enter Try.func140, Try.ntmps140
   go_wp2_with (go_at_call 99; refine Calls.mono HCALL.out ?_; rintro e w1 ⟨v, rfl, hR, hb⟩; obtain ⟨Aw, cw, rfl⟩ := Kd.R_slice hR; obtain ⟨ad, ea, hca⟩ := Kd.at_bool (Kd.R_reads' hR).2.2 a4 h40 h41; rw [q2] at hca; have x6 := (hb.cell (p := ⟨Bp, 6, none⟩) hBp).trans HX6.out; have HB := Aside0.mk hb; subst ea; clear hb hR)
   go_ret
   refine ⟨true, rfl, fun _ => ⟨?_, xs, HE.out.below HB.out, by rw [← HL.out, List.take_length]⟩, fun h => by cases h⟩
   have : pOuts F 0 xs sum = [] := by unfold pOuts; rw [HFV.out, e1, q2]; rfl
   rw [this]
   simpa [wTag] using HJM.out w1 HB.out
  | true =>
   have hYA := Aside0.mk (fun (w1 : World) (hb : Below W.heap.size W w1) => HYl.out 0 pre (g, xs, sum) w1 (HJM.out w1 hb) ⟨(HE.out.below hb).hg, by have := HL.out; simp only; omega⟩ (fun k hk => by
    have := hb.size
    rcases (hD k).1 hk with rfl | rfl | rfl | rfl | rfl <;> omega))
   simp only [wY, HL.out] at hYA
   refine callsIn_wide.1 (callsIn_of_wp (F := Fence.wide) (n := 1) Try.func140 rfl trivial ?_ rfl)
   simp only [Try.ntmps140, List.size_toArray, List.length_cons, List.length_nil, Nat.reduceAdd, Nat.reduceSub, Array.replicate_succ, Array.replicate_zero, List.push_toArray, List.append_toArray, List.nil_append, List.cons_append]
   gi_wp2_with (first | (refine ⟨trivial, ?_⟩; gi_at_call 99; refine (callsIn_wide.2 HCALL.out).mono ?_; rintro e w1 ⟨v, rfl, hR, hb⟩; obtain ⟨Aw, cw, rfl⟩ := Kd.R_slice hR; obtain ⟨ad, ea, hca⟩ := Kd.at_bool (Kd.R_reads' hR).2.2 a4 h40 h41; rw [q2] at hca; have x6 := (hb.cell (p := ⟨Bp, 6, none⟩) hBp).trans HX6.out; have hy := (hb.cell (p := ⟨By, 0, none⟩) hBy).trans HY0.out; have hs := (hb.cell (p := ⟨Bs, 0, none⟩) hBs).trans HS.out; have HB := Aside0.mk hb; obtain ⟨fn, tmps, assign, body, hy5, hR5⟩ := hYA.out w1 hb; have HR5 := Aside0.mk hR5; subst ea; clear hb hR hR5) | (refine (roundIn_any HR5.out).mono ?_; clear HR5; rintro e W' (⟨rfl, hJ3, hk3⟩ | ⟨rfl, hJx3⟩)))
   all_goals have ho : pOuts F 0 xs sum = [(xs, sum)] := by unfold pOuts; rw [HFV.out, e1, q2]; rfl
   ·go_ret
    exact ⟨true, rfl, fun _ => ⟨by rw [ho]; exact hJ3, xs, (HE.out.below HB.out).same hA hk3, by rw [← HL.out, List.take_length]⟩, fun h => by cases h⟩
   ·go_ret
    exact ⟨false, rfl, (fun h => by cases h), fun _ => ⟨[(g, xs, sum)], by rw [ho]; exact List.prefix_rfl, hJx3⟩⟩
def pUpto (F : List Int → Bool) (m : Nat) (p : List Int) (sum : Int) : Nat → List (List Int × Int)
 | 0 => []
 | k + 1 => pUpto F m p sum k ++ pOuts F m (p ++ [(k : Int)]) (sum + (k : Int))
theorem pUpto_four (F : List Int → Bool) (m : Nat) (p : List Int) (sum : Int) : pUpto F m p sum 4 = pOuts F (m + 1) p sum := by simp [pUpto, pOuts]
theorem pUpto_pre (F : List Int → Bool) (m : Nat) (p : List Int) (sum : Int) : ∀ j k : Nat, k + j = 4 → ∃ t, pUpto F m p sum k ++ t = pOuts F (m + 1) p sum
 | 0, k, h => by
  obtain rfl : k = 4 := by omega
  exact ⟨[], by rw [List.append_nil, pUpto_four]⟩
 | j + 1, k, h => by
  obtain ⟨t, ht⟩ := pUpto_pre F m p sum j (k + 1) (by omega)
  exact ⟨pOuts F m (p ++ [(k : Int)]) (sum + (k : Int)) ++ t, by rw [← ht, pUpto, List.append_assoc]⟩
set_option maxHeartbeats 4000000 in
set_option maxRecDepth 100000 in
theorem pnext_calls (hA : PApart pc A Bp By Bs Bn g D K) (hD : ∀ k, D k ↔ k = Bp ∨ k = By ∨ k = Bs ∨ k = Bn ∨ k = g) (hbase : base ≤ Bp ∧ base ≤ By ∧ base ≤ Bs ∧ base ≤ Bn ∧ base ≤ g) (hJ' : Jlaw J) (hY : WYields l J Jx D K base) (hF : Solv F a0 a1 pc a3 a4) (hc : pc.length ≤ c) (hn : pc.length ≤ 10) (h4 : 0 ≤ a4 ∧ a4 < pc.length) :
  ∀ (m i : Nat) (sum : Int) (pre : List WX) (xs : List Int) (W : World), i + m = pc.length → J pre D W → PEnv a0 a1 pc a3 a4 A c Bp By Bs Bn g l W xs → (∀ x ∈ xs.take i, 0 ≤ x ∧ x ≤ 3) → 0 ≤ sum → sum ≤ 3 * (i : Int) →
   Calls Try.prog 140 #[.int .i64 (i : Int), .int .i64 sum, .pointer (some ⟨Bs, 0, none⟩), .pointer (some ⟨Bp, 0, none⟩), .pointer (some ⟨By, 0, none⟩), .pointer (some ⟨Bn, 0, none⟩)] W
    (RetB (NextPost J Jx (PEnv a0 a1 pc a3 a4 A c Bp By Bs Bn g l) D i pre (wTag g (pOuts F m (xs.take i) sum)) (xs.take i))) := by
 intro m
 induction m with
 | zero =>
  intro i sum pre xs W hi hJ hE hx _ _
  obtain rfl : i = pc.length := by omega
  have ht : xs.take pc.length = xs := by rw [← hE.hl, List.take_length]
  rw [ht] at hx ⊢
  exact pnext_end hA hD hbase hJ' hY hF hc hn h4 sum pre xs W hJ hE hx
 | succ m ih =>
  intro i sum pre xs W hi hJ hE hx hs1 hs2
  have hilt : i < pc.length := by omega
  obtain ⟨p, hp⟩ : ∃ p, xs.take i = p := ⟨_, rfl⟩
  have h3 := hE.hs
  have e0 : ((i : Int) == (pc.length : Int)) = false := beq_eq_false_iff_ne.mpr (by omega)
  have IH := Aside0.mk ih
  have HJ' := Aside0.mk hJ'
  have HE := Aside0.mk hE
  have HJ := Aside0.mk hJ
  have HP := Aside0.mk hp
  have HX := Aside0.mk (show ∀ x ∈ p, 0 ≤ x ∧ x ≤ 3 by rw [← hp]; exact hx)
  rw [hp]
  have hilt' : (i : Int) < (pc.length : Int) := by omega
  have hil : (i : Int) ≤ 10 := by omega
  clear ih hJ' hE hJ hp hY hF hx
  go_enter Try.func140, Try.ntmps140
  go_wp2
  go_loopg [39] 5 (fun gg v39 wr => ∃ k : Nat, k ≤ 4 ∧ 4 - k < gg ∧ v39 = .int .i64 (k : Int) ∧ Aside0 (J (pre ++ wTag g (pUpto F m p sum k)) D wr) ∧ Aside0 (∃ xs', PEnv a0 a1 pc a3 a4 A c Bp By Bs Bn g l wr xs' ∧ xs'.take i = p))
  case atStart => exact ⟨0, by omega, by omega, rfl, ⟨by simpa [pUpto, wTag] using HJ.out⟩, ⟨xs, HE.out, HP.out⟩⟩
  case round =>
   clear h3 HE HJ HP
   obtain ⟨k, hk, hg, rfl, HJr, HEr⟩ := hrel
   by_cases hk4 : k < 4
   ·have hle : (k : Int) < 4 := by omega
    obtain ⟨xs', hE, hp⟩ := HEr.out
    clear HEr
    have hxl : xs'.length = pc.length := hE.hl
    have hc1 := hE.cellAt i hilt
    have hf1 := blk_frozen hE.hg i
    have hs0 := hE.hs
    have hS1 : Same (fun k => ¬ D k) wr (wr.setCell ⟨g, i, none⟩ (.int .i64 (k : Int))) := (Same.refl _ wr).setCell ⟨g, i, none⟩ (by simp; exact hA.kg) _
    have hE1 := hE.set_ hA i (k : Int)
    have hJ1 : J (pre ++ wTag g (pUpto F m p sum k)) D (wr.setCell ⟨g, i, none⟩ (.int .i64 (k : Int))) := HJ'.out _ _ _ _ _ HJr.out hS1 (fun _ h => .inl h)
    have hn1 := hE1.hn
    have htk : (xs'.set i (k : Int)).take (i + 1) = p ++ [(k : Int)] := by rw [take_set_succ xs' i _ (by omega), hp]
    have hcall := IH.out (i + 1) (sum + (k : Int)) (pre ++ wTag g (pUpto F m p sum k)) (xs'.set i (k : Int)) _ (by omega) hJ1 hE1 (by
     rw [htk]
     intro x hx
     rcases List.mem_append.1 hx with hx | hx
     ·exact HX.out x hx
     ·simp only [List.mem_singleton] at hx; omega) (by omega) (by omega)
    rw [htk] at hcall
    have w1 : IntKind.i64.wrap ((i : Int) + 1) = (i : Int) + 1 := IntWalk.i64_in _ (by omega)
    have w2 : IntKind.i64.wrap (sum + (k : Int)) = sum + (k : Int) := IntWalk.i64_in _ (by omega)
    have w3 : IntKind.i64.wrap ((k : Int) + 1) = (k : Int) + 1 := IntWalk.i64_in _ (by omega)
    rw [show ((i + 1 : Nat) : Int) = (i : Int) + 1 from by omega] at hcall
    have HCALL := Aside0.mk hcall
    have HPX := Aside0.mk hp
    have HXL := Aside0.mk hxl
    clear hE hE1 hJ1 hS1 HJr hcall hp hxl htk
    go_wp2_with (go_at_call 140; refine HCALL.out.mono ?_; rintro e w' ⟨b, rfl, HN⟩)
    ·have hb : (!b) = true := by assumption
     obtain rfl : b = false := by simpa using hb
     obtain ⟨q, ⟨t, hq⟩, hx⟩ := HN.no rfl
     go_ret
     refine ⟨false, rfl, (fun h => by cases h), fun _ => ?_⟩
     obtain ⟨t2, ht2⟩ := pUpto_pre F m p sum (3 - k) (k + 1) (by omega)
     rw [pUpto] at ht2
     refine ⟨wTag g (pUpto F m p sum k) ++ q, ⟨t ++ wTag g t2, ?_⟩, by rw [← List.append_assoc]; exact hx⟩
     rw [← ht2, wTag_append, wTag_append, List.append_assoc, List.append_assoc, ← List.append_assoc q, hq]
    ·have hb : (!b) = false := by assumption
     obtain rfl : b = true := by simpa using hb
     obtain ⟨hJ3, xs3, hE3, hp3⟩ := HN.yes rfl
     go_roundg (5 - (k + 1))
     case measure => omega
     case rel =>
      refine ⟨k + 1, by omega, by omega, ?_, ⟨?_⟩, ⟨xs3, hE3, ?_⟩⟩
      ·rw [show ((k + 1 : Nat) : Int) = (k : Int) + 1 from by omega]
      ·rw [pUpto, wTag_append, ← List.append_assoc]
       exact hJ3
      ·have hpl : p.length = i := by rw [← HPX.out, List.length_take, HXL.out]; omega
       have h6 : (xs3.take (i + 1)).take i = (p ++ [(k : Int)]).take i := congrArg (List.take i) hp3
       rw [List.take_take, Nat.min_eq_left (by omega)] at h6
       rw [h6, ← hpl, List.take_left]
   ·have hle : ¬ (k : Int) < 4 := by omega
    obtain rfl : k = 4 := by omega
    clear hk4
    go_wp2
    go_ret
    refine ⟨true, rfl, fun _ => ⟨by rw [← pUpto_four]; exact HJr.out, HEr.out⟩, fun h => by cases h⟩
end

end Go.Proofs.Ytdhiijleafcfcaa.T
