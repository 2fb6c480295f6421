/- The iterator of all weighings: what comes, in which order. -/
import Derived.Test.YtdhiijleafcfcaaT0
import Derived.Test.YtdhiijleafcfcaaRg
import Derived.Deep.RegionWith
import Derived.Outline
namespace Go.Proofs.Ytdhiijleafcfcaa.T
open Go.RowKit Go.Proofs.YtdhiijleafcfcaaW.PrintWords Go.Proofs.YtdhiijleafcfcaaW.PrintLast Go.Proofs.YtdhiijleafcfcaaW.PrintMore
attribute [local go_sem] max2_int min2_int max_two min_two max_three min_three max_four min_four
set_option linter.unusedVariables false
set_option linter.unusedSimpArgs false

/-- All completions of p with which nothing tips, in order, and how many weights they use. -/
def wOuts : List Int → List Int → Int → Int → List (List Int × Int)
 | [], p, sum, used => if sum = 0 then [(p, used)] else []
 | v :: rest, p, sum, used => wOuts rest (p ++ [-1]) (sum + -1 * v) (used + -1 * -1) ++ wOuts rest (p ++ [0]) (sum + 0 * v) (used + 0 * 0) ++ wOuts rest (p ++ [1]) (sum + 1 * v) (used + 1 * 1)
abbrev WX := Nat × List Int × Int
def wTag (g : Nat) (l : List (List Int × Int)) : List WX := l.map fun x => (g, x.1, x.2)
def wY (x : WX) : Array Value := #[.slice (some ⟨x.1, 0, none⟩) x.2.1.length x.2.1.length, .int .i64 x.2.2]
def wRd (x : WX) (W : World) : Prop := W.heap[x.1]? = some (.cells (x.2.1.map (Value.int .i64)).toArray 3 (0, 0)) ∧ x.2.1.length ≤ 10

structure WEnv (ws : List Int) (A : Option Addr) (c Bw By Bs Bn g l : Nat) (W : World) (xs : List Int) : Prop where
 hw : W.cell? ⟨Bw, 0, none⟩ = some (.slice A ws.length c)
 hr : Kd.C (Kd.int .i64) W A ws.length ws
 hy : W.cell? ⟨By, 0, none⟩ = some (.func (.yield l) #[] #[])
 hs : W.cell? ⟨Bs, 0, none⟩ = some (.slice (some ⟨g, 0, none⟩) ws.length ws.length)
 hn : W.cell? ⟨Bn, 0, none⟩ = some (.func (.func 128) #[] #[.pointer (some ⟨Bw, 0, none⟩), .pointer (some ⟨By, 0, none⟩), .pointer (some ⟨Bs, 0, none⟩), .pointer (some ⟨Bn, 0, none⟩)])
 hg : W.heap[g]? = some (.cells (xs.map (Value.int .i64)).toArray 3 (0, 0))
 hl : xs.length = ws.length
/-- The blocks are apart. -/
structure WApart (ws : List Int) (A : Option Addr) (Bw By Bs Bn g : Nat) (D K : Nat → Prop) : Prop where
 kw : D Bw ∨ K Bw
 kA : ∀ ad, A = some ad → 0 < ws.length → D ad.block ∨ K ad.block
 ky : D By
 ks : D Bs
 kn : D Bn
 kg : D g
 nw : Bw ≠ g
 nA : ∀ ad, A = some ad → 0 < ws.length → ad.block ≠ g
 ny : By ≠ g
 ns : Bs ≠ g
 nn : Bn ≠ g
section
variable {ws : List Int} {A : Option Addr} {c Bw By Bs Bn g l : Nat} {D K : Nat → Prop}
theorem WEnv.same {W W' : World} {xs : List Int} (h : WEnv ws A c Bw By Bs Bn g l W xs) (hA : WApart ws A Bw By Bs Bn g D K) (hS : Same (fun k => D k ∨ K k) W W') : WEnv ws A c Bw By Bs Bn g l W' xs :=
 ⟨hS.cell hA.kw h.hw, hS.reads h.hr hA.kA, hS.cell (.inl hA.ky) h.hy, hS.cell (.inl hA.ks) h.hs, hS.cell (.inl hA.kn) h.hn, hS.at_ (.inl hA.kg) h.hg, h.hl⟩
theorem WEnv.drewN {W : World} {xs : List Int} (h : WEnv ws A c Bw By Bs Bn g l W xs) (n : Nat) : WEnv ws A c Bw By Bs Bn g l (W.drewN n) xs := ⟨h.hw, h.hr, h.hy, h.hs, h.hn, h.hg, h.hl⟩
theorem WEnv.drew {W : World} {xs : List Int} (h : WEnv ws A c Bw By Bs Bn g l W xs) : WEnv ws A c Bw By Bs Bn g l W.drew xs := ⟨h.hw, h.hr, h.hy, h.hs, h.hn, h.hg, h.hl⟩
theorem WEnv.set_ {W : World} {xs : List Int} (h : WEnv ws A c Bw By Bs Bn g l W xs) (hA : WApart ws A Bw By Bs Bn g D K) (i : Nat) (v : Int) : WEnv ws A c Bw By Bs Bn g l (W.setCell ⟨g, i, none⟩ (.int .i64 v)) (xs.set i v) := by
 have hS : Same (fun k => k ≠ g) W (W.setCell ⟨g, i, none⟩ (.int .i64 v)) := (Same.refl _ W).setCell ⟨g, i, none⟩ (by simp) _
 refine ⟨hS.cell hA.nw h.hw, hS.reads h.hr hA.nA, hS.cell hA.ny h.hy, hS.cell hA.ns h.hs, hS.cell hA.nn h.hn, ?_, by rw [List.length_set]; exact h.hl⟩
 rw [blk_set h.hg]
 simp [List.map_set]
theorem WEnv.cellAt {W : World} {xs : List Int} (h : WEnv ws A c Bw By Bs Bn g l W xs) (i : Nat) (hi : i < ws.length) : W.cell? ⟨g, i, none⟩ = some (.int .i64 (xs.getD i 0)) := by
 rw [blk_cell h.hg]
 have := h.hl
 simp [List.getElem?_eq_getElem (show i < xs.length by omega), List.getD_eq_getElem?_getD]
theorem WEnv.frozenAt {W : World} {xs : List Int} (h : WEnv ws A c Bw By Bs Bn g l W xs) (i : Nat) : W.frozen? ⟨g, i, none⟩ = false := blk_frozen h.hg i
end

/-- A call that returns a Bool. -/
def RetB (P : Bool → World → Prop) (e : Ending) (W' : World) : Prop := ∃ b : Bool, e = .returned (.bool b) ∧ P b W'
/-- What a call of next leaves. -/
structure NextPost (J Jx : List WX → (Nat → Prop) → World → Prop) (Env : World → List Int → Prop) (D : Nat → Prop) (i : Nat) (pre outs : List WX) (p : List Int) (b : Bool) (W' : World) : Prop where
 yes : b = true → J (pre ++ outs) D W' ∧ ∃ xs', Env W' xs' ∧ xs'.take i = p
 no : b = false → ∃ q, q <+: outs ∧ Jx (pre ++ q) D W'

/-- What the rounds promise. -/
def WYields (l : Nat) (J Jx : List WX → (Nat → Prop) → World → Prop) (D K : Nat → Prop) (base : Nat) : Prop :=
 ∀ (n : Nat) pre x W1, J pre D W1 → wRd x W1 → (∀ k, D k → base ≤ k ∧ k < W1.heap.size) → YieldAt Fence.wide n Try.prog l (wY x) W1 fun e W' =>
   (e = .returned (.bool true) ∧ J (pre ++ [x]) D W' ∧ Same (fun k => D k ∨ K k) W1 W') ∨ (e = .returned (.bool false) ∧ Jx (pre ++ [x]) D W')

section
variable {ws : List Int} {A : Option Addr} {c Bw By Bs Bn g l base : Nat} {D K : Nat → Prop} {J Jx : List WX → (Nat → Prop) → World → Prop}
set_option maxHeartbeats 2000000 in
set_option maxRecDepth 100000 in
attribute [local go_sem] Oper.semAt_some in
theorem next_end (hA : WApart ws A Bw By Bs Bn g D K) (hD : ∀ k, D k ↔ k = By ∨ k = Bs ∨ k = Bn ∨ k = g) (hbase : base ≤ By ∧ base ≤ Bs ∧ base ≤ Bn ∧ base ≤ g) (hY : WYields l J Jx D K base) (hn : ws.length ≤ 10)
  (sum used : Int) (pre : List WX) (xs : List Int) (W : World) (hJ : J pre D W) (hE : WEnv ws A c Bw By Bs Bn g l W xs) :
  Calls Try.prog 128 #[.int .i64 (ws.length : Int), .int .i64 sum, .int .i64 used, .pointer (some ⟨Bw, 0, none⟩), .pointer (some ⟨By, 0, none⟩), .pointer (some ⟨Bs, 0, none⟩), .pointer (some ⟨Bn, 0, none⟩)] W
   (RetB (NextPost J Jx (WEnv ws A c Bw By Bs Bn g l) D ws.length pre (wTag g (wOuts [] xs sum used)) xs)) := by
 have hlen : xs.length = ws.length := hE.hl
 have e0 : ((ws.length : Int) == (ws.length : Int)) = true := by simp
 obtain ⟨h1, h2, h3, h4, h5⟩ : _ ∧ _ ∧ _ ∧ _ ∧ _ := ⟨hE.hw, hE.hy, hE.hs, hE.hn, hE.hg⟩
 have HE := Aside0.mk hE
 have HJ := Aside0.mk hJ
 have HYl := Aside0.mk hY
 have HL := Aside0.mk hlen
 by_cases hs : sum = 0
 ·subst hs
  have e1 : ((0 : Int) != 0) = false := rfl
  obtain ⟨fn, tmps, assign, body, hy, hR⟩ := hY 0 pre (g, xs, used) W hJ ⟨hE.hg, by rw [hE.hl]; exact hn⟩ (fun k hk => by
   have a1 := World.block_lt_of_cell? W _ h2
   have a2 := World.block_lt_of_cell? W _ h3
   have a3 := World.block_lt_of_cell? W _ h4
   have a4 := blk_lt h5
   simp only at a1 a2 a3
   rcases (hD k).1 hk with rfl | rfl | rfl | rfl <;> omega)
  simp only [wY, hlen] at hy
  have HR := Aside0.mk hR
  clear hJ hE hY hR hlen h5
  refine callsIn_wide.1 (callsIn_of_wp (F := Fence.wide) (n := 1) Try.func128 rfl trivial ?_ rfl)
  simp only [Try.ntmps128, List.size_toArray, List.length_cons, List.length_nil, Nat.reduceAdd, Nat.reduceSub, Array.replicate_succ, Array.replicate_zero, List.push_toArray, List.append_toArray, List.nil_append, List.cons_append]
  gi_wp2_with (refine (roundIn_any HR.out).mono ?_; clear HR; rintro e W' (⟨rfl, hJ3, hk3⟩ | ⟨rfl, hJx3⟩))
  ·go_ret
   exact ⟨true, rfl, fun _ => ⟨by simpa [wOuts, wTag] using hJ3, xs, HE.out.same hA hk3, by rw [← HL.out, List.take_length]⟩, fun h => by cases h⟩
  ·go_ret
   exact ⟨false, rfl, (fun h => by cases h), fun _ => ⟨[(g, xs, used)], by simp [wOuts, wTag], hJx3⟩⟩
 ·have e1 : (sum != 0) = true := bne_iff_ne.mpr hs
  have HS := Aside0.mk hs
  clear hJ hE hY hs hlen h5
  go_enter Try.func128, Try.ntmps128
  go_wp2
  go_ret
  exact ⟨true, rfl, fun _ => ⟨by simpa [wOuts, wTag, HS.out] using HJ.out, xs, HE.out, by rw [← HL.out, List.take_length]⟩, fun h => by cases h⟩

theorem wTag_append (g : Nat) (a b : List (List Int × Int)) : wTag g (a ++ b) = wTag g a ++ wTag g b := by simp [wTag]
/-- What the rounds of next's loop have brought ahead of side s. -/
def wUpto (v : Int) (rest p : List Int) (sum used : Int) : Nat → List (List Int × Int)
 | 0 => []
 | 1 => wOuts rest (p ++ [-1]) (sum + -1 * v) (used + -1 * -1)
 | 2 => wOuts rest (p ++ [-1]) (sum + -1 * v) (used + -1 * -1) ++ wOuts rest (p ++ [0]) (sum + 0 * v) (used + 0 * 0)
 | _ => wOuts (v :: rest) p sum used
theorem wUpto_succ (v : Int) (rest p : List Int) (sum used : Int) (k : Nat) (hk : k < 3) :
  wUpto v rest p sum used (k + 1) = wUpto v rest p sum used k ++ wOuts rest (p ++ [(k : Int) - 1]) (sum + ((k : Int) - 1) * v) (used + ((k : Int) - 1) * ((k : Int) - 1)) := by
 match k, hk with
 | 0, _ => simp [wUpto]
 | 1, _ => simp [wUpto]
 | 2, _ => simp [wUpto, wOuts, List.append_assoc]
theorem wUpto_pre (v : Int) (rest p : List Int) (sum used : Int) (k : Nat) (hk : k ≤ 3) : ∃ t, wUpto v rest p sum used k ++ t = wOuts (v :: rest) p sum used := by
 match k, hk with
 | 0, _ => exact ⟨wOuts (v :: rest) p sum used, by simp [wUpto]⟩
 | 1, _ => exact ⟨wOuts rest (p ++ [0]) (sum + 0 * v) (used + 0 * 0) ++ wOuts rest (p ++ [1]) (sum + 1 * v) (used + 1 * 1), by simp [wUpto, wOuts, List.append_assoc]⟩
 | 2, _ => exact ⟨wOuts rest (p ++ [1]) (sum + 1 * v) (used + 1 * 1), by simp [wUpto, wOuts, List.append_assoc]⟩
 | 3, _ => exact ⟨[], by simp [wUpto]⟩
theorem take_set_succ (xs : List Int) (i : Nat) (v : Int) (hi : i < xs.length) : (xs.set i v).take (i + 1) = xs.take i ++ [v] := by
 rw [List.take_succ_eq_append_getElem (by simpa using hi)]
 simp [List.take_set_of_le]

set_option maxHeartbeats 4000000 in
set_option maxRecDepth 100000 in
theorem next_calls (hA : WApart ws A Bw By Bs Bn g D K) (hD : ∀ k, D k ↔ k = By ∨ k = Bs ∨ k = Bn ∨ k = g) (hbase : base ≤ By ∧ base ≤ Bs ∧ base ≤ Bn ∧ base ≤ g) (hJ' : Jlaw J) (hY : WYields l J Jx D K base)
  (hws : ∀ j, j < ws.length → 1 ≤ ws.getD j 0 ∧ ws.getD j 0 ≤ 10000) (hn : ws.length ≤ 10) :
  ∀ (rest : List Int) (i : Nat) (sum used : Int) (pre : List WX) (xs : List Int) (W : World), ws.drop i = rest → i ≤ ws.length → J pre D W → WEnv ws A c Bw By Bs Bn g l W xs →
   -20000 - 10000 * (i : Int) ≤ sum → sum ≤ 20000 + 10000 * (i : Int) → 0 ≤ used → used ≤ i →
   Calls Try.prog 128 #[.int .i64 (i : Int), .int .i64 sum, .int .i64 used, .pointer (some ⟨Bw, 0, none⟩), .pointer (some ⟨By, 0, none⟩), .pointer (some ⟨Bs, 0, none⟩), .pointer (some ⟨Bn, 0, none⟩)] W
    (RetB (NextPost J Jx (WEnv ws A c Bw By Bs Bn g l) D i pre (wTag g (wOuts rest (xs.take i) sum used)) (xs.take i))) := by
 intro rest
 induction rest with
 | nil =>
  intro i sum used pre xs W hdrop hi hJ hE _ _ _ _
  have : i = ws.length := by
   have := congrArg List.length hdrop
   simp at this; omega
  subst this
  have := next_end hA hD hbase hY hn sum used pre xs W hJ hE
  rwa [show xs.take ws.length = xs from by rw [← hE.hl, List.take_length]]
 | cons v rest ih =>
  intro i sum used pre xs W hdrop hi hJ hE hs1 hs2 hu1 hu2
  have hilt : i < ws.length := by
   have := congrArg List.length hdrop
   simp at this; omega
  have hv : ws.getD i 0 = v := by
   have := List.drop_eq_getElem_cons hilt
   rw [hdrop] at this
   injection this with h1 _
   rw [List.getD_eq_getElem?_getD, List.getElem?_eq_getElem hilt, Option.getD_some, h1]
  have hdrop' : ws.drop (i + 1) = rest := by
   have := List.drop_eq_getElem_cons hilt
   rw [hdrop] at this
   injection this with _ h2
   exact h2.symm
  obtain ⟨hv1, hv2⟩ := hws i hilt
  rw [hv] at hv1 hv2
  obtain ⟨p, hp⟩ : ∃ p, xs.take i = p := ⟨_, rfl⟩
  have hE0 := hE
  obtain ⟨h1, h2, h3, h4, h5⟩ : _ ∧ _ ∧ _ ∧ _ ∧ _ := ⟨hE.hw, hE.hy, hE.hs, hE.hn, hE.hg⟩
  have e0 : ((i : Int) == (ws.length : Int)) = false := beq_eq_false_iff_ne.mpr (by omega)
  have IH := Aside0.mk ih
  have HJ' := Aside0.mk hJ'
  have HE := Aside0.mk hE
  have HJ := Aside0.mk hJ
  have HV := Aside0.mk hv
  have HDr := Aside0.mk hdrop'
  have HP := Aside0.mk hp
  rw [hp]
  have hilt' : (i : Int) < (ws.length : Int) := by omega
  have hil : (i : Int) ≤ 10 := by omega
  clear ih hJ' hE hJ hv hdrop hdrop' hp h2 h4 h5 hE0 hws hY
  go_enter Try.func128, Try.ntmps128
  go_wp2
  go_loopg [11] 4 (fun gg v11 wr => ∃ k : Nat, k ≤ 3 ∧ 3 - k < gg ∧ v11 = .int .i64 ((k : Int) - 1) ∧ Aside0 (J (pre ++ wTag g (wUpto v rest p sum used k)) D wr) ∧ Aside0 (∃ xs', WEnv ws A c Bw By Bs Bn g l wr xs' ∧ xs'.take i = p))
  case atStart => exact ⟨0, by omega, by omega, rfl, ⟨by simpa [wUpto, wTag] using HJ.out⟩, ⟨xs, HE.out, HP.out⟩⟩
  case round =>
   clear h1 h3 HE HJ HP
   obtain ⟨k, hk, hg, rfl, HJr, HEr⟩ := hrel
   by_cases hk3 : k < 3
   ·have hle : (k : Int) - 1 ≤ 1 := by omega
    obtain ⟨xs', hE, hp⟩ := HEr.out
    clear HEr
    have hxl : xs'.length = ws.length := hE.hl
    have hc1 := hE.cellAt i hilt
    have hf1 := hE.frozenAt i
    have hs0 := hE.hs
    have hS1 : Same (fun k => ¬ D k) wr (wr.setCell ⟨g, i, none⟩ (.int .i64 ((k : Int) - 1))) := (Same.refl _ wr).setCell ⟨g, i, none⟩ (by simp; exact hA.kg) _
    have hE1 := (hE.set_ hA i ((k : Int) - 1)).drew
    have hJ1 : J (pre ++ wTag g (wUpto v rest p sum used k)) D (wr.setCell ⟨g, i, none⟩ (.int .i64 ((k : Int) - 1))).drew := HJ'.out _ _ _ _ _ HJr.out (hS1.drewN 1) (fun _ h => .inl h)
    have hw1 := hE1.hw
    have hn1 := hE1.hn
    obtain ⟨ad, ea, hca⟩ := Kd.at_int hE1.hr (i : Int) (by omega) hilt'
    have hrd : rd ws (i : Int) = v := by unfold rd; rw [Int.toNat_natCast]; exact HV.out
    rw [hrd] at hca
    rw [ea] at hw1
    have hst := hs0
    obtain ⟨s, hs⟩ : ∃ s : Int, (k : Int) - 1 = s := ⟨_, rfl⟩
    have hsb : -1 ≤ s := by omega
    have hsv : -10000 ≤ s * v ∧ s * v ≤ 10000 := by
     have : s = -1 ∨ s = 0 ∨ s = 1 := by omega
     rcases this with rfl | rfl | rfl <;> omega
    have hss : 0 ≤ s * s ∧ s * s ≤ 1 := by
     have : s = -1 ∨ s = 0 ∨ s = 1 := by omega
     rcases this with rfl | rfl | rfl <;> simp
    have hcall := IH.out (i + 1) (sum + s * v) (used + s * s) (pre ++ wTag g (wUpto v rest p sum used k)) (xs'.set i s) _ HDr.out (by omega) hJ1 (by rw [hs] at hE1 ⊢; exact hE1) (by omega) (by omega) (by omega) (by omega)
    rw [take_set_succ xs' i s (by omega), hp] at hcall
    have w1 : IntKind.i64.wrap ((i : Int) + 1) = (i : Int) + 1 := IntWalk.i64_in _ (by omega)
    have w2 : IntKind.i64.wrap (s * v) = s * v := IntWalk.i64_in _ (by omega)
    have w3 : IntKind.i64.wrap (sum + s * v) = sum + s * v := IntWalk.i64_in _ (by omega)
    have w4 : IntKind.i64.wrap (s * s) = s * s := IntWalk.i64_in _ (by omega)
    have w5 : IntKind.i64.wrap (used + s * s) = used + s * s := IntWalk.i64_in _ (by omega)
    rw [show ((i + 1 : Nat) : Int) = (i : Int) + 1 from by omega] at hcall
    rw [Int.toNat_natCast] at hca
    rw [hs] at hw1 hn1 hca hcall hle ⊢
    have HCALL := Aside0.mk hcall
    have HSV := Aside0.mk hs
    have HPX := Aside0.mk hp
    have HXL := Aside0.mk hxl
    clear hE hE1 hJ1 hS1 HJr hs hcall hp hrd ea hsv hss hxl
    go_wp2
    go_region_with ((go_at_call 128; refine HCALL.out.mono ?_; rintro e w' ⟨b, rfl, HN⟩))
    all_goals
     cases b with
     | true =>
      obtain ⟨hJ3, xs3, hE3, hp3⟩ := HN.yes rfl
      have HJ3 := Aside0.mk hJ3
      have HE3 := Aside0.mk hE3
      have HP3 := Aside0.mk hp3
      clear HN hJ3 hE3 hp3 hn1 hca hw1 hs0 hst hc1 hf1 HCALL
      go_wp2
      go_roundg (4 - (k + 1))
      case measure => omega
      case rel =>
       refine ⟨k + 1, by omega, by omega, ?_, ⟨?_⟩, ⟨xs3, HE3.out, ?_⟩⟩
       ·have := HSV.out
        rw [show s + 1 = ((k + 1 : Nat) : Int) - 1 from by omega]
       ·rw [wUpto_succ v rest p sum used k hk3, HSV.out, wTag_append, ← List.append_assoc]
        exact HJ3.out
       ·have hpl : p.length = i := by rw [← HPX.out, List.length_take, HXL.out]; omega
        have h6 : (xs3.take (i + 1)).take i = (p ++ [s]).take i := congrArg (List.take i) HP3.out
        rw [List.take_take, Nat.min_eq_left (by omega)] at h6
        rw [h6, ← hpl, List.take_left]
     | false =>
      obtain ⟨q, ⟨t, hq⟩, hx⟩ := HN.no rfl
      have HX := Aside0.mk hx
      have HQ := Aside0.mk hq
      clear HN hx hq hn1 hca hw1 hs0 hst hc1 hf1 HCALL
      go_wp2
      go_ret
      refine ⟨false, rfl, (fun h => by cases h), fun _ => ?_⟩
      obtain ⟨t2, ht2⟩ := wUpto_pre v rest p sum used (k + 1) (by omega)
      rw [wUpto_succ v rest p sum used k hk3, HSV.out] at ht2
      refine ⟨wTag g (wUpto v rest p sum used k) ++ q, ⟨t ++ wTag g t2, ?_⟩, by rw [← List.append_assoc]; exact HX.out⟩
      rw [← ht2, wTag_append, wTag_append, List.append_assoc, List.append_assoc, ← List.append_assoc q, HQ.out]
   ·have hle : ¬ (k : Int) - 1 ≤ 1 := by omega
    have : k = 3 := by omega
    subst this
    clear hk3
    go_wp2
    go_ret
    refine ⟨true, rfl, fun _ => ⟨by simpa [wUpto] using HJr.out, HEr.out⟩, fun h => by cases h⟩
end

end Go.Proofs.Ytdhiijleafcfcaa.T
