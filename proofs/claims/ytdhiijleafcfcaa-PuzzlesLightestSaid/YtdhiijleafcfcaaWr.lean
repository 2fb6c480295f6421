/- The document's Weigh: it goes through all weighings and keeps the first with the fewest weights. -/
import Derived.Test.YtdhiijleafcfcaaProg
import Derived.Below
import Derived.Deep.Draws
import Derived.Deep.AppendLies
import Derived.Maps.AppendAt
import Derived.OwnWalk
import Derived.Laws.BytesArg
import Derived.Laws.MakeOwn
import Derived.Laws.OwnMore
import Derived.Deep.OwnRows
import Derived.Tactics
import Derived.Lib.ConvBytes
import Derived.Laws.Slices
import Derived.WalkKit
import Derived.KernelRfl
import Derived.RowKit3
import Derived.Deep.LoopGhost
import Derived.Deep.QuietTactic
import Derived.BigQuiet
import Derived.WideLaws
import Derived.Deep.DeepCutAuto
import Derived.Deep.CutBlock
import Derived.Deep.RegionHeld3
import Derived.Laws.Rows
import Derived.Lib.AppendStr
import Derived.ArgAppend
import Derived.Laws.IdiomCopy
import Derived.OrdersHeld
import Derived.Laws.BitsLemmas
import Derived.RowKit
import Derived.Test.YtdhiijleafcfcaaWWords
import Derived.Test.YtdhiijleafcfcaaWLast
import Derived.Test.YtdhiijleafcfcaaWTab
import Derived.Test.YtdhiijleafcfcaaWFour
import Derived.Test.YtdhiijleafcfcaaWQPut
import Derived.Test.YtdhiijleafcfcaaWApart
import Derived.Test.YtdhiijleafcfcaaWArr
import Derived.Test.YtdhiijleafcfcaaWZeros
import Derived.Test.YtdhiijleafcfcaaWFoot
import Derived.Test.YtdhiijleafcfcaaWKept
import Derived.Test.YtdhiijleafcfcaaWShare
import Derived.Test.YtdhiijleafcfcaaWN
import Derived.Test.YtdhiijleafcfcaaWFootNe
import Derived.Test.YtdhiijleafcfcaaWAt
import Derived.Test.YtdhiijleafcfcaaWEqStruct
import Derived.Test.YtdhiijleafcfcaaWRepsOne
import Derived.Test.YtdhiijleafcfcaaWInv
import Derived.Test.YtdhiijleafcfcaaWInvWords
import Derived.Test.YtdhiijleafcfcaaWGuard
import Derived.Test.YtdhiijleafcfcaaWNEv
import Derived.Test.YtdhiijleafcfcaaWMore
import Derived.Test.YtdhiijleafcfcaaPB
namespace Go.Proofs.Ytdhiijleafcfcaa.T
open Go.RowKit Go.Proofs.YtdhiijleafcfcaaW.PrintWords Go.Proofs.YtdhiijleafcfcaaW.PrintLast Go.Proofs.YtdhiijleafcfcaaW.PrintMore
attribute [local go_sem] max2_int min2_int max_two min_two max_three min_three max_four min_four
set_option linter.unusedVariables false
set_option linter.unusedSimpArgs false

def padlockref03_Weigh.f (l0 : List Int) (a1 : Int) : Option (List Int × Int) := puzzles_Weigh.f l0 a1
/-- The best of the first i, at first the first. -/
def bestAt (o : List (List Int × Int)) (i : Nat) : List Int × Int := if i = 0 then o.headD ([], 0) else bestO (o.take i)
theorem bestO_used : ∀ (n : Nat) (o : List (List Int × Int)), o.length = n → (∀ x ∈ o, 0 ≤ x.2) → o ≠ [] → 0 ≤ (bestO o).2 ∧ bestO o ∈ o := by
  intro n
  induction n with
  | zero => intro o hl _ h; exact absurd (List.length_eq_zero_iff.1 hl) h
  | succ n ih =>
    intro o' hl h _
    obtain ⟨o, x, rfl⟩ : ∃ o x, o' = o ++ [x] := ⟨o'.dropLast, o'.getLast (fun e => by rw [e] at hl; simp at hl), (List.dropLast_concat_getLast _).symm⟩
    rw [bestO_snoc]
    by_cases c : (bestO o).2 < 0 ∨ x.2 < (bestO o).2
    · rw [if_pos c]
      exact ⟨h x (by simp), by simp⟩
    · rw [if_neg c]
      by_cases e : o = []
      · subst e
        exact absurd (.inl (by decide)) c
      · have := ih o (by simpa using hl) (fun y hy => h y (by simp [hy])) e
        exact ⟨this.1, by simp [this.2]⟩
theorem bestAt_succ (o : List (List Int × Int)) (h : ∀ x ∈ o, 0 ≤ x.2) (i : Nat) (hi : i < o.length) : bestAt o (i + 1) = if o[i].2 < (bestAt o i).2 then o[i] else bestAt o i := by
  unfold bestAt
  rw [if_neg (by omega), List.take_succ_eq_append_getElem hi, bestO_snoc]
  by_cases e : i = 0
  · subst e
    have hd : o.headD ([], 0) = o[0] := by cases o with | nil => simp at hi | cons a t => rfl
    rw [if_pos rfl, hd, List.take_zero, if_pos (.inl (by decide)), if_neg (by omega)]
  · rw [if_neg e]
    have hne : o.take i ≠ [] := fun he => by
      have := congrArg List.length he
      rw [List.length_take, List.length_nil] at this
      omega
    have hb := (bestO_used _ (o.take i) rfl (fun x hx => h x (List.mem_of_mem_take hx)) hne).1
    by_cases c : o[i].2 < (bestO (o.take i)).2
    · rw [if_pos (.inr c), if_pos c]
    · rw [if_neg (by omega), if_neg c]
theorem bestAt_mem (o : List (List Int × Int)) (h : ∀ x ∈ o, 0 ≤ x.2) (hne : o ≠ []) (i : Nat) : bestAt o i ∈ o := by
  unfold bestAt
  by_cases e : i = 0
  · rw [if_pos e]
    cases o with
    | nil => exact absurd rfl hne
    | cons a t => simp
  · rw [if_neg e]
    have hne2 : o.take i ≠ [] := fun he => by
      have := congrArg List.length he
      rw [List.length_take, List.length_nil] at this
      have : 0 < o.length := List.length_pos_iff.2 hne
      omega
    exact List.mem_of_mem_take (bestO_used _ (o.take i) rfl (fun x hx => h x (List.mem_of_mem_take hx)) hne2).2
/-- Where the weighings lie. -/
def RowsAt (W : World) (base : Nat) (ad : Addr) (o : List (List Int × Int)) : Prop :=
  ∀ i (h : i < o.length), ∃ A c, W.cell? (ad.add i) = some (.slice A o[i].1.length c) ∧ (Kd.int .i64).R 3 W base (fun _ => True) (.slice A o[i].1.length c) o[i].1
theorem rowsAt_of {W : World} {base n c : Nat} {ad : Addr} {o : List (List Int × Int)} (h : (Kd.slice 3 (Kd.int .i64)).S 22 W base (fun _ => True) (.slice (some ad) n c) (o.map fun x => x.1)) (hn : n = o.length) : RowsAt W base ad o := by
  intro i hi
  obtain ⟨cs, hcl, hM, hcc⟩ := Kd.R_get (Kd.S_R h) [] (i : Int) (by omega) (by omega)
  obtain ⟨v, rfl, hR⟩ := hM
  rw [Int.toNat_natCast] at hR hcc
  have e : (o.map fun x => x.1).getD i [] = o[i].1 := by
    rw [List.getD_eq_getElem?_getD, List.getElem?_map, List.getElem?_eq_getElem hi]
    rfl
  rw [e] at hR
  obtain ⟨A, c', rfl⟩ := Kd.R_slice hR
  exact ⟨A, c', by simpa [Kd.slice] using hcc 0 _ rfl, Kd.R_mono hR (fun _ _ => trivial)⟩
theorem RowsAt.drewN {W : World} {base : Nat} {ad : Addr} {o : List (List Int × Int)} (h : RowsAt W base ad o) (m : Nat) : RowsAt (W.drewN m) base ad o := fun i hi => by
  obtain ⟨A, c, h1, h2⟩ := h i hi
  exact ⟨A, c, h1, Kd.R_drewN h2 m⟩
theorem weighings_post {W : World} {base : Nat} {v : Value} {o : List (List Int × Int)} (h : (Kd.slice 3 (Kd.int .i64)).S 22 W base (fun _ => True) v (o.map fun x => x.1)) (hn : 0 < o.length) :
    ∃ ad c, v = .slice (some ad) o.length c ∧ RowsAt W base ad o ∧ ∃ A0 c0, W.cell? ad = some (.slice A0 (bestAt o 0).1.length c0) ∧ (Kd.int .i64).R 3 W base (fun _ => True) (.slice A0 (bestAt o 0).1.length c0) (bestAt o 0).1 := by
  obtain ⟨ad, c, rfl⟩ := Kd.R_slice1 (Kd.S_R h) (by simpa using hn)
  have hr := rowsAt_of h (by simp)
  refine ⟨ad, c, by simp, hr, ?_⟩
  obtain ⟨A, c', h1, h2⟩ := hr 0 hn
  have e : bestAt o 0 = o[0] := by
    cases o with
    | nil => simp at hn
    | cons a t => rfl
  rw [e]
  refine ⟨A, c', ?_, h2⟩
  rw [← h1]
  congr 1
theorem weighings_max {W : World} {base : Nat} {v : Value} {o : List (List Int × Int)} (h : (Kd.slice 3 (Kd.int .i64)).S 22 W base (fun _ => True) v (o.map fun x => x.1)) : o.length ≤ 9223372036854775807 := by
  obtain ⟨A, c, rfl, _, hr⟩ := Kd.R_reads (Kd.S_R h)
  have := Kd.C_max hr
  simpa using this
theorem used_calls {W0 : World} {base : Nat} {A : Option Addr} {c : Nat} {l : List Int} (h : (Kd.int .i64).R 3 W0 base (fun _ => True) (.slice A l.length c) l) (W : World) (hb : Below W0.heap.size W0 W) :
    Calls Try.prog 29 #[.slice A l.length c] W fun e w' => e = .returned (.int .i64 (usedN l)) ∧ Drawn0 W w' := by
  obtain ⟨_, hc, hr⟩ := Kd.R_reads' (Kd.R_below h hb)
  obtain ⟨k, hk⟩ := (used_ev l (Kd.C_max hr)).rounds
  exact padlockref03_Used.calls k A c l _ W hr hc hk
set_option maxHeartbeats 1000000 in
set_option maxRecDepth 100000 in
theorem padlockref03_Weigh.calls (A0 : Option Addr) (c0 : Nat) (l0 : List Int) (a1 : Int) (r1 : List Int) (r2 : Int) (w : World) (hr0 : Kd.C (Kd.int .i64) w A0 l0.length l0) (hc0 : l0.length ≤ c0) (h : padlockref03_Weigh.f l0 a1 = some (r1, r2)) :
    Calls Try.prog 25 #[.slice A0 l0.length c0, .int .i64 a1] w fun e w' => ∃ v0_ : Value, e = .returned (.tuple #[v0_, .int .i64 r2]) ∧ Kd.R (Kd.int .i64) 3 w' w.heap.size (fun _ => True) v0_ r1 ∧ Below w.heap.size w w' := by
  obtain ⟨k1, h1⟩ := (weighable_ev l0 a1 (Kd.C_max hr0)).rounds
  have H79 := Aside0.mk (padlockref03_weighable.calls k1 A0 c0 l0 a1 (weighedB l0 a1) w hr0 hc0 h1)
  unfold padlockref03_Weigh.f puzzles_Weigh.f at h
  have hn := Kd.C_max hr0
  by_cases hB : weighedB l0 a1 = true
  · rw [if_pos hB] at h
    obtain ⟨k2, h2⟩ := (weighings_ev l0 a1 hB).rounds
    have H82 := Aside0.mk (fun m : Nat => padlockref03_weighings.calls k2 A0 c0 l0 a1 _ (w.drewN m) (Kd.C_drewN hr0 m) hc0 h2)
    obtain ⟨o, ho⟩ : ∃ o, wOuts l0 [] (-a1) 0 = o := ⟨_, rfl⟩
    have hused : ∀ x ∈ o, x.2 = usedN x.1 := fun x hx => wOuts_used l0 [] (-a1) 0 rfl x (ho ▸ hx)
    have hpos : ∀ x ∈ o, 0 ≤ x.2 := fun x hx => by rw [hused x hx]; exact (usedN_bound _).1
    rw [ho] at h H82
    rw [hB] at H79
    by_cases he : o = []
    · subst he
      rw [if_pos (by decide)] at h
      cases h
      clear hr0 hc0 hused hpos h1 h2 hB ho
      go_enter Try.func25, Try.ntmps25
      go_wp2_with (first | (go_at_call 79; refine H79.out.mono ?_; rintro e w' ⟨rfl, ⟨q, rfl⟩⟩) | (go_at_call 82; refine (H82.out _).mono ?_; rintro e w2 ⟨v, rfl, hS, hb⟩; obtain ⟨A, cv, rfl⟩ := Kd.R_slice (Kd.S_R hS); have HBB := Aside0.mk hb; clear hS hb))
      go_ret2
      exact ⟨_, rfl, Kd.R_nil _ _ _ _ _, Below.trans (pw_below_drewN (Below.refl _ _) q) HBB.out⟩
    · have hol : 0 < o.length := List.length_pos_iff.2 he
      have hres : r1 = (bestAt o o.length).1 ∧ r2 = 0 := by
        have hb : bestAt o o.length = bestO o := by unfold bestAt; rw [if_neg (by omega), List.take_length]
        rw [if_neg (by have := (bestO_used _ o rfl hpos he).1; omega)] at h
        cases h
        exact ⟨by rw [hb], rfl⟩
      obtain ⟨rfl, rfl⟩ := hres
      have HU := Aside0.mk hused
      have HP := Aside0.mk hpos
      clear hr0 hc0 h hused hpos h1 h2 hB ho
      have e0 : ((o.length : Int) == 0) = false := beq_eq_false_iff_ne.mpr (by omega)
      go_enter Try.func25, Try.ntmps25
      go_wp2_with (first | (go_at_call 79; refine H79.out.mono ?_; rintro e w' ⟨rfl, ⟨q, rfl⟩⟩) | (go_at_call 82; refine (H82.out _).mono ?_; rintro e w2 ⟨v, rfl, hS, hb⟩; have HM := Aside0.mk (weighings_max hS); obtain ⟨ad, cv, rfl, hra, A0', c0', hcz, hRz⟩ := weighings_post hS hol; have HRA := Aside0.mk hra; have HRZ := Aside0.mk hRz; have HBB := Aside0.mk hb; clear hS hb hra hRz))
      go_loopg [7, 8] (o.length + 1) (fun gg v7 v8 wr => ∃ (i q2 : Nat) (A : Option Addr) (c : Nat), i ≤ o.length ∧ o.length - i < gg ∧ v7 = .slice A (bestAt o i).1.length c ∧ v8 = .int .i64 (i : Int) ∧ wr = w2.drewN q2 ∧
        Aside0 ((Kd.int .i64).R 3 w2 w.heap.size (fun _ => True) (.slice A (bestAt o i).1.length c) (bestAt o i).1))
      case atStart => exact ⟨0, 0, A0', c0', by omega, by omega, rfl, rfl, rfl, ⟨HRZ.out⟩⟩
      case round =>
        clear hcz HRZ
        obtain ⟨i, q2, A, c, hi, hg, rfl, rfl, rfl, HRB⟩ := hrel
        by_cases hlt : i < o.length
        · have hmax : o.length ≤ 9223372036854775807 := HM.out
          have w1 : IntKind.i64.wrap ((i : Int) + 1) = (i : Int) + 1 := IntWalk.i64_in _ (by omega)
          have hilt : (i : Int) < (o.length : Int) := by omega
          have hi1 : i + 1 ≤ o.length := by omega
          have hg1 : o.length - (i + 1) < gk - 1 := by omega
          have hg2 : gk - 1 < gk := by omega
          have hcast : ((i + 1 : Nat) : Int) = (i : Int) + 1 := by omega
          obtain ⟨A2, c2, hcell, hR2⟩ := HRA.out i hlt
          obtain ⟨x, hx⟩ : ∃ x, o[i] = x := ⟨_, rfl⟩
          obtain ⟨b, hb⟩ : ∃ b, bestAt o i = b := ⟨_, rfl⟩
          have hu1 := HU.out _ (List.getElem_mem hlt)
          have hu2 := HU.out _ (bestAt_mem o HP.out he i)
          have hbs := bestAt_succ o HP.out i hlt
          rw [hx] at hcell hR2 hu1 hbs
          have HRB2 := HRB.out
          rw [hb] at HRB2 hu2 hbs ⊢
          have HCB := Aside0.mk (fun m : Nat => used_calls HRB2 (w2.drewN m) (pw_below_drewN (Below.refl _ _) m))
          have HC2 := Aside0.mk (fun m : Nat => used_calls hR2 (w2.drewN m) (pw_below_drewN (Below.refl _ _) m))
          rw [← hu1] at HC2
          rw [← hu2] at HCB
          have HR2 := Aside0.mk hR2
          have HB2 := Aside0.mk HRB2
          have HBS := Aside0.mk hbs
          have HCA := Aside0.mk hcast
          clear hR2 hbs he hmax HRB HRB2 hx hb hu1 hu2 hcast
          obtain ⟨bl, bu⟩ := b
          obtain ⟨xl, xu⟩ := x
          simp only at HCB HC2 hcell ⊢
          by_cases hcmp : xu < bu
          · go_wp2_with (first | (go_at_call 29; first | (with_reducible refine Calls.mono (HC2.out _) ?_; rintro e w' ⟨rfl, ⟨q3, rfl⟩⟩) | (with_reducible refine Calls.mono (HCB.out _) ?_; rintro e w' ⟨rfl, ⟨q4, rfl⟩⟩)))
            go_roundg (gk - 1)
            case measure => exact hg2
            case rel => exact ⟨i + 1, _, A2, c2, hi1, hg1, by rw [HBS.out, if_pos hcmp], by rw [HCA.out], rfl, by rw [HBS.out, if_pos hcmp]; exact HR2⟩
          · go_wp2_with (first | (go_at_call 29; first | (with_reducible refine Calls.mono (HC2.out _) ?_; rintro e w' ⟨rfl, ⟨q3, rfl⟩⟩) | (with_reducible refine Calls.mono (HCB.out _) ?_; rintro e w' ⟨rfl, ⟨q4, rfl⟩⟩)))
            go_roundg (gk - 1)
            case measure => exact hg2
            case rel => exact ⟨i + 1, _, A, c, hi1, hg1, by rw [HBS.out, if_neg (by omega)], by rw [HCA.out], rfl, by rw [HBS.out, if_neg (by omega)]; exact HB2⟩
        · have hnlt : ¬ (i : Int) < (o.length : Int) := by omega
          have hio : i = o.length := by omega
          subst hio
          clear he
          go_wp2
          go_ret2
          exact ⟨_, rfl, Kd.R_drewN HRB.out _, pw_below_drewN (Below.trans (pw_below_drewN (Below.refl _ _) q) HBB.out) _⟩
  · rw [if_neg hB] at h
    cases h
    rw [Bool.not_eq_true] at hB
    rw [hB] at H79
    clear hr0 hc0 h1
    go_enter Try.func25, Try.ntmps25
    go_wp2_with (first | (go_at_call 79; refine H79.out.mono ?_; rintro e w' ⟨rfl, ⟨q, rfl⟩⟩))
    go_ret2
    exact ⟨_, rfl, Kd.R_nil _ _ _ _ _, pw_below_drewN (Below.refl _ _) q⟩

end Go.Proofs.Ytdhiijleafcfcaa.T
