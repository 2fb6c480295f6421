/- slices.ContainsFunc over sentences about portraits, with closures that box their argument; checkPortraits. -/
import Derived.Test.YtdhiijleafcfcaaT0
import Derived.Test.YtdhiijleafcfcaaCf
import Derived.Test.YtdhiijleafcfcaaHs
import Derived.Test.YtdhiijleafcfcaaWg
namespace Go.Proofs.Ytdhiijleafcfcaa.T
open Go.RowKit Go.Proofs.YtdhiijleafcfcaaW.PrintWords Go.Proofs.YtdhiijleafcfcaaW.PrintLast Go.Proofs.YtdhiijleafcfcaaW.PrintMore
attribute [local go_sem] max2_int min2_int max_two min_two max_three min_three max_four min_four
set_option linter.unusedVariables false
set_option linter.unusedSimpArgs false

/-- A predicate's function value, called in any later world, for the row's sentences. -/
def PredB (g : Nat) (lb : Array Value) (p : S76 → Bool) (l : List S76) (w : World) : Prop :=
 ∀ x ∈ l, ∀ V : World, Below w.heap.size w V → Calls Try.prog g (#[.agg #[.int .i64 x.f0, .int .i64 x.f1, .int .i64 x.f2, .int .i64 x.f3, .bool x.f4]] ++ lb) V fun e w' => e = .returned (.bool (p x)) ∧ Below V.heap.size V w'
def idxS (p : S76 → Bool) (l : List S76) (k : Nat) : Int := match (l.drop k).findIdx? p with
 | none => -1
 | some j => ((k + j : Nat) : Int)
theorem idxS_hit (p : S76 → Bool) (l : List S76) (k : Nat) (hk : k < l.length) (h : p l[k] = true) : idxS p l k = k := by
 unfold idxS
 rw [List.drop_eq_getElem_cons hk]
 simp only [List.findIdx?_cons, h, if_true, Nat.add_zero]
theorem idxS_skip (p : S76 → Bool) (l : List S76) (k : Nat) (hk : k < l.length) (h : p l[k] = false) : idxS p l k = idxS p l (k + 1) := by
 unfold idxS
 rw [List.drop_eq_getElem_cons hk]
 simp only [List.findIdx?_cons, h, Bool.false_eq_true, if_false]
 cases (l.drop (k + 1)).findIdx? p with
 | none => rfl
 | some j => simp only [Option.map_some]; omega
theorem idxS_end (p : S76 → Bool) (l : List S76) : idxS p l l.length = -1 := by simp [idxS]
theorem idxS_any (p : S76 → Bool) (l : List S76) : decide (0 ≤ idxS p l 0) = l.any p := by
 unfold idxS
 simp only [List.drop_zero, Nat.zero_add]
 cases h : l.findIdx? p with
 | none =>
  have := List.findIdx?_eq_none_iff.1 h
  symm
  simp only [show decide ((0 : Int) ≤ -1) = false from rfl, List.any_eq_false]
  intro x hx
  simp [this x hx]
 | some j =>
  obtain ⟨hj, hp, _⟩ := List.findIdx?_eq_some_iff_getElem.1 h
  symm
  have h1 : decide ((0 : Int) ≤ ((j : Nat) : Int)) = true := decide_eq_true (by omega)
  simp only [h1, List.any_eq_true]
  exact ⟨l[j], List.getElem_mem hj, hp⟩
theorem idxS_range (p : S76 → Bool) (l : List S76) (k : Nat) (hl : l.length ≤ 9223372036854775807) : -1 ≤ idxS p l k ∧ idxS p l k ≤ 9223372036854775807 := by
 unfold idxS
 cases h : (l.drop k).findIdx? p with
 | none => exact ⟨by show (-1 : Int) ≤ -1; omega, by show (-1 : Int) ≤ _; omega⟩
 | some j =>
  obtain ⟨hj, _⟩ := List.findIdx?_eq_some_iff_getElem.1 h
  rw [List.length_drop] at hj
  exact ⟨by show (-1 : Int) ≤ ((k + j : Nat) : Int); omega, by show ((k + j : Nat) : Int) ≤ _; omega⟩
set_option maxHeartbeats 1000000 in
set_option maxRecDepth 100000 in
theorem indexS_calls (g : Nat) (lb : Array Value) (p : S76 → Bool) (eg : ∀ args w, (callFunc g args).run Try.prog w = .ok (.enter g args) w) (A : Option Addr) (c : Nat) (l : List S76) (w : World)
  (hp : PredB g lb p l w) (hr : Kd.C k76 w A l.length l) (hc : l.length ≤ c) :
  Calls Try.prog 172 #[.slice A l.length c, .func (.func g) #[] lb] w fun e w' => e = .returned (.int .i64 (idxS p l 0)) ∧ Below w.heap.size w w' := by
 have hu76 := Try.underlying76
 have HR := Aside0.mk hr
 have hl : l.length ≤ 9223372036854775807 := hr.2.1
 have HP := Aside0.mk hp
 clear hr hc hp
 go_enter Try.func172, Try.ntmps172
 go_wp2
 go_loopg [5, 8] l.length (fun gg _ s8 wr => ∃ kk : Nat, kk ≤ l.length ∧ l.length - kk ≤ gg ∧ s8 = .int .i64 kk ∧ Aside0 (Below w.heap.size w wr) ∧ Aside0 (idxS p l 0 = idxS p l kk))
 case atStart => exact ⟨0, Nat.zero_le _, by omega, rfl, ⟨Below.refl _ _⟩, ⟨rfl⟩⟩
 case round =>
  obtain ⟨kk, hkk, hg, rfl, HB, HI⟩ := hrel
  by_cases hlt : kk < l.length
  ·have hltz : (kk : Int) < (l.length : Int) := by omega
   obtain ⟨ad, e1, x0, x1, x2, x3, x4⟩ := at_T76 HR.out (kk : Int) (by omega) (by omega)
   cases e1
   have ek : ((kk : Int)).toNat = kk := Int.toNat_natCast kk
   rw [ek] at x0 x1 x2 x3 x4
   replace x0 := (HB.out.cell (World.block_lt_of_cell? w _ x0)).trans x0
   replace x1 := (HB.out.cell (World.block_lt_of_cell? w _ x1)).trans x1
   replace x2 := (HB.out.cell (World.block_lt_of_cell? w _ x2)).trans x2
   replace x3 := (HB.out.cell (World.block_lt_of_cell? w _ x3)).trans x3
   replace x4 := (HB.out.cell (World.block_lt_of_cell? w _ x4)).trans x4
   have hrd : rd_T76 l kk = l[kk] := by unfold rd_T76; rw [ek, List.getD_eq_getElem?_getD, List.getElem?_eq_getElem hlt, Option.getD_some]
   have hcall := HP.out (rd_T76 l kk) (by rw [hrd]; exact List.getElem_mem hlt) wr HB.out
   have HD := Aside0.mk hrd
   clear hrd ek
   cases hq : p (rd_T76 l kk) with
   | true =>
    rw [hq] at hcall
    have HC := Aside0.mk hcall
    have HQ := Aside0.mk hq
    clear hcall hq
    go_wp2_with (go_at_fn g; refine HC.out.mono ?_; rintro e w' ⟨rfl, hb⟩; have HB2 := Aside0.mk hb; clear hb)
    go_ret
    refine ⟨?_, HB.out.trans (HB2.out.mono HB.out.size)⟩
    rw [HI.out, idxS_hit p l kk hlt (by rw [← HD.out]; exact HQ.out)]
    rfl
   | false =>
    rw [hq] at hcall
    have HC := Aside0.mk hcall
    have HQ := Aside0.mk hq
    clear hcall hq
    go_wp2_with (go_at_fn g; refine HC.out.mono ?_; rintro e w' ⟨rfl, hb⟩; have HB2 := Aside0.mk hb; clear hb)
    go_roundg (l.length - (kk + 1))
    case measure => omega
    case rel =>
     refine ⟨kk + 1, by omega, by omega, by go_num, ⟨HB.out.trans (HB2.out.mono HB.out.size)⟩, ⟨?_⟩⟩
     rw [HI.out, idxS_skip p l kk hlt (by rw [← HD.out]; exact HQ.out)]
  ·have hltz : ¬ (kk : Int) < (l.length : Int) := by omega
   have h0 : kk = l.length := by omega
   subst h0
   go_wp2
   go_ret
   refine ⟨?_, HB.out⟩
   rw [HI.out, idxS_end]
   rfl
set_option maxHeartbeats 1000000 in
set_option maxRecDepth 100000 in
theorem containsS_calls (g : Nat) (lb : Array Value) (p : S76 → Bool) (eg : ∀ args w, (callFunc g args).run Try.prog w = .ok (.enter g args) w) (A : Option Addr) (c : Nat) (l : List S76) (w : World)
  (hp : PredB g lb p l w) (hr : Kd.C k76 w A l.length l) (hc : l.length ≤ c) :
  Calls Try.prog 147 #[.slice A l.length c, .func (.func g) #[] lb] w fun e w' => e = .returned (.bool (l.any p)) ∧ Below w.heap.size w w' := by
 have h0 := indexS_calls g lb p eg A c l w hp hr hc
 have h1 := idxS_range p l 0 hr.2.1
 rw [← idxS_any]
 clear hp hr hc
 generalize idxS p l 0 = r at h0 h1 ⊢
 obtain ⟨h2, h3⟩ := h1
 have H0 := Aside0.mk h0
 clear h0
 go_enter Try.func147, Try.ntmps147
 go_wp2_with (go_at_call 172; refine H0.out.mono ?_; rintro e w' ⟨rfl, hb⟩; have HB := Aside0.mk hb; clear hb)
 go_ret
 exact ⟨rfl, HB.out⟩
/-- Is a sentence about so many portraits valid? -/
def saidB (x : S76) (n : Int) : Bool :=
 if x.f0 = 1 then inR 0 (n - 1) x.f1 && x.f2 == 0 && inR 0 (n - 1) x.f3
 else if x.f0 = 2 ∨ x.f0 = 3 then inR 0 (n - 1) x.f1 && (inR 0 (n - 1) x.f2 && x.f1 != x.f2) && x.f3 == 0
 else if x.f0 = 4 then inR 0 (n - 1) x.f1 && (inR 0 (n - 1) x.f2 && x.f1 != x.f2) && inR 0 n x.f3
 else false
theorem within_inR (x a b : Int) : puzzles_within.f x a b = some (inR a b x) := by
 unfold puzzles_within.f inR
 by_cases h : a ≤ x <;> simp [h]
theorem said_val (x : S76) (n : Int) (h1 : 1 ≤ n) (h6 : n ≤ 6) : puzzles_said.f 3 x.f0 x.f1 x.f2 x.f3 x.f4 n = some (saidB x n) := by
 have hw : wrap64 (n - 1) = n - 1 := by unfold wrap64; omega
 obtain ⟨f0, f1, f2, f3, f4⟩ := x
 unfold puzzles_said.f saidB
 simp only [hw, within_inR, Option.bind_some, puzzles_said.j0, puzzles_said.j1]
 generalize inR 0 (n - 1) f1 = p
 generalize inR 0 (n - 1) f2 = q
 generalize inR 0 (n - 1) f3 = r
 generalize inR 0 n f3 = s
 generalize (f1 != f2) = t
 by_cases c1 : f0 = 1
 ·subst c1
  by_cases d : f2 = 0 <;> cases p <;> cases q <;> simp [d]
 ·by_cases c2 : f0 = 2
  ·subst c2
   cases p <;> cases q <;> cases t <;> simp
  ·by_cases c3 : f0 = 3
   ·subst c3
    cases p <;> cases q <;> cases t <;> simp
   ·by_cases c4 : f0 = 4
    ·subst c4
     cases p <;> cases q <;> cases t <;> simp
    ·cases p <;> cases q <;> cases t <;> simp [c1, c2, c3, c4]
set_option maxRecDepth 100000 in
theorem clos148 (b : Nat) (n : Int) (l : List S76) (w : World) (h1 : 1 ≤ n) (h6 : n ≤ 6) (hc : w.cell? ⟨b, 0, none⟩ = some (.int .i64 n)) : PredB 148 #[.pointer (some ⟨b, 0, none⟩)] (fun x => !saidB x n) l w := fun x _ V hb => by
 show Calls Try.prog 148 #[.agg #[.int .i64 x.f0, .int .i64 x.f1, .int .i64 x.f2, .int .i64 x.f3, .bool x.f4], .pointer (some ⟨b, 0, none⟩)] V fun e w' => e = .returned (.bool (!saidB x n)) ∧ Below V.heap.size V w'
 have hu76 := Try.underlying76
 have hv := said_val x n h1 h6
 have hlt := World.block_lt_of_cell? w _ hc
 have hcV := (hb.cell hlt).trans hc
 have hltV := World.block_lt_of_cell? V _ hcV
 generalize saidB x n = r at hv ⊢
 have HV := Aside0.mk hv
 have hcA : (V.alloc (.cells #[.int .i64 x.f0, .int .i64 x.f1, .int .i64 x.f2, .int .i64 x.f3, .bool x.f4] 76)).cell? ⟨b, 0, none⟩ = some (.int .i64 n) := (World.cell?_of_block (Below.heap_alloc V _ b hltV)).trans hcV
 clear hv hb hc hcV
 go_enter Try.func148, Try.ntmps148
 go_wp2_with (go_at_call 149; refine (puzzles_said.calls 3 x.f0 x.f1 x.f2 x.f3 x.f4 n r _ HV.out).mono ?_; rintro e w' ⟨rfl, hb⟩; have HB := Aside0.mk hb; clear hb)
 go_ret
 exact ⟨rfl, Below.trans (below_alloc (Below.refl _ _) _) (HB.out.mono (by simp))⟩
def cpB (n : Int) (l : List S76) : Int := if inR 1 6 n = true then (if 20 < l.length then 2 else if (l.any fun x => !saidB x n) = true then 31 else 0) else 1
set_option maxRecDepth 100000 in
set_option maxHeartbeats 1000000 in
theorem checkPortraits_calls (n : Int) (A : Option Addr) (c : Nat) (l : List S76) (w : World) (hr : Kd.C k76 w A l.length l) (hc : l.length ≤ c) :
  Calls Try.prog 112 #[.int .i64 n, .slice A l.length c] w fun e w' => e = .returned (.int .i64 (cpB n l)) ∧ Below w.heap.size w w' := by
 have hu69 := Try.underlying69
 have HR := Aside0.mk hr
 have HC := Aside0.mk hc
 have hl : l.length ≤ 9223372036854775807 := hr.2.1
 clear hr hc
 have HW := Aside0.mk (fun V => within_calls n 1 6 V)
 unfold cpB
 cases q1 : inR 1 6 n with
 | false =>
  rw [q1] at HW
  go_enter Try.func112, Try.ntmps112
  go_wp2_with (go_at_call 67; refine (HW.out _).mono ?_; rintro e w' ⟨rfl, rfl⟩)
  go_ret
  exact ⟨rfl, below_alloc (Below.refl _ _) _⟩
 | true =>
  rw [q1] at HW
  rw [if_pos rfl]
  by_cases q2 : 20 < l.length
  ·rw [if_pos q2]
   have q2' : (20 : Int) < (l.length : Int) := by omega
   go_enter Try.func112, Try.ntmps112
   go_wp2_with (go_at_call 67; refine (HW.out _).mono ?_; rintro e w' ⟨rfl, rfl⟩)
   go_ret
   exact ⟨rfl, below_alloc (Below.refl _ _) _⟩
  ·rw [if_neg q2]
   have q2' : ¬ (20 : Int) < (l.length : Int) := by omega
   have hq : (1 : Int) ≤ n ∧ n ≤ 6 := by simpa [inR] using q1
   have hcell : (w.alloc (.cells #[.int .i64 n] 3)).cell? ⟨w.heap.size, 0, none⟩ = some (.int .i64 n) := blk_cell (World.alloc_heap_new w _) 0
   have hcont := containsS_calls 148 #[.pointer (some ⟨w.heap.size, 0, none⟩)] _ (enters_of Try.func148 (by kernel_rfl) rfl) A c l _ (clos148 w.heap.size n l _ hq.1 hq.2 hcell) (Kd.C_alloc HR.out _) HC.out
   generalize (l.any fun x => !saidB x n) = r at hcont ⊢
   have HT := Aside0.mk hcont
   clear hcont hcell hq q1
   cases r with
   | false =>
    go_enter Try.func112, Try.ntmps112
    go_wp2_with (first | (go_at_call 67; refine (HW.out _).mono ?_; rintro e w' ⟨rfl, rfl⟩) | (go_at_call 147; refine HT.out.mono ?_; rintro e w' ⟨rfl, hb⟩; have HB := Aside0.mk hb; clear hb))
    go_ret
    exact ⟨rfl, Below.trans (below_alloc (Below.refl _ _) _) (HB.out.mono (by simp))⟩
   | true =>
    go_enter Try.func112, Try.ntmps112
    go_wp2_with (first | (go_at_call 67; refine (HW.out _).mono ?_; rintro e w' ⟨rfl, rfl⟩) | (go_at_call 147; refine HT.out.mono ?_; rintro e w' ⟨rfl, hb⟩; have HB := Aside0.mk hb; clear hb))
    go_ret
    exact ⟨rfl, Below.trans (below_alloc (Below.refl _ _) _) (HB.out.mono (by simp))⟩

end Go.Proofs.Ytdhiijleafcfcaa.T
