/- slices.ContainsFunc over whole numbers, with closures that capture nothing: what it returns. -/
import Derived.Test.YtdhiijleafcfcaaT0
import Derived.Shelf.Abstract
namespace Go.Proofs.Ytdhiijleafcfcaa.T
open Go.RowKit Go.Proofs.YtdhiijleafcfcaaW.PrintWords Go.Proofs.YtdhiijleafcfcaaW.PrintLast Go.Proofs.YtdhiijleafcfcaaW.PrintMore
attribute [local go_sem] max2_int min2_int max_two min_two max_three min_three max_four min_four
set_option linter.unusedVariables false
set_option linter.unusedSimpArgs false

/-- A predicate's function value, called in any world that is the old one but for draws. -/
def PredD (g : Nat) (lb : Array Value) (p : Int → Bool) (w : World) : Prop :=
 ∀ (x : Int) (m : Nat), Calls Try.prog g (#[.int .i64 x] ++ lb) (w.drewN m) fun e w' => e = .returned (.bool (p x)) ∧ Drawn0 (w.drewN m) w'

def idxF (p : Int → Bool) (l : List Int) (k : Nat) : Int := match (l.drop k).findIdx? p with
 | none => -1
 | some j => ((k + j : Nat) : Int)

theorem idxF_hit (p : Int → Bool) (l : List Int) (k : Nat) (hk : k < l.length) (h : p (l.getD k 0) = true) : idxF p l k = k := by
 unfold idxF
 rw [List.drop_eq_getElem_cons hk]
 rw [List.getD_eq_getElem?_getD, List.getElem?_eq_getElem hk, Option.getD_some] at h
 simp only [List.findIdx?_cons, h, if_true, Nat.add_zero]
theorem idxF_skip (p : Int → Bool) (l : List Int) (k : Nat) (hk : k < l.length) (h : p (l.getD k 0) = false) : idxF p l k = idxF p l (k + 1) := by
 unfold idxF
 rw [List.drop_eq_getElem_cons hk]
 rw [List.getD_eq_getElem?_getD, List.getElem?_eq_getElem hk, Option.getD_some] at h
 simp only [List.findIdx?_cons, h, Bool.false_eq_true, if_false]
 cases (l.drop (k + 1)).findIdx? p with
 | none => rfl
 | some j => simp only [Option.map_some]; omega
theorem idxF_end (p : Int → Bool) (l : List Int) : idxF p l l.length = -1 := by simp [idxF]
theorem idxF_any (p : Int → Bool) (l : List Int) : decide (0 ≤ idxF p l 0) = l.any p := by
 unfold idxF
 simp only [List.drop_zero, Nat.zero_add]
 cases h : l.findIdx? p with
 | none =>
  have := List.findIdx?_eq_none_iff.1 h
  symm
  simp only [show decide ((0 : Int) ≤ -1) = false from rfl, List.any_eq_false]
  intro x hx
  simp [this x hx]
 | some j =>
  obtain ⟨hj, hp, _⟩ := List.findIdx?_eq_some_iff_getElem.1 h
  symm
  have h1 : decide ((0 : Int) ≤ ((j : Nat) : Int)) = true := decide_eq_true (by omega)
  simp only [h1, List.any_eq_true]
  exact ⟨l[j], List.getElem_mem hj, hp⟩
theorem idxF_range (p : Int → Bool) (l : List Int) (k : Nat) (hl : l.length ≤ 9223372036854775807) : -1 ≤ idxF p l k ∧ idxF p l k ≤ 9223372036854775807 := by
 unfold idxF
 cases h : (l.drop k).findIdx? p with
 | none => exact ⟨by show (-1 : Int) ≤ -1; omega, by show (-1 : Int) ≤ _; omega⟩
 | some j =>
  obtain ⟨hj, _⟩ := List.findIdx?_eq_some_iff_getElem.1 h
  rw [List.length_drop] at hj
  exact ⟨by show (-1 : Int) ≤ ((k + j : Nat) : Int); omega, by show ((k + j : Nat) : Int) ≤ _; omega⟩

set_option maxHeartbeats 1000000 in
set_option maxRecDepth 100000 in
theorem indexFunc_calls (g : Nat) (lb : Array Value) (p : Int → Bool) (eg : ∀ args w, (callFunc g args).run Try.prog w = .ok (.enter g args) w) (A : Option Addr) (c : Nat) (l : List Int) (w : World)
  (hp : PredD g lb p w) (hr : Kd.C (Kd.int .i64) w A l.length l) (hc : l.length ≤ c) :
  Calls Try.prog 125 #[.slice A l.length c, .func (.func g) #[] lb] w fun e w' => e = .returned (.int .i64 (idxF p l 0)) ∧ Drawn0 w w' := by
 have HR := Aside0.mk hr
 have hl : l.length ≤ 9223372036854775807 := hr.2.1
 have HP := Aside0.mk hp
 clear hr hc hp
 go_enter Try.func125, Try.ntmps125
 go_wp2
 go_loopg [5, 8] l.length (fun gg _ s8 wr => ∃ kk q : Nat, kk ≤ l.length ∧ l.length - kk ≤ gg ∧ s8 = .int .i64 kk ∧ wr = w.drewN q ∧ Aside0 (idxF p l 0 = idxF p l kk))
 case atStart => exact ⟨0, 0, Nat.zero_le _, by omega, rfl, rfl, ⟨rfl⟩⟩
 case round =>
  obtain ⟨kk, q, hkk, hg, rfl, rfl, HI⟩ := hrel
  by_cases hlt : kk < l.length
  ·have hltz : (kk : Int) < (l.length : Int) := by omega
   obtain ⟨ad, e1, hcell⟩ := Kd.at_int HR.out (kk : Int) (by omega) (by omega)
   cases e1
   have ek : ((kk : Int)).toNat = kk := Int.toNat_natCast kk
   rw [ek] at hcell
   have hcall := HP.out (rd l kk)
   have hrd : rd l kk = l.getD kk 0 := by unfold rd; rw [ek]
   have HD := Aside0.mk hrd
   clear hrd ek
   cases hq : p (rd l kk) with
   | true =>
    rw [hq] at hcall
    have HC := Aside0.mk hcall
    have HQ := Aside0.mk hq
    clear hcall hq
    go_wp2_with (go_at_fn g; refine (HC.out _).mono ?_; rintro e w' ⟨rfl, ⟨q', rfl⟩⟩)
    go_ret
    refine ⟨?_, ⟨⟨_, rfl⟩⟩⟩
    rw [HI.out, idxF_hit p l kk hlt (by rw [← HD.out]; exact HQ.out)]
    rfl
   | false =>
    rw [hq] at hcall
    have HC := Aside0.mk hcall
    have HQ := Aside0.mk hq
    clear hcall hq
    go_wp2_with (go_at_fn g; refine (HC.out _).mono ?_; rintro e w' ⟨rfl, ⟨q', rfl⟩⟩)
    go_roundg (l.length - (kk + 1))
    case measure => omega
    case rel =>
     refine ⟨kk + 1, _, by omega, by omega, by go_num, rfl, ⟨?_⟩⟩
     rw [HI.out, idxF_skip p l kk hlt (by rw [← HD.out]; exact HQ.out)]
  ·have hltz : ¬ (kk : Int) < (l.length : Int) := by omega
   have h0 : kk = l.length := by omega
   subst h0
   go_wp2
   go_ret
   refine ⟨?_, ⟨⟨_, rfl⟩⟩⟩
   rw [HI.out, idxF_end]
   rfl

set_option maxHeartbeats 1000000 in
set_option maxRecDepth 100000 in
theorem containsFunc_calls (g : Nat) (lb : Array Value) (p : Int → Bool) (eg : ∀ args w, (callFunc g args).run Try.prog w = .ok (.enter g args) w) (A : Option Addr) (c : Nat) (l : List Int) (w : World)
  (hp : PredD g lb p w) (hr : Kd.C (Kd.int .i64) w A l.length l) (hc : l.length ≤ c) :
  Calls Try.prog 68 #[.slice A l.length c, .func (.func g) #[] lb] w fun e w' => e = .returned (.bool (l.any p)) ∧ Drawn0 w w' := by
 have h0 := indexFunc_calls g lb p eg A c l w hp hr hc
 have h1 := idxF_range p l 0 hr.2.1
 rw [← idxF_any]
 clear hp hr hc
 generalize idxF p l 0 = r at h0 h1 ⊢
 obtain ⟨h2, h3⟩ := h1
 have H0 := Aside0.mk h0
 clear h0
 go_enter Try.func68, Try.ntmps68
 go_wp2_with (go_at_call 125; refine H0.out.mono ?_; rintro e w' ⟨rfl, ⟨q, rfl⟩⟩)
 go_ret
 exact ⟨rfl, ⟨⟨q, rfl⟩⟩⟩

/-- 'within' of three numbers. -/
def inR (a b : Int) (x : Int) : Bool := decide (a ≤ x) && decide (x ≤ b)
theorem within_calls (x a b : Int) (w : World) : Calls Try.prog 67 #[.int .i64 x, .int .i64 a, .int .i64 b] w fun e w' => e = .returned (.bool (inR a b x)) ∧ w = w' := by
 unfold inR
 by_cases h1 : a ≤ x
 ·have d1 : decide (a ≤ x) = true := decide_eq_true h1
  rw [d1]
  go_enter Try.func67, Try.ntmps67
  go_wp2
  go_ret
  exact ⟨by simp, rfl⟩
 ·have d1 : decide (a ≤ x) = false := decide_eq_false h1
  rw [d1]
  go_enter Try.func67, Try.ntmps67
  go_wp2
  go_ret
  exact ⟨by simp, rfl⟩

set_option maxRecDepth 100000 in
theorem clos69 (w : World) : PredD 69 #[] (fun x => !inR (-10000) 10000 x) w := fun x m => by
 show Calls Try.prog 69 #[.int .i64 x] (w.drewN m) fun e w' => e = .returned (.bool (!inR (-10000) 10000 x)) ∧ Drawn0 (w.drewN m) w'
 have h := within_calls x (-10000) 10000 (w.drewN m)
 generalize inR (-10000) 10000 x = r at h ⊢
 have H := Aside0.mk h
 clear h
 go_enter Try.func69, Try.ntmps69
 go_wp2_with (go_at_call 67; refine H.out.mono ?_; rintro e w' ⟨rfl, rfl⟩)
 go_ret
 exact ⟨rfl, Drawn0.refl _⟩
def cf69.f (l : List Int) : Option Bool := some (l.any fun x => !inR (-10000) 10000 x)
theorem cf69.calls (A0 : Option Addr) (c0 : Nat) (l0 : List Int) (r : Bool) (w : World) (hr0 : Kd.C (Kd.int .i64) w A0 l0.length l0) (hc0 : l0.length ≤ c0) (h : cf69.f l0 = some r) :
  Calls Try.prog 68 #[.slice A0 l0.length c0, .func (.func 69) #[] #[]] w fun e w' => e = .returned (.bool r) ∧ Drawn0 w w' := by
 obtain rfl := Option.some.inj h
 exact containsFunc_calls 69 #[] _ (enters_of Try.func69 (by kernel_rfl) rfl) A0 c0 l0 w (clos69 w) hr0 hc0

set_option maxRecDepth 100000 in
theorem clos78 (w : World) : PredD 78 #[] (fun x => !inR (-1) 1 x) w := fun x m => by
 show Calls Try.prog 78 #[.int .i64 x] (w.drewN m) fun e w' => e = .returned (.bool (!inR (-1) 1 x)) ∧ Drawn0 (w.drewN m) w'
 have h := within_calls x (-1) 1 (w.drewN m)
 generalize inR (-1) 1 x = r at h ⊢
 have H := Aside0.mk h
 clear h
 go_enter Try.func78, Try.ntmps78
 go_wp2_with (go_at_call 67; refine H.out.mono ?_; rintro e w' ⟨rfl, rfl⟩)
 go_ret
 exact ⟨rfl, Drawn0.refl _⟩
def cf78.f (l : List Int) : Option Bool := some (l.any fun x => !inR (-1) 1 x)
theorem cf78.calls (A0 : Option Addr) (c0 : Nat) (l0 : List Int) (r : Bool) (w : World) (hr0 : Kd.C (Kd.int .i64) w A0 l0.length l0) (hc0 : l0.length ≤ c0) (h : cf78.f l0 = some r) :
  Calls Try.prog 68 #[.slice A0 l0.length c0, .func (.func 78) #[] #[]] w fun e w' => e = .returned (.bool r) ∧ Drawn0 w w' := by
 obtain rfl := Option.some.inj h
 exact containsFunc_calls 78 #[] _ (enters_of Try.func78 (by kernel_rfl) rfl) A0 c0 l0 w (clos78 w) hr0 hc0

set_option maxRecDepth 100000 in
theorem clos84 (w : World) : PredD 84 #[] (fun x => !inR 0 3 x) w := fun x m => by
 show Calls Try.prog 84 #[.int .i64 x] (w.drewN m) fun e w' => e = .returned (.bool (!inR 0 3 x)) ∧ Drawn0 (w.drewN m) w'
 have h := within_calls x 0 3 (w.drewN m)
 generalize inR 0 3 x = r at h ⊢
 have H := Aside0.mk h
 clear h
 go_enter Try.func84, Try.ntmps84
 go_wp2_with (go_at_call 67; refine H.out.mono ?_; rintro e w' ⟨rfl, rfl⟩)
 go_ret
 exact ⟨rfl, Drawn0.refl _⟩
def cf84.f (l : List Int) : Option Bool := some (l.any fun x => !inR 0 3 x)
theorem cf84.calls (A0 : Option Addr) (c0 : Nat) (l0 : List Int) (r : Bool) (w : World) (hr0 : Kd.C (Kd.int .i64) w A0 l0.length l0) (hc0 : l0.length ≤ c0) (h : cf84.f l0 = some r) :
  Calls Try.prog 68 #[.slice A0 l0.length c0, .func (.func 84) #[] #[]] w fun e w' => e = .returned (.bool r) ∧ Drawn0 w w' := by
 obtain rfl := Option.some.inj h
 exact containsFunc_calls 84 #[] _ (enters_of Try.func84 (by kernel_rfl) rfl) A0 c0 l0 w (clos84 w) hr0 hc0

set_option maxRecDepth 100000 in
theorem clos98 (w : World) : PredD 98 #[] (fun x => !inR 0 3 x) w := fun x m => by
 show Calls Try.prog 98 #[.int .i64 x] (w.drewN m) fun e w' => e = .returned (.bool (!inR 0 3 x)) ∧ Drawn0 (w.drewN m) w'
 have h := within_calls x 0 3 (w.drewN m)
 generalize inR 0 3 x = r at h ⊢
 have H := Aside0.mk h
 clear h
 go_enter Try.func98, Try.ntmps98
 go_wp2_with (go_at_call 67; refine H.out.mono ?_; rintro e w' ⟨rfl, rfl⟩)
 go_ret
 exact ⟨rfl, Drawn0.refl _⟩
def cf98.f (l : List Int) : Option Bool := some (l.any fun x => !inR 0 3 x)
theorem cf98.calls (A0 : Option Addr) (c0 : Nat) (l0 : List Int) (r : Bool) (w : World) (hr0 : Kd.C (Kd.int .i64) w A0 l0.length l0) (hc0 : l0.length ≤ c0) (h : cf98.f l0 = some r) :
  Calls Try.prog 68 #[.slice A0 l0.length c0, .func (.func 98) #[] #[]] w fun e w' => e = .returned (.bool r) ∧ Drawn0 w w' := by
 obtain rfl := Option.some.inj h
 exact containsFunc_calls 98 #[] _ (enters_of Try.func98 (by kernel_rfl) rfl) A0 c0 l0 w (clos98 w) hr0 hc0

set_option maxRecDepth 100000 in
theorem clos126 (w : World) : PredD 126 #[] (fun x => !inR 1 10000 x) w := fun x m => by
 show Calls Try.prog 126 #[.int .i64 x] (w.drewN m) fun e w' => e = .returned (.bool (!inR 1 10000 x)) ∧ Drawn0 (w.drewN m) w'
 have h := within_calls x 1 10000 (w.drewN m)
 generalize inR 1 10000 x = r at h ⊢
 have H := Aside0.mk h
 clear h
 go_enter Try.func126, Try.ntmps126
 go_wp2_with (go_at_call 67; refine H.out.mono ?_; rintro e w' ⟨rfl, rfl⟩)
 go_ret
 exact ⟨rfl, Drawn0.refl _⟩
def cf126.f (l : List Int) : Option Bool := some (l.any fun x => !inR 1 10000 x)
theorem cf126.calls (A0 : Option Addr) (c0 : Nat) (l0 : List Int) (r : Bool) (w : World) (hr0 : Kd.C (Kd.int .i64) w A0 l0.length l0) (hc0 : l0.length ≤ c0) (h : cf126.f l0 = some r) :
  Calls Try.prog 68 #[.slice A0 l0.length c0, .func (.func 126) #[] #[]] w fun e w' => e = .returned (.bool r) ∧ Drawn0 w w' := by
 obtain rfl := Option.some.inj h
 exact containsFunc_calls 126 #[] _ (enters_of Try.func126 (by kernel_rfl) rfl) A0 c0 l0 w (clos126 w) hr0 hc0

set_option maxRecDepth 100000 in
theorem clos135 (w : World) : PredD 135 #[] (fun x => !inR 0 9 x) w := fun x m => by
 show Calls Try.prog 135 #[.int .i64 x] (w.drewN m) fun e w' => e = .returned (.bool (!inR 0 9 x)) ∧ Drawn0 (w.drewN m) w'
 have h := within_calls x 0 9 (w.drewN m)
 generalize inR 0 9 x = r at h ⊢
 have H := Aside0.mk h
 clear h
 go_enter Try.func135, Try.ntmps135
 go_wp2_with (go_at_call 67; refine H.out.mono ?_; rintro e w' ⟨rfl, rfl⟩)
 go_ret
 exact ⟨rfl, Drawn0.refl _⟩
def cf135.f (l : List Int) : Option Bool := some (l.any fun x => !inR 0 9 x)
theorem cf135.calls (A0 : Option Addr) (c0 : Nat) (l0 : List Int) (r : Bool) (w : World) (hr0 : Kd.C (Kd.int .i64) w A0 l0.length l0) (hc0 : l0.length ≤ c0) (h : cf135.f l0 = some r) :
  Calls Try.prog 68 #[.slice A0 l0.length c0, .func (.func 135) #[] #[]] w fun e w' => e = .returned (.bool r) ∧ Drawn0 w w' := by
 obtain rfl := Option.some.inj h
 exact containsFunc_calls 135 #[] _ (enters_of Try.func135 (by kernel_rfl) rfl) A0 c0 l0 w (clos135 w) hr0 hc0

set_option maxRecDepth 100000 in
theorem clos136 (w : World) : PredD 136 #[] (fun x => !inR 0 15 x) w := fun x m => by
 show Calls Try.prog 136 #[.int .i64 x] (w.drewN m) fun e w' => e = .returned (.bool (!inR 0 15 x)) ∧ Drawn0 (w.drewN m) w'
 have h := within_calls x 0 15 (w.drewN m)
 generalize inR 0 15 x = r at h ⊢
 have H := Aside0.mk h
 clear h
 go_enter Try.func136, Try.ntmps136
 go_wp2_with (go_at_call 67; refine H.out.mono ?_; rintro e w' ⟨rfl, rfl⟩)
 go_ret
 exact ⟨rfl, Drawn0.refl _⟩
def cf136.f (l : List Int) : Option Bool := some (l.any fun x => !inR 0 15 x)
theorem cf136.calls (A0 : Option Addr) (c0 : Nat) (l0 : List Int) (r : Bool) (w : World) (hr0 : Kd.C (Kd.int .i64) w A0 l0.length l0) (hc0 : l0.length ≤ c0) (h : cf136.f l0 = some r) :
  Calls Try.prog 68 #[.slice A0 l0.length c0, .func (.func 136) #[] #[]] w fun e w' => e = .returned (.bool r) ∧ Drawn0 w w' := by
 obtain rfl := Option.some.inj h
 exact containsFunc_calls 136 #[] _ (enters_of Try.func136 (by kernel_rfl) rfl) A0 c0 l0 w (clos136 w) hr0 hc0

end Go.Proofs.Ytdhiijleafcfcaa.T
