/- strings.ContainsFunc with closures that capture nothing: what it returns. -/
import Derived.Test.YtdhiijleafcfcaaT0
import Derived.Shelf.Abstract
import Derived.Lib.OthersKept
import Derived.Lib.TrimU
namespace Go.Proofs.Ytdhiijleafcfcaa.T
open Go.RowKit Go.Proofs.YtdhiijleafcfcaaW.PrintWords Go.Proofs.YtdhiijleafcfcaaW.PrintLast Go.Proofs.YtdhiijleafcfcaaW.PrintMore
attribute [local go_sem] max2_int min2_int max_two min_two max_three min_three max_four min_four
set_option linter.unusedVariables false
set_option linter.unusedSimpArgs false

open Go.Lib
/-- strings.indexFunc(s, f, true), from place pos on, by at most so many runes. -/
def sidxFrom (p : Nat → Bool) (s : ByteArray) : Nat → Nat → Int
 | 0, _ => -1
 | f + 1, pos => if pos < s.size then (if p (Utf8.decode s pos).1 = true then (pos : Int) else sidxFrom p s f (pos + (Utf8.decode s pos).2)) else -1
def sidx (p : Nat → Bool) (s : ByteArray) : Int := sidxFrom p s s.size 0
theorem sidxFrom_end (p : Nat → Bool) (s : ByteArray) (f pos : Nat) (h : ¬ pos < s.size) : sidxFrom p s f pos = -1 := by cases f <;> simp [sidxFrom, h]

def byteAt (s : ByteArray) (i : Nat) : Nat := (s.get! i).toNat
theorem decode_ascii (s : ByteArray) (i : Nat) (h : byteAt s i < 128) : Utf8.decode s i = (byteAt s i, 1) := by
 unfold byteAt at h ⊢
 unfold Utf8.decode
 simp only [Nat.add_zero]
 rw [if_pos h]
theorem decode_high (s : ByteArray) (i : Nat) (h : 128 ≤ byteAt s i) : 128 ≤ (Utf8.decode s i).1 := by
 unfold byteAt at h
 unfold Utf8.decode Utf8.runeError
 simp only [Nat.add_zero]
 rw [if_neg (by omega)]
 split
 ·split <;> simp only [] <;> omega
 ·split
  ·split
   ·rename_i hh
    simp only [Bool.and_eq_true, decide_eq_true_eq] at hh
    simp only []
    omega
   ·simp only []; omega
  ·split
   ·split
    ·rename_i hh
     simp only [Bool.and_eq_true, decide_eq_true_eq] at hh
     simp only []
     omega
    ·simp only []; omega
   ·simp only []; omega

theorem sidxFrom_iff (p : Nat → Bool) (hp : ∀ r, 128 ≤ r → p r = true) (s : ByteArray) : ∀ (f pos : Nat), s.size ≤ pos + f →
  (0 ≤ sidxFrom p s f pos ↔ ∃ i, pos ≤ i ∧ i < s.size ∧ p (byteAt s i) = true)
 | 0, pos, h => by
  simp only [sidxFrom]
  exact ⟨fun h => absurd h (by omega), fun ⟨i, h1, h2, _⟩ => absurd h2 (by omega)⟩
 | f + 1, pos, h => by
  unfold sidxFrom
  by_cases hps : pos < s.size
  ·rw [if_pos hps]
   by_cases hb : byteAt s pos < 128
   ·rw [decode_ascii s pos hb]
    simp only []
    by_cases hq : p (byteAt s pos) = true
    ·rw [if_pos hq]
     exact ⟨fun _ => ⟨pos, Nat.le_refl _, hps, hq⟩, fun _ => by omega⟩
    ·rw [if_neg hq, sidxFrom_iff p hp s f (pos + 1) (by omega)]
     constructor
     ·rintro ⟨i, h1, h2, h3⟩; exact ⟨i, by omega, h2, h3⟩
     ·rintro ⟨i, h1, h2, h3⟩
      refine ⟨i, ?_, h2, h3⟩
      rcases Nat.lt_or_ge pos i with h4 | h4
      ·omega
      ·have : i = pos := by omega
       subst this
       exact absurd h3 hq
   ·rw [if_pos (hp _ (decode_high s pos (by omega)))]
    exact ⟨fun _ => ⟨pos, Nat.le_refl _, hps, hp _ (by omega)⟩, fun _ => by omega⟩
  ·rw [if_neg hps]
   exact ⟨fun h => absurd h (by omega), fun ⟨i, h1, h2, _⟩ => absurd h2 (by omega)⟩
theorem get!_list (s : ByteArray) (i : Nat) (h : i < s.size) : byteAt s i = (s.data.toList[i]'(by simpa using h)).toNat := by
 unfold byteAt
 congr 1
 have : s.get! i = s.data[i]! := rfl
 rw [this, Array.getElem!_eq_getD, Array.getD_eq_getD_getElem?, Array.getElem?_eq_getElem (by exact h)]
 simp
theorem sidx_any (p : Nat → Bool) (hp : ∀ r, 128 ≤ r → p r = true) (s : ByteArray) : decide (0 ≤ sidx p s) = s.data.toList.any fun b => p b.toNat := by
 rw [Bool.eq_iff_iff, decide_eq_true_iff, List.any_eq_true]
 unfold sidx
 rw [sidxFrom_iff p hp s s.size 0 (by omega)]
 constructor
 ·rintro ⟨i, _, h2, h3⟩
  exact ⟨s.data.toList[i]'(by simpa using h2), List.getElem_mem _, by rw [← get!_list s i h2]; exact h3⟩
 ·rintro ⟨b, hb, h3⟩
  obtain ⟨i, hi, rfl⟩ := List.getElem_of_mem hb
  have h2 : i < s.size := by simpa using hi
  exact ⟨i, Nat.zero_le _, h2, by rw [get!_list s i h2]; exact h3⟩
theorem sidxFrom_range (p : Nat → Bool) (s : ByteArray) : ∀ (f pos : Nat), -1 ≤ sidxFrom p s f pos ∧ sidxFrom p s f pos ≤ s.size
 | 0, _ => by unfold sidxFrom; omega
 | f + 1, pos => by
  unfold sidxFrom
  split
  ·split
   ·omega
   ·exact sidxFrom_range p s f _
  ·omega

/-- A predicate on runes, in any later world. -/
def PredR (g : Nat) (p : Nat → Bool) : Prop := ∀ (W : World) (r : Nat), Calls Try.prog g #[.int .i32 (r : Int)] W fun e w' => e = .returned (.bool (p r)) ∧ Drawn0 W w'

set_option maxHeartbeats 2000000 in
set_option maxRecDepth 1000000 in
theorem sindexFunc_calls (g : Nat) (eg : ∀ args w, (callFunc g args).run Try.prog w = .ok (.enter g args) w) (p : Nat → Bool) (s : ByteArray) (w : World) (hp : PredR g p) :
  Calls Try.prog 171 #[.string s, .func (.func g) #[] #[], .bool true] w fun e w' => e = .returned (.int .i64 (sidx p s)) ∧ Below w.heap.size w w' := by
 have HP := Aside0.mk hp
 clear hp
 go_enter Try.func171, Try.ntmps171
 go_wp2
 go_loopg [] s.size (fun gf wx => ∃ pos : Nat, wx.heap[w.heap.size]? = some (.stringIter s pos) ∧ Below w.heap.size w wx ∧ sidxFrom p s gf pos = sidx p s ∧ s.size ≤ pos + gf)
 case atStart => exact ⟨0, World.iter_heap w s 0, (Below.refl _ w).alloc (Nat.le_refl _) _, rfl, by omega⟩
 case round =>
  obtain ⟨pos, hit, hbw, hleft, hfu⟩ := hrel
  by_cases hps : pos < s.size
  ·obtain ⟨g', rfl⟩ : ∃ g', gk = g' + 1 := ⟨gk - 1, by omega⟩
   have hnx : ∀ ty, (Instr.next (.pointer (some ⟨w.heap.size, 0, none⟩)) true ty).run Try.prog wr = _ := fun ty => Lib.run_next_any_at wr w.heap.size s pos ty hit hps
   have hwd := Lib.width_pos s pos
   obtain ⟨R, hR⟩ : ∃ R, (Utf8.decode s pos).1 = R := ⟨_, rfl⟩
   obtain ⟨K, hK⟩ : ∃ K, (Utf8.decode s pos).2 = K := ⟨_, rfl⟩
   simp only [sidxFrom, hps, if_true, hR, hK] at hleft
   rw [hR, hK] at hnx
   rw [hK] at hwd
   have hit2 := Lib.iterAt_heap wr w.heap.size s pos (pos + K) hit
   have hbw2 := Lib.below_iterAt hbw (k := w.heap.size) (Nat.le_refl _) s (pos + K)
   obtain ⟨W, hWd⟩ : ∃ W, wr.iterAt w.heap.size s (pos + K) = W := ⟨_, rfl⟩
   rw [hWd] at hnx hit2 hbw2
   have cS : Calls Try.prog g #[.int .i32 (R : Int)] W _ := HP.out W R
   clear HP
   cases hsp : p R <;> rw [hsp] at cS <;> simp only [hsp, if_true, Bool.false_eq_true, if_false] at hleft
   ·have CS := Aside0.mk cS
    clear cS
    go_wp2_with (go_at_fn g; refine CS.out.mono ?_; rintro e W' ⟨rfl, ⟨q, rfl⟩⟩)
    go_roundg g'
    case measure => omega
    case rel => exact ⟨pos + K, hit2, pw_below_drewN hbw2 q, hleft, by omega⟩
   ·have CS := Aside0.mk cS
    clear cS
    go_wp2_with (go_at_fn g; refine CS.out.mono ?_; rintro e W' ⟨rfl, ⟨q, rfl⟩⟩)
    go_ret
    exact ⟨by rw [← hleft] <;> rfl, pw_below_drewN hbw2 q⟩
  ·have hnx : ∀ ty, (Instr.next (.pointer (some ⟨w.heap.size, 0, none⟩)) true ty).run Try.prog wr = _ := fun ty => Lib.run_next_end_at wr w.heap.size s pos ty hit hps
   rw [sidxFrom_end p s gk pos hps] at hleft
   go_wp2
   go_ret
   exact ⟨by rw [← hleft] <;> rfl, hbw⟩

set_option maxHeartbeats 1000000 in
theorem scontainsFunc_calls (g : Nat) (eg : ∀ args w, (callFunc g args).run Try.prog w = .ok (.enter g args) w) (p : Nat → Bool) (hp0 : ∀ r, 128 ≤ r → p r = true) (s : ByteArray) (w : World) (hp : PredR g p) :
  Calls Try.prog 109 #[.string s, .func (.func g) #[] #[]] w fun e w' => e = .returned (.bool (s.data.toList.any fun b => p b.toNat)) ∧ Below w.heap.size w w' := by
 have cI := sindexFunc_calls g eg p s w hp
 rw [← sidx_any p hp0]
 clear hp eg
 generalize sidx p s = I at cI ⊢
 have CI := Aside0.mk cI
 clear cI
 go_enter Try.func109, Try.ntmps109
 go_wp2_with (first | (go_at_call 171; refine CI.out.mono ?_; rintro e w' ⟨rfl, hb⟩) | go_in)
 go_ret
 exact ⟨rfl, hb⟩

def notLetterR (r : Nat) : Bool := decide (r < 97) || decide (122 < r)
theorem notLetterR_high (r : Nat) (h : 128 ≤ r) : notLetterR r = true := by simp [notLetterR]; omega
set_option maxRecDepth 100000 in
theorem rclos110 : PredR 110 notLetterR := fun W r => by
 unfold notLetterR
 by_cases h1 : r < 97
 ·have d1 : decide ((r : Int) < 97) = true := decide_eq_true (by omega)
  go_enter Try.func110, Try.ntmps110
  go_wp2
  go_ret
  exact ⟨by simp [h1], Drawn0.refl _⟩
 ·have d1 : decide ((r : Int) < 97) = false := decide_eq_false (by omega)
  go_enter Try.func110, Try.ntmps110
  go_wp2
  go_ret
  exact ⟨by simp [h1]; omega, Drawn0.refl _⟩
set_option maxRecDepth 100000 in
theorem rclos118 : PredR 118 notLetterR := fun W r => by
 unfold notLetterR
 by_cases h1 : r < 97
 ·have d1 : decide ((r : Int) < 97) = true := decide_eq_true (by omega)
  go_enter Try.func118, Try.ntmps118
  go_wp2
  go_ret
  exact ⟨by simp [h1], Drawn0.refl _⟩
 ·have d1 : decide ((r : Int) < 97) = false := decide_eq_false (by omega)
  go_enter Try.func118, Try.ntmps118
  go_wp2
  go_ret
  exact ⟨by simp [h1]; omega, Drawn0.refl _⟩
def notCellR (r : Nat) : Bool := decide (r ≠ 46) && (decide (r < 97) || decide (122 < r))
theorem notCellR_high (r : Nat) (h : 128 ≤ r) : notCellR r = true := by simp [notCellR]; omega
set_option maxRecDepth 100000 in
theorem rclos141 : PredR 141 notCellR := fun W r => by
 unfold notCellR
 by_cases h0 : r = 46
 ·subst h0
  go_enter Try.func141, Try.ntmps141
  go_wp2
  go_ret
  exact ⟨rfl, Drawn0.refl _⟩
 ·have d0 : ((r : Int) == 46) = false := beq_eq_false_iff_ne.mpr (by omega)
  have d00 : ((r : Int) != 46) = true := bne_iff_ne.mpr (by omega)
  by_cases h1 : r < 97
  ·have d1 : decide ((r : Int) < 97) = true := decide_eq_true (by omega)
   go_enter Try.func141, Try.ntmps141
   go_wp2
   go_ret
   exact ⟨by simp [h1, h0], Drawn0.refl _⟩
  ·have d1 : decide ((r : Int) < 97) = false := decide_eq_false (by omega)
   go_enter Try.func141, Try.ntmps141
   go_wp2
   go_ret
   exact ⟨by simp [h1, h0]; omega, Drawn0.refl _⟩

def sf110.f (s : ByteArray) : Option Bool := some (s.data.toList.any fun b => notLetterR b.toNat)
theorem sf110.calls (a0 : ByteArray) (r : Bool) (w : World) (h : sf110.f a0 = some r) :
  Calls Try.prog 109 #[.string a0, .func (.func 110) #[] #[]] w fun e w' => e = .returned (.bool r) ∧ Below w.heap.size w w' := by
 obtain rfl := Option.some.inj h
 exact scontainsFunc_calls 110 (enters_of Try.func110 (by kernel_rfl) rfl) _ notLetterR_high a0 w rclos110
def sf118.f (s : ByteArray) : Option Bool := some (s.data.toList.any fun b => notLetterR b.toNat)
theorem sf118.calls (a0 : ByteArray) (r : Bool) (w : World) (h : sf118.f a0 = some r) :
  Calls Try.prog 109 #[.string a0, .func (.func 118) #[] #[]] w fun e w' => e = .returned (.bool r) ∧ Below w.heap.size w w' := by
 obtain rfl := Option.some.inj h
 exact scontainsFunc_calls 118 (enters_of Try.func118 (by kernel_rfl) rfl) _ notLetterR_high a0 w rclos118
def sf141.f (s : ByteArray) : Option Bool := some (s.data.toList.any fun b => notCellR b.toNat)
theorem sf141.calls (a0 : ByteArray) (r : Bool) (w : World) (h : sf141.f a0 = some r) :
  Calls Try.prog 109 #[.string a0, .func (.func 141) #[] #[]] w fun e w' => e = .returned (.bool r) ∧ Below w.heap.size w w' := by
 obtain rfl := Option.some.inj h
 exact scontainsFunc_calls 141 (enters_of Try.func141 (by kernel_rfl) rfl) _ notCellR_high a0 w rclos141

end Go.Proofs.Ytdhiijleafcfcaa.T
