/- Mix: what it returns. -/
import Derived.Test.YtdhiijleafcfcaaT0
import Derived.Test.YtdhiijleafcfcaaCh
import Derived.Test.YtdhiijleafcfcaaSf
import Derived.Test.YtdhiijleafcfcaaCf
import Derived.Shelf.Abstract
namespace Go.Proofs.Ytdhiijleafcfcaa.T
open Go.RowKit Go.Proofs.YtdhiijleafcfcaaW.PrintWords Go.Proofs.YtdhiijleafcfcaaW.PrintLast Go.Proofs.YtdhiijleafcfcaaW.PrintMore
attribute [local go_sem] max2_int min2_int max_two min_two max_three min_three max_four min_four
set_option linter.unusedVariables false
set_option linter.unusedSimpArgs false

def mixB (key : ByteArray) (sg : Int) (i : Nat) : Int := sg * (bt key ((i % key.size : Nat) : Int) - 97)
theorem letter_byte (key : ByteArray) (hk : key.data.toList.any (fun b => notLetterR b.toNat) = false) (j : Nat) (hj : j < key.size) : 97 ≤ bt key (j : Int) ∧ bt key (j : Int) ≤ 122 := by
 unfold bt
 rw [dif_pos (by simpa using hj)]
 rw [List.any_eq_false] at hk
 have h := hk (key[j]) (by
  show key.data[j]'hj ∈ key.data.toList
  exact Array.getElem_mem_toList _)
 simp only [notLetterR, Bool.or_eq_true, decide_eq_true_eq, not_or, Nat.not_lt] at h
 simp only [Int.toNat_natCast]
 omega
set_option maxHeartbeats 1000000 in
set_option maxRecDepth 100000 in
theorem by120 (key : ByteArray) (sg : Int) (hsg : sg = 1 ∨ sg = -1) (hk1 : 1 ≤ key.size) (hk2 : key.size ≤ 12) (hk : key.data.toList.any (fun b => notLetterR b.toNat) = false) (B C : Nat) (w : World)
  (hB : B < w.heap.size) (hC : C < w.heap.size) (hc : w.cell? ⟨B, 0, none⟩ = some (.int .i64 sg)) (hd : w.cell? ⟨C, 0, none⟩ = some (.string key)) :
  ByAt 120 #[.pointer (some ⟨B, 0, none⟩), .pointer (some ⟨C, 0, none⟩)] (mixB key sg) w := fun i W hi hb => by
 have hc' : W.cell? ⟨B, 0, none⟩ = some (.int .i64 sg) := (hb.cell (p := ⟨B, 0, none⟩) hB).trans hc
 have hd' : W.cell? ⟨C, 0, none⟩ = some (.string key) := (hb.cell (p := ⟨C, 0, none⟩) hC).trans hd
 have hlt : i % key.size < key.size := Nat.mod_lt _ (by omega)
 obtain ⟨l1, l2⟩ := letter_byte key hk (i % key.size) hlt
 show Calls Try.prog 120 #[.int .i64 (i : Int), .pointer (some ⟨B, 0, none⟩), .pointer (some ⟨C, 0, none⟩)] W fun e w' => e = .returned (.int .i64 (mixB key sg i)) ∧ Drawn0 W w'
 have e1 : ((i : Int) % (key.size : Int)) = ((i % key.size : Nat) : Int) := by omega
 obtain ⟨j, hj⟩ : ∃ j, i % key.size = j := ⟨_, rfl⟩
 unfold mixB
 rw [hj] at hlt l1 l2 e1 ⊢
 have hbt := bt_at key (j : Int) (by rw [Int.toNat_natCast]; exact hlt)
 obtain ⟨v, hv⟩ : ∃ v, bt key (j : Int) = v := ⟨_, rfl⟩
 rw [hv] at l1 l2 hbt ⊢
 clear hj hv hk hb hB hC hc hd
 have hz : ¬ ((key.size : Int) = 0) := by omega
 have hz2 : ((key.size : Int) == 0) = false := beq_eq_false_iff_ne.mpr hz
 have hbt2 : ((key[j]'hlt).toNat : Int) = v := hbt
 clear hbt
 have hw : (v - 97) % 256 = v - 97 := by omega
 rcases hsg with rfl | rfl
 all_goals
  go_enter Try.func120, Try.ntmps120
  go_wp2
  go_quiet (fail)
  go_wp2
  go_ret
  exact ⟨by first | exact (show Ending.returned (.int .i64 (v - 97)) = .returned (.int .i64 (1 * (v - 97))) from by rw [Int.one_mul]) | exact (show Ending.returned (.int .i64 (-(v - 97))) = .returned (.int .i64 (-1 * (v - 97))) from by rw [Int.neg_mul, Int.one_mul]), Drawn0.step (Drawn0.refl _) _⟩

theorem mixB_range (key : ByteArray) (sg : Int) (hsg : sg = 1 ∨ sg = -1) (hk1 : 1 ≤ key.size) (hk : key.data.toList.any (fun b => notLetterR b.toNat) = false) (i : Nat) : -100000 ≤ mixB key sg i ∧ mixB key sg i ≤ 100000 := by
 obtain ⟨h1, h2⟩ := letter_byte key hk (i % key.size) (Nat.mod_lt _ (by omega))
 unfold mixB
 generalize bt key ((i % key.size : Nat) : Int) = v at h1 h2 ⊢
 rcases hsg with rfl | rfl <;> omega
def puzzles_Mix.f (a0 : ByteArray) (a1 : ByteArray) (a2 : Bool) : Option (ByteArray × Int) :=
 if a0.size ≤ 200 then
  if 1 ≤ a1.size ∧ a1.size ≤ 12 then
   if a1.data.toList.any (fun b => notLetterR b.toNat) = true then some (⟨#[]⟩, 1)
   else some (strOfNums (chgI (mixB a1 (if a2 then -1 else 1)) 0 (bytesOf a0)), 0)
  else some (⟨#[]⟩, 1)
 else if a0.size ≤ 9223372036854775807 then some (⟨#[]⟩, 2) else none
set_option maxHeartbeats 2000000 in
set_option maxRecDepth 100000 in
theorem puzzles_Mix.calls (a0 : ByteArray) (a1 : ByteArray) (a2 : Bool) (r1 : ByteArray) (r2 : Int) (w : World) (h : puzzles_Mix.f a0 a1 a2 = some (r1, r2)) :
  Calls Try.prog 62 #[.string a0, .string a1, .bool a2] w fun e w' => e = .returned (.tuple #[.string r1, .int .i64 r2]) ∧ Below w.heap.size w w' := by
 have HB0 := Aside0.mk (Below.refl w.heap.size w)
 have HB1 := Aside0.mk ((Below.refl _ w).alloc (Nat.le_refl _) (.cells #[.string a1] 9))
 unfold puzzles_Mix.f at h
 split at h
 ·rename_i h0
  have h0' : (a0.size : Int) ≤ 200 := by omega
  split at h
  ·rename_i h1
   obtain ⟨h1, h2⟩ := h1
   have hw1 := fun W => within_calls (a1.size : Int) 1 12 W
   rw [show inR 1 12 (a1.size : Int) = true from by simp [inR]; omega] at hw1
   have HW := Aside0.mk hw1
   have hcf := fun W => scontainsFunc_calls 118 (enters_of Try.func118 (by kernel_rfl) rfl) _ notLetterR_high a1 W rclos118
   split at h
   ·rename_i h3
    rw [h3] at hcf
    have HCF := Aside0.mk hcf
    clear hw1 hcf h3
    simp only [Option.some.injEq, Prod.mk.injEq] at h
    obtain ⟨rfl, rfl⟩ := h
    go_enter Try.func62, Try.ntmps62
    go_wp2_with (first | (go_at_call 67; refine (HW.out _).mono ?_; rintro e w' ⟨rfl, rfl⟩) | (go_at_call 109; refine (HCF.out _).mono ?_; rintro e w' ⟨rfl, hb⟩))
    go_ret2
    exact ⟨rfl, HB1.out.trans (hb.mono (by simp))⟩
   ·rename_i h3
    have h3' : a1.data.toList.any (fun b => notLetterR b.toNat) = false := by simpa using h3
    rw [h3'] at hcf
    have HCF := Aside0.mk hcf
    simp only [Option.some.injEq, Prod.mk.injEq] at h
    obtain ⟨rfl, rfl⟩ := h
    cases a2 with
    | false =>
     have hch := fun (W : World) (hz : w.heap.size + 1 ≤ W.heap.size) (hc : W.cell? ⟨w.heap.size, 0, none⟩ = some (.string a1)) =>
      change_calls 120 #[.pointer (some ⟨W.heap.size, 0, none⟩), .pointer (some ⟨w.heap.size, 0, none⟩)] (enters_of Try.func120 (by kernel_rfl) rfl) (mixB a1 1) (mixB_range a1 1 (.inl rfl) h1 h3') a0 (W.alloc (.cells #[.int .i64 1] 3)) (by omega)
       (by120 a1 1 (.inl rfl) h1 h2 h3' W.heap.size w.heap.size _ (by simp) (by simp; omega) (by simp) ((World.cell?_alloc_lt W _ ⟨w.heap.size, 0, none⟩ (by show w.heap.size < W.heap.size; omega)).trans hc))
     simp only [Bool.false_eq_true, if_false]
     generalize strOfNums (chgI (mixB a1 1) 0 (bytesOf a0)) = res at hch ⊢
     have HCH := Aside0.mk hch
     clear hw1 hcf h3 h3' hch
     go_enter Try.func62, Try.ntmps62
     go_wp2_with (first | (go_at_call 67; refine (HW.out _).mono ?_; rintro e w' ⟨rfl, rfl⟩) | (go_at_call 109; refine (HCF.out _).mono ?_; rintro e w' ⟨rfl, hb⟩; have hz := hb.size; simp only [World.size_alloc] at hz; have hc := (hb.cell (p := ⟨w.heap.size, 0, none⟩) (by simp)).trans (show (w.alloc (.cells #[.string a1] 9)).cell? ⟨w.heap.size, 0, none⟩ = some (.string a1) from by simp); have HBW := Aside0.mk (HB1.out.trans (hb.mono (by simp))); clear hb) | (go_at_call 119; refine (HCH.out _ hz hc).mono ?_; rintro e w' ⟨rfl, hb⟩))
     go_ret2
     exact ⟨rfl, ((HBW.out.alloc (by omega) _).trans (hb.mono (by simp; omega)))⟩
    | true =>
     have hch := fun (W : World) (hz : w.heap.size + 1 ≤ W.heap.size) (hc : W.cell? ⟨w.heap.size, 0, none⟩ = some (.string a1)) =>
      change_calls 120 #[.pointer (some ⟨W.heap.size, 0, none⟩), .pointer (some ⟨w.heap.size, 0, none⟩)] (enters_of Try.func120 (by kernel_rfl) rfl) (mixB a1 (-1)) (mixB_range a1 (-1) (.inr rfl) h1 h3') a0 (W.alloc (.cells #[.int .i64 (-1)] 3)) (by omega)
       (by120 a1 (-1) (.inr rfl) h1 h2 h3' W.heap.size w.heap.size _ (by simp) (by simp; omega) (by simp) ((World.cell?_alloc_lt W _ ⟨w.heap.size, 0, none⟩ (by show w.heap.size < W.heap.size; omega)).trans hc))
     simp only [if_true]
     generalize strOfNums (chgI (mixB a1 (-1)) 0 (bytesOf a0)) = res at hch ⊢
     have HCH := Aside0.mk hch
     clear hw1 hcf h3 h3' hch
     go_enter Try.func62, Try.ntmps62
     go_wp2_with (first | (go_at_call 67; refine (HW.out _).mono ?_; rintro e w' ⟨rfl, rfl⟩) | (go_at_call 109; refine (HCF.out _).mono ?_; rintro e w' ⟨rfl, hb⟩; have hz := hb.size; simp only [World.size_alloc] at hz; have hc := (hb.cell (p := ⟨w.heap.size, 0, none⟩) (by simp)).trans (show (w.alloc (.cells #[.string a1] 9)).cell? ⟨w.heap.size, 0, none⟩ = some (.string a1) from by simp); have HBW := Aside0.mk (HB1.out.trans (hb.mono (by simp))); clear hb) | (go_at_call 119; refine (HCH.out _ hz hc).mono ?_; rintro e w' ⟨rfl, hb⟩))
     go_ret2
     exact ⟨rfl, ((HBW.out.alloc (by omega) _).trans (hb.mono (by simp; omega)))⟩
  ·rename_i h1
   have hw1 := fun W => within_calls (a1.size : Int) 1 12 W
   rw [show inR 1 12 (a1.size : Int) = false from by simp [inR]; omega] at hw1
   have HW := Aside0.mk hw1
   clear hw1 h1
   simp only [Option.some.injEq, Prod.mk.injEq] at h
   obtain ⟨rfl, rfl⟩ := h
   go_enter Try.func62, Try.ntmps62
   go_wp2_with (first | (go_at_call 67; refine (HW.out _).mono ?_; rintro e w' ⟨rfl, rfl⟩))
   go_ret2
   exact ⟨rfl, HB1.out⟩
 ·rename_i h0
  split at h
  ·rename_i h1
   have h0' : (200 : Int) < (a0.size : Int) := by omega
   simp only [Option.some.injEq, Prod.mk.injEq] at h
   obtain ⟨rfl, rfl⟩ := h
   go_enter Try.func62, Try.ntmps62
   go_wp2
   go_ret2
   exact ⟨rfl, HB1.out⟩
  ·cases h

end Go.Proofs.Ytdhiijleafcfcaa.T
