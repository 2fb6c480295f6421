/- Crack: what it returns. -/
import Derived.Test.YtdhiijleafcfcaaT0
import Derived.Test.YtdhiijleafcfcaaCh
import Derived.Test.YtdhiijleafcfcaaSc
namespace Go.Proofs.Ytdhiijleafcfcaa.T
open Go.RowKit Go.Proofs.YtdhiijleafcfcaaW.PrintWords Go.Proofs.YtdhiijleafcfcaaW.PrintLast Go.Proofs.YtdhiijleafcfcaaW.PrintMore
attribute [local go_sem] max2_int min2_int max_two min_two max_three min_three max_four min_four
set_option linter.unusedVariables false
set_option linter.unusedSimpArgs false

/-- The cell of the library's own variable holds a number. -/
def MxC (w : World) : Prop := ∃ m, w.cell? ⟨0, 0, none⟩ = some (.int .i64 m)
theorem mx_below {w w' : World} (h : MxC w) (hb : Below w.heap.size w w') : MxC w' := by
 obtain ⟨m, hm⟩ := h
 exact ⟨m, (hb.cell (p := ⟨0, 0, none⟩) (World.block_lt_of_cell? w _ hm)).trans hm⟩
/-- Does a text, moved on, hold a part? -/
def crP (a0 a1 : ByteArray) (n : Int) : Bool := Lib.contains (strOfNums (chgI (fun _ => n) 0 (bytesOf a0))).data.toList a1.data.toList
def crk (p : Int → Bool) : Nat → Nat → List Int
 | 0, _ => []
 | m + 1, i => if p (i : Int) = true then (i : Int) :: crk p m (i + 1) else crk p m (i + 1)
def puzzles_Crack.f (_ : Nat) (a0 a1 : ByteArray) : Option (List Int × Int) :=
 if 200 < a0.size ∨ 200 < a1.size then some ([], 2) else some (crk (crP a0 a1) 26 0, 0)
theorem puzzles_Crack.mono : ∀ a0 a1 k, LeO (puzzles_Crack.f k a0 a1) (puzzles_Crack.f (k + 1) a0 a1) := fun _ _ _ => LeO.refl _
theorem chgI_size (n : Int) (s : ByteArray) : (strOfNums (chgI (fun _ => n) 0 (bytesOf s))).size = s.size := by rw [strOfNums_size, chgI_length, bytesOf_length]
set_option maxHeartbeats 4000000 in
set_option maxRecDepth 100000 in
theorem puzzles_Crack.calls (k : Nat) (a0 a1 : ByteArray) (r1 : List Int) (r2 : Int) (w : World) (h : puzzles_Crack.f k a0 a1 = some (r1, r2)) (hMx : MxC w) :
  Calls Try.prog 64 #[.string a0, .string a1] w fun e w' => ∃ v0_ : Value, e = .returned (.tuple #[v0_, .int .i64 r2]) ∧ Kd.R (Kd.int .i64) 3 w' w.heap.size (fun _ => True) v0_ r1 ∧ Below w.heap.size w w' := by
 unfold puzzles_Crack.f at h
 by_cases hbig : 200 < a0.size ∨ 200 < a1.size
 ·rw [if_pos hbig] at h
  cases h
  have hm : (200 : Int) < max (a0.size : Int) (a1.size : Int) := by omega
  go_enter Try.func64, Try.ntmps64
  go_wp2
  all_goals (go_ret2; exact ⟨_, rfl, Kd.R_nil _ _ _ _ _, Below.refl _ _⟩)
 ·rw [if_neg hbig] at h
  have h3 := Option.some.inj h
  rw [Prod.mk.injEq] at h3
  obtain ⟨hr1, rfl⟩ := h3
  have HR1 := Aside0.mk hr1
  have H0 := Aside0.mk (show a0.size ≤ 200 by omega)
  have H1 := Aside0.mk (show a1.size ≤ 200 by omega)
  have HMX := Aside0.mk hMx
  have hm : ¬ (200 : Int) < max (a0.size : Int) (a1.size : Int) := by omega
  clear h hr1 hbig hMx
  go_enter Try.func64, Try.ntmps64
  go_wp2
  all_goals (
   go_loopg [4, 13] 27 (fun gg v4 v13 wr => ∃ (i : Nat) (x : List Int), i ≤ 26 ∧ 26 - i < gg ∧ v13 = .int .i64 (i : Int) ∧ x.length ≤ i ∧ Aside0 (x ++ crk (crP a0 a1) (26 - i) i = r1) ∧ Aside0 (Kd.R (Kd.int .i64) 3 wr w.heap.size (fun _ => True) v4 x) ∧ Aside0 (Below w.heap.size w wr))
   case atStart => exact ⟨0, [], by omega, by omega, rfl, by simp, ⟨HR1.out⟩, ⟨Kd.R_nil _ _ _ _ _⟩, ⟨Below.refl _ _⟩⟩
   case round =>
    clear HR1
    obtain ⟨i, x, hi, hg, rfl, hxl, HT, HX, HB⟩ := hrel
    obtain ⟨Ax, cx, ex⟩ := Kd.R_slice HX.out
    subst ex
    by_cases hlt : i < 26
    ·have hilt : (i : Int) < 26 := by omega
     have w1' : IntKind.i64.wrap ((i : Int) + 1) = (i : Int) + 1 := IntWalk.i64_in _ (by omega)
     have hi1 : i + 1 ≤ 26 := by omega
     have hg1 : 26 - (i + 1) < gk - 1 := by omega
     have hg2 : gk - 1 < gk := by omega
     have HCA := Aside0.mk (show ((i + 1 : Nat) : Int) = (i : Int) + 1 by omega)
     have HSH := Aside0.mk (show puzzles_shift.f a0 (i : Int) = some (strOfNums (chgI (fun _ => (i : Int)) 0 (bytesOf a0))) by
      unfold puzzles_shift.f
      rw [if_pos (by have := H0.out; omega)])
     have ht := HT.out
     rw [show 26 - i = (26 - (i + 1)) + 1 by omega, crk] at ht
     obtain ⟨b, hb⟩ : ∃ b, crP a0 a1 (i : Int) = b := ⟨_, rfl⟩
     rw [hb] at ht
     have HBB := Aside0.mk hb
     have HLX := Aside0.mk (show x.length < 17592186044416 by omega)
     have HXL1 := Aside0.mk (show (x ++ [(i : Int)]).length ≤ i + 1 by simp; omega)
     have HXL2 := Aside0.mk (show x.length ≤ i + 1 by omega)
     clear hb HT hxl hi
     cases b with
     | true =>
      rw [if_pos rfl] at ht
      have HN2 := Aside0.mk (show (x ++ [(i : Int)]) ++ crk (crP a0 a1) (26 - (i + 1)) (i + 1) = r1 by rw [List.append_assoc]; exact ht)
      clear ht
      go_wp2_with (first
       | (go_at_call 116; refine Calls.mono (puzzles_shift.calls a0 (i : Int) _ _ HSH.out) ?_; rintro e3 w3 ⟨rfl, hb3⟩; obtain ⟨mx, hmx⟩ := mx_below HMX.out (HB.out.trans (hb3.mono HB.out.size)); have HB3 := Aside0.mk (HB.out.trans (hb3.mono HB.out.size)); have HX3 := Aside0.mk (Kd.R_below HX.out hb3); have HM := Aside0.mk hmx; clear hb3 hmx)
       | (go_at_call 123; refine Calls.mono (Go.Proofs.Try.strings_Contains _ a1 mx _ (by rw [chgI_size]; have := H0.out; omega) HM.out) ?_; rintro e4 w4 ⟨rfl, rfl⟩; have hbb : Lib.contains (strOfNums (chgI (fun _ => (i : Int)) 0 (bytesOf a0))).data.toList a1.data.toList = true := HBB.out)
       | ((with_reducible refine gate_builtin (b := .append) (xs := #[.tmp 21, .tmp 23]) rfl ?_); at_builtin; refine Kd.R_append (Kd.int .i64) (w0 := w) w.heap.size rfl (.tmp 21) (.tmp 23) 22 3 (.int .i64 0) 8 rfl Try.underlying22 info3 rfl (by decide) (by omega) (.slice Ax x.length cx) x (i : Int) [.int .i64 (i : Int)] (fun _ => True) (fun _ => False) rfl rfl ?aP (fun _ hk => hk.elim) ?aF ?aO ?aB ?aS ?aL ?_; (case aP => exact rfl); (case aB => exact HB3.out); (case aF => exact (fun _ _ => trivial)); (case aO => exact HX3.out); (case aS => exact below_size HB3.out); (case aL => have := HLX.out; omega); intro v5 w5 ho hb hg hat; have HX5 := Aside0.mk ho; have HB5 := Aside0.mk hb; clear ho hb hg hat))
      go_roundg (gk - 1)
      case measure => exact hg2
      case rel => exact ⟨i + 1, x ++ [(i : Int)], hi1, hg1, by rw [HCA.out], HXL1.out, HN2, HX5, HB5⟩
     | false =>
      rw [if_neg (by decide)] at ht
      have HN2 := Aside0.mk ht
      clear ht
      go_wp2_with (first
       | (go_at_call 116; refine Calls.mono (puzzles_shift.calls a0 (i : Int) _ _ HSH.out) ?_; rintro e3 w3 ⟨rfl, hb3⟩; obtain ⟨mx, hmx⟩ := mx_below HMX.out (HB.out.trans (hb3.mono HB.out.size)); have HB3 := Aside0.mk (HB.out.trans (hb3.mono HB.out.size)); have HX3 := Aside0.mk (Kd.R_below HX.out hb3); have HM := Aside0.mk hmx; clear hb3 hmx)
       | (go_at_call 123; refine Calls.mono (Go.Proofs.Try.strings_Contains _ a1 mx _ (by rw [chgI_size]; have := H0.out; omega) HM.out) ?_; rintro e4 w4 ⟨rfl, rfl⟩; have hbb : Lib.contains (strOfNums (chgI (fun _ => (i : Int)) 0 (bytesOf a0))).data.toList a1.data.toList = false := HBB.out))
      go_roundg (gk - 1)
      case measure => exact hg2
      case rel => exact ⟨i + 1, x, hi1, hg1, by rw [HCA.out], HXL2.out, HN2, HX3, HB3⟩
    ·have hnlt : ¬ (i : Int) < 26 := by omega
     obtain rfl : i = 26 := by omega
     have hxo := HT.out
     simp only [Nat.sub_self, crk, List.append_nil] at hxo
     subst hxo
     go_wp2
     go_ret2
     exact ⟨_, rfl, HX.out, HB.out⟩)

end Go.Proofs.Ytdhiijleafcfcaa.T
