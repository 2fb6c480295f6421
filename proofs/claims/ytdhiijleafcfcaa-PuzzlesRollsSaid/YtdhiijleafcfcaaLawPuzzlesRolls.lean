-- Laid by row.py: the row of the law PuzzlesRolls, out of its plain law and its walk.
/- The law PuzzlesRolls holds for every input. -/
import Derived.Test.YtdhiijleafcfcaaRows
import Derived.Test.YtdhiijleafcfcaaTf7
import Derived.Test.YtdhiijleafcfcaaPurePuzzlesRolls
import Derived.Test.YtdhiijleafcfcaaRo
import Derived.Test.YtdhiijleafcfcaaWSized
import Derived.WalkKit
import Derived.ProofKit
import Derived.OpenShut
import Derived.ShutString
import Derived.ChangeOld
import Derived.Below
import Derived.SizedLaws
namespace Go.Proofs.Ytdhiijleafcfcaa.puzzlesRolls
open Go.ChangeShapes Go.WideShapes Go.ChangeAt Go.RowKit
open Go.ChangeMaps (open_string shut_string)
set_option linter.unusedVariables false
theorem own : ownKnob Try.prog.godebug = none := by kernel_rfl
theorem laidOut : laidOutB Try.prog = true := by kernel_rfl
set_option maxHeartbeats 1000000 in
set_option maxRecDepth 100000 in
theorem lifted (os : Os) (started : os.Started) (H : Type) (enc : TypeId × Value → H) :
    ReturnsInHanded {} Try.checked os 7 .any (Rows.puzzlesRollsSpec.pre6 enc Try.prog Try.f7 Rows.puzzlesRollsRow.domain false) (Rows.puzzlesRollsSpec.post enc Try.prog Try.f7 false true false false) := by
  refine returnsInHanded_of_change_sized (C := Try.checked) own started (by kernel_rfl) Try.func7
    (ChangeSpec.witness6 (enc := enc) (C := Try.checked) false ⟨#[], #[.agg #[.int .i64 0, .int .i64 0, .slice none 0 0, .int .i64 0, .int .i64 0], .slice none 0 0], []⟩ 8 (by kernel_rfl) (by kernel_rfl) (by kernel_rfl) (by kernel_rfl)) ?_
  intro W base args ds gs before hval0 hW hcnd hsz0 _
  have hsz : (DataW.weightsEach Try.prog (Try.f7.params.toList ++ Rows.puzzlesRollsSpec.plain.varTypes Try.prog) (ds ++ gs)).all (· ≤ reachBytes) = true := hsz0
  have hval : ∀ (j : Nat) t v, Try.f7.params[j]? = some t → args[j]? = some v → Value.okWide Try.prog W .any base t v := hval0
  have hW' := hW
  obtain ⟨p, q, hA0, hV, rfl, hfz, hnd⟩ := hW
  have hA : DataW.TrodAll enc Try.prog W 0 (fun _ => true) true Try.f7.params.toList args.toList ds p := hA0
  rw [Try.params7] at hA hval hsz
  obtain ⟨v0, vs0, d0, ds0, p0, q0, hargs, rfl, rfl, h0, r0⟩ := trodAll_cons hA
  obtain ⟨v1, vs1, d1, ds1, p1, q1, rfl, rfl, rfl, h1, r1⟩ := trodAll_cons r0
  obtain ⟨rfl, rfl, rfl⟩ := trodAll_nil r1
  obtain rfl : args = #[v0, v1] := by cases args; simp_all
  obtain ⟨rfl, rfl⟩ := trodVars_none hV
  have k0 := h0
  have lt0 : ∀ x ∈ p0, x.block < W.heap.size := by obtain ⟨m, hm⟩ := k0; exact DataW.trod_lt m _ _ _ hm
  obtain ⟨u0_0, u0_1, u0_2, u0_3, u0_4, y0_0, y0_1, y0_2, y0_3, y0_4, n0, rfl, t0_0, t0_1, t0_2, t0_3, t0_4⟩ := T.ro_five Try.underlying39 (by kernel_rfl) (by kernel_rfl) (hval 0 39 v0 rfl rfl) h0
  obtain ⟨x0_0, e_x0_0, _, w_x0_0⟩ := DataW.trod_int Try.underlying3 t0_0
  simp only [List.cons.injEq, and_true] at e_x0_0
  subst e_x0_0
  obtain ⟨x0_1, e_x0_1, _, w_x0_1⟩ := DataW.trod_int Try.underlying3 t0_1
  simp only [List.cons.injEq, and_true] at e_x0_1
  subst e_x0_1
  obtain ⟨A_x0_2, c_x0_2, l_x0_2, rfl, hr_x0_2, hc_x0_2, hm_x0_2⟩ := T.ro_bools Try.underlying37 Try.underlying4 (by kernel_rfl) t0_2
  obtain ⟨x0_3, e_x0_3, _, w_x0_3⟩ := DataW.trod_int Try.underlying3 t0_3
  simp only [List.cons.injEq, and_true] at e_x0_3
  subst e_x0_3
  obtain ⟨x0_4, e_x0_4, _, w_x0_4⟩ := DataW.trod_int Try.underlying3 t0_4
  simp only [List.cons.injEq, and_true] at e_x0_4
  subst e_x0_4
  have k1 := h1
  have lt1 : ∀ x ∈ p1, x.block < W.heap.size := by obtain ⟨m, hm⟩ := k1; exact DataW.trod_lt m _ _ _ hm
  obtain ⟨a1, len1, cap1, rfl⟩ := okWide_slice Try.underlying22 (hval 1 22 v1 rfl rfl)
  have y1 : len1 * 8 ≤ 140737488351232 := Go.Proofs.YtdhiijleafcfcaaW.PrintWords.sized_ints hsz (j := 1) (t := 22) rfl rfl Try.underlying22 Try.underlying3 (by kernel_rfl) (by kernel_rfl) h1
  obtain ⟨g1, s1⟩ := h1
  replace s1 : DataW.trod enc Try.prog W 0 (fun _ => true) true g1 22 [_] = some (d1, p1) := s1
  obtain ⟨A_x1, c_x1, l_x1, q_x1, hr_x1, hc_x1, hm_x1, w_x1⟩ := T.ro_ints Try.underlying22 Try.underlying3 (by kernel_rfl) s1
  injection q_x1 with qa1 qb1 qc1
  subst qa1
  subst qb1
  subst qc1
  clear hA0 hval0 hsz0 hsz
  obtain ⟨k, hk⟩ := Pure.PuzzlesRolls x0_0 x0_1 l_x0_2 x0_3 x0_4 l_x1 w_x0_0 w_x0_1 hm_x0_2 w_x0_3 w_x0_4 hm_x1 w_x1 y1
  refine (T.padlocklaw03_PuzzlesRolls.calls k x0_0 x0_1 A_x0_2 c_x0_2 l_x0_2 x0_3 x0_4 a1 cap1 l_x1 true W hr_x0_2 hc_x0_2 hr_x1 hc_x1 hk).mono fun e W' ⟨he, bel⟩ => ?_
  subst he
  exact ⟨_, rfl, _, _, _, [], _, [], hW', trodAll_mk1 (shut_bool Try.underlying4 _), (trodAll_cons_mk (Below.trod laidOut (by kernel_rfl) (of_decide_eq_true (by kernel_rfl)) k0 bel lt0) (trodAll_cons_mk (Below.trod laidOut (by kernel_rfl) (of_decide_eq_true (by kernel_rfl)) k1 bel lt1) trodAll_mk0)), rfl, bel.frame _, fun h => by cases h⟩
theorem named_ : Try.prog.funcNamed Rows.puzzlesRollsRow.func = some 7 := by kernel_rfl
theorem and2 {a b : Bool} (h : a = true) (k : b = true) : (a && b) = true := by rw [h, k]; rfl
set_option maxHeartbeats 1000000 in
theorem facts_ : joinedFacts Try.prog 7 Try.f7 Rows.puzzlesRollsSpec Rows.puzzlesRollsRow = true := by
  unfold joinedFacts
  iterate 18 refine and2 ?_ (by as_aux_lemma => kernel_rfl)
  as_aux_lemma => kernel_rfl
theorem wrap_ : Try.f7.isWrapper Try.prog Rows.puzzlesRollsRow.wrapper Rows.puzzlesRollsRow.mainSum := by unfold Func.isWrapper; first | (rw [if_pos (by decide +kernel)]; kernel_rfl) | (rw [if_neg (by decide +kernel)]; exact ⟨rfl, rfl⟩)
theorem inst_ : Try.f7.isInstance Try.prog Rows.puzzlesRollsRow.origin Rows.puzzlesRollsRow.targs := of_decide_eq_true (by kernel_rfl)
theorem over : Rows.puzzlesRollsRow.holds Try.pinned (OpenSpec.ofChange Rows.puzzlesRollsSpec) :=
  OpenClaim.holds_of_wide 7 Try.f7 rfl rfl rfl rfl rfl rfl rfl ⟨rfl, rfl, rfl, rfl, rfl⟩ rfl rfl rfl rfl rfl named_ Try.func7 facts_
    inst_ wrap_ (fun os started H enc _ => lifted os started H enc)
theorem proved : Rows.PuzzlesRollsSaid := over
#print axioms proved
end Go.Proofs.Ytdhiijleafcfcaa.puzzlesRolls
namespace Go.Proofs.Ytdhiijleafcfcaa
/-- The row, under a short name, for the claim. -/
theorem puzzlesRolls_holds : Rows.PuzzlesRollsSaid := puzzlesRolls.proved
end Go.Proofs.Ytdhiijleafcfcaa
