-- Laid by row.py: the row of the law PuzzlesHung, out of its plain law and its walk.
/- The law PuzzlesHung holds for every input. -/
import Derived.Test.YtdhiijleafcfcaaRows
import Derived.Test.YtdhiijleafcfcaaTf16
import Derived.Test.YtdhiijleafcfcaaPurePuzzlesHung
import Derived.Test.YtdhiijleafcfcaaRo
import Derived.Test.YtdhiijleafcfcaaWSized
import Derived.WalkKit
import Derived.ProofKit
import Derived.OpenShut
import Derived.ShutString
import Derived.ChangeOld
import Derived.Below
import Derived.SizedLaws
namespace Go.Proofs.Ytdhiijleafcfcaa.puzzlesHung
open Go.ChangeShapes Go.WideShapes Go.ChangeAt Go.RowKit
open Go.ChangeMaps (open_string shut_string)
set_option linter.unusedVariables false
theorem own : ownKnob Try.prog.godebug = none := by kernel_rfl
theorem laidOut : laidOutB Try.prog = true := by kernel_rfl
set_option maxHeartbeats 1000000 in
set_option maxRecDepth 100000 in
theorem lifted (os : Os) (started : os.Started) (H : Type) (enc : TypeId × Value → H) :
    ReturnsInHanded {} Try.checked os 16 .any (Rows.puzzlesHungSpec.pre6 enc Try.prog Try.f16 Rows.puzzlesHungRow.domain false) (Rows.puzzlesHungSpec.post enc Try.prog Try.f16 false true false false) := by
  refine returnsInHanded_of_change_sized (C := Try.checked) own started (by kernel_rfl) Try.func16
    (ChangeSpec.witness6 (enc := enc) (C := Try.checked) false ⟨#[], #[.int .i64 0, .slice none 0 0, .agg #[.int .i64 0, .int .i64 0, .int .i64 0, .int .i64 0, .bool false]], []⟩ 8 (by kernel_rfl) (by kernel_rfl) (by kernel_rfl) (by kernel_rfl)) ?_
  intro W base args ds gs before hval0 hW hcnd hsz0 _
  have hsz : (DataW.weightsEach Try.prog (Try.f16.params.toList ++ Rows.puzzlesHungSpec.plain.varTypes Try.prog) (ds ++ gs)).all (· ≤ reachBytes) = true := hsz0
  have hval : ∀ (j : Nat) t v, Try.f16.params[j]? = some t → args[j]? = some v → Value.okWide Try.prog W .any base t v := hval0
  have hW' := hW
  obtain ⟨p, q, hA0, hV, rfl, hfz, hnd⟩ := hW
  have hA : DataW.TrodAll enc Try.prog W 0 (fun _ => true) true Try.f16.params.toList args.toList ds p := hA0
  rw [Try.params16] at hA hval hsz
  obtain ⟨v0, vs0, d0, ds0, p0, q0, hargs, rfl, rfl, h0, r0⟩ := trodAll_cons hA
  obtain ⟨v1, vs1, d1, ds1, p1, q1, rfl, rfl, rfl, h1, r1⟩ := trodAll_cons r0
  obtain ⟨v2, vs2, d2, ds2, p2, q2, rfl, rfl, rfl, h2, r2⟩ := trodAll_cons r1
  obtain ⟨rfl, rfl, rfl⟩ := trodAll_nil r2
  obtain rfl : args = #[v0, v1, v2] := by cases args; simp_all
  obtain ⟨rfl, rfl⟩ := trodVars_none hV
  have k0 := h0
  have lt0 : ∀ x ∈ p0, x.block < W.heap.size := by obtain ⟨m, hm⟩ := k0; exact DataW.trod_lt m _ _ _ hm
  obtain ⟨x0, rfl, _⟩ := open_int Try.underlying3 (hval 0 3 v0 rfl rfl) h0
  have k1 := h1
  have lt1 : ∀ x ∈ p1, x.block < W.heap.size := by obtain ⟨m, hm⟩ := k1; exact DataW.trod_lt m _ _ _ hm
  obtain ⟨a1, len1, cap1, rfl⟩ := okWide_slice Try.underlying69 (hval 1 69 v1 rfl rfl)
  obtain ⟨g1, s1⟩ := h1
  replace s1 : DataW.trod enc Try.prog W 0 (fun _ => true) true g1 69 [_] = some (d1, p1) := s1
  obtain ⟨A_x1, c_x1, l_x1, q_x1, hr_x1, hc_x1, hm_x1⟩ := T.ro_ports Try.underlying69 Try.underlying76 Try.underlying3 Try.underlying4 (by kernel_rfl) (by kernel_rfl) (by kernel_rfl) s1
  injection q_x1 with qa1 qb1 qc1
  subst qa1
  subst qb1
  subst qc1
  have k2 := h2
  have lt2 : ∀ x ∈ p2, x.block < W.heap.size := by obtain ⟨m, hm⟩ := k2; exact DataW.trod_lt m _ _ _ hm
  obtain ⟨u2_0, u2_1, u2_2, u2_3, u2_4, y2_0, y2_1, y2_2, y2_3, y2_4, n2, rfl, t2_0, t2_1, t2_2, t2_3, t2_4⟩ := T.ro_five Try.underlying76 (by kernel_rfl) (by kernel_rfl) (hval 2 76 v2 rfl rfl) h2
  obtain ⟨x2_0, e_x2_0, _, w_x2_0⟩ := DataW.trod_int Try.underlying3 t2_0
  simp only [List.cons.injEq, and_true] at e_x2_0
  subst e_x2_0
  obtain ⟨x2_1, e_x2_1, _, w_x2_1⟩ := DataW.trod_int Try.underlying3 t2_1
  simp only [List.cons.injEq, and_true] at e_x2_1
  subst e_x2_1
  obtain ⟨x2_2, e_x2_2, _, w_x2_2⟩ := DataW.trod_int Try.underlying3 t2_2
  simp only [List.cons.injEq, and_true] at e_x2_2
  subst e_x2_2
  obtain ⟨x2_3, e_x2_3, _, w_x2_3⟩ := DataW.trod_int Try.underlying3 t2_3
  simp only [List.cons.injEq, and_true] at e_x2_3
  subst e_x2_3
  obtain ⟨x2_4, e_x2_4, _⟩ := DataW.trod_bool Try.underlying4 t2_4
  simp only [List.cons.injEq, and_true] at e_x2_4
  subst e_x2_4
  clear hA0 hval0 hsz0 hsz
  obtain ⟨k, hk⟩ := Pure.PuzzlesHung x0 l_x1 x2_0 x2_1 x2_2 x2_3 x2_4 
  refine (T.padlocklaw03_PuzzlesHung.calls k x0 a1 cap1 l_x1 x2_0 x2_1 x2_2 x2_3 x2_4 true W hr_x1 hc_x1 hk).mono fun e W' ⟨he, bel⟩ => ?_
  subst he
  exact ⟨_, rfl, _, _, _, [], _, [], hW', trodAll_mk1 (shut_bool Try.underlying4 _), (trodAll_cons_mk (Below.trod laidOut (by kernel_rfl) (of_decide_eq_true (by kernel_rfl)) k0 bel lt0) (trodAll_cons_mk (Below.trod laidOut (by kernel_rfl) (of_decide_eq_true (by kernel_rfl)) k1 bel lt1) (trodAll_cons_mk (Below.trod laidOut (by kernel_rfl) (of_decide_eq_true (by kernel_rfl)) k2 bel lt2) trodAll_mk0))), rfl, bel.frame _, fun h => by cases h⟩
theorem named_ : Try.prog.funcNamed Rows.puzzlesHungRow.func = some 16 := by kernel_rfl
theorem and2 {a b : Bool} (h : a = true) (k : b = true) : (a && b) = true := by rw [h, k]; rfl
set_option maxHeartbeats 1000000 in
theorem facts_ : joinedFacts Try.prog 16 Try.f16 Rows.puzzlesHungSpec Rows.puzzlesHungRow = true := by
  unfold joinedFacts
  iterate 18 refine and2 ?_ (by as_aux_lemma => kernel_rfl)
  as_aux_lemma => kernel_rfl
theorem wrap_ : Try.f16.isWrapper Try.prog Rows.puzzlesHungRow.wrapper Rows.puzzlesHungRow.mainSum := by unfold Func.isWrapper; first | (rw [if_pos (by decide +kernel)]; kernel_rfl) | (rw [if_neg (by decide +kernel)]; exact ⟨rfl, rfl⟩)
theorem inst_ : Try.f16.isInstance Try.prog Rows.puzzlesHungRow.origin Rows.puzzlesHungRow.targs := of_decide_eq_true (by kernel_rfl)
theorem over : Rows.puzzlesHungRow.holds Try.pinned (OpenSpec.ofChange Rows.puzzlesHungSpec) :=
  OpenClaim.holds_of_wide 16 Try.f16 rfl rfl rfl rfl rfl rfl rfl ⟨rfl, rfl, rfl, rfl, rfl⟩ rfl rfl rfl rfl rfl named_ Try.func16 facts_
    inst_ wrap_ (fun os started H enc _ => lifted os started H enc)
theorem proved : Rows.PuzzlesHungSaid := over
#print axioms proved
end Go.Proofs.Ytdhiijleafcfcaa.puzzlesHung
namespace Go.Proofs.Ytdhiijleafcfcaa
/-- The row, under a short name, for the claim. -/
theorem puzzlesHung_holds : Rows.PuzzlesHungSaid := puzzlesHung.proved
end Go.Proofs.Ytdhiijleafcfcaa
