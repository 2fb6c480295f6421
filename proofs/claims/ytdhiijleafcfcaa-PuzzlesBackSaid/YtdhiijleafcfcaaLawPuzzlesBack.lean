-- Laid by row.py: the row of the law PuzzlesBack, out of its plain law and its walk.
/- The law PuzzlesBack holds for every input. -/
import Derived.Test.YtdhiijleafcfcaaRows
import Derived.Test.YtdhiijleafcfcaaTf18
import Derived.Test.YtdhiijleafcfcaaPurePuzzlesBack
import Derived.Test.YtdhiijleafcfcaaRo
import Derived.Test.YtdhiijleafcfcaaWSized
import Derived.WalkKit
import Derived.ProofKit
import Derived.OpenShut
import Derived.ShutString
import Derived.ChangeOld
import Derived.Below
import Derived.SizedLaws
import Derived.HandedShaped
import Derived.Shelf.Vars
namespace Go.Proofs.Ytdhiijleafcfcaa.puzzlesBack
open Go.ChangeShapes Go.WideShapes Go.ChangeAt Go.RowKit
open Go.ChangeMaps (open_string shut_string)
set_option linter.unusedVariables false
theorem own : ownKnob Try.prog.godebug = none := by kernel_rfl
theorem laidOut : laidOutB Try.prog = true := by kernel_rfl
set_option maxHeartbeats 1000000 in
set_option maxRecDepth 100000 in
theorem lifted (os : Os) (started : os.Started) (H : Type) (enc : TypeId × Value → H) :
    ReturnsInHanded {} Try.checked os 18 .any (Rows.puzzlesBackSpec.pre6 enc Try.prog Try.f18 Rows.puzzlesBackRow.domain false) (Rows.puzzlesBackSpec.post enc Try.prog Try.f18 false true false false) := by
  refine returnsInHanded_of_change_shaped (C := Try.checked) own started (by kernel_rfl) Try.func18
    (ChangeSpec.witness6 (enc := enc) (C := Try.checked) false ⟨#[], #[.string ByteArray.empty, .agg #[.int .i64 0, .string ByteArray.empty, .bool false], .string ByteArray.empty], []⟩ 8 (by kernel_rfl) (by kernel_rfl) (by kernel_rfl) (by kernel_rfl)) ?_
  intro W base args ds gs before hval0 hW hcnd hsz0 hsh _
  have hMx : T.MxC W := Go.Proofs.cell_of_shapedOpen_int (zero := #[.int .i64 0]) (t := 3) hsh (of_decide_eq_true (by kernel_rfl)) (by kernel_rfl) rfl (by kernel_rfl) (by kernel_rfl) Try.underlying3
  have hsz : (DataW.weightsEach Try.prog (Try.f18.params.toList ++ Rows.puzzlesBackSpec.plain.varTypes Try.prog) (ds ++ gs)).all (· ≤ reachBytes) = true := hsz0
  have hval : ∀ (j : Nat) t v, Try.f18.params[j]? = some t → args[j]? = some v → Value.okWide Try.prog W .any base t v := hval0
  have hW' := hW
  obtain ⟨p, q, hA0, hV, rfl, hfz, hnd⟩ := hW
  have hA : DataW.TrodAll enc Try.prog W 0 (fun _ => true) true Try.f18.params.toList args.toList ds p := hA0
  rw [Try.params18] at hA hval hsz
  obtain ⟨v0, vs0, d0, ds0, p0, q0, hargs, rfl, rfl, h0, r0⟩ := trodAll_cons hA
  obtain ⟨v1, vs1, d1, ds1, p1, q1, rfl, rfl, rfl, h1, r1⟩ := trodAll_cons r0
  obtain ⟨v2, vs2, d2, ds2, p2, q2, rfl, rfl, rfl, h2, r2⟩ := trodAll_cons r1
  obtain ⟨rfl, rfl, rfl⟩ := trodAll_nil r2
  obtain rfl : args = #[v0, v1, v2] := by cases args; simp_all
  obtain ⟨rfl, rfl⟩ := trodVars_none hV
  have k0 := h0
  have lt0 : ∀ x ∈ p0, x.block < W.heap.size := by obtain ⟨m, hm⟩ := k0; exact DataW.trod_lt m _ _ _ hm
  obtain ⟨a0, rfl, rfl, rfl, y0⟩ := open_string Try.underlying9 (hval 0 9 v0 rfl rfl) h0
  have w0 : a0.size ≤ 140737488351232 := by
    have z := sized_string hsz (j := 0) (t := 9) rfl rfl
    rw [Array.length_toList] at z
    exact z
  have k1 := h1
  have lt1 : ∀ x ∈ p1, x.block < W.heap.size := by obtain ⟨m, hm⟩ := k1; exact DataW.trod_lt m _ _ _ hm
  obtain ⟨u1_0, u1_1, u1_2, y1_0, y1_1, y1_2, n1, rfl, _, _, t1_0, t1_1, t1_2⟩ := Joins.open_agg3 Try.underlying81 (by kernel_rfl) (by kernel_rfl) (hval 1 81 v1 rfl rfl) h1
  obtain ⟨x1_0, e_x1_0, _, w_x1_0⟩ := DataW.trod_int Try.underlying3 t1_0
  simp only [List.cons.injEq, and_true] at e_x1_0
  subst e_x1_0
  obtain ⟨x1_1, e_x1_1, _, w_x1_1⟩ := DataW.trod_string Try.underlying9 t1_1
  simp only [List.cons.injEq, and_true] at e_x1_1
  subst e_x1_1
  obtain ⟨x1_2, e_x1_2, _⟩ := DataW.trod_bool Try.underlying4 t1_2
  simp only [List.cons.injEq, and_true] at e_x1_2
  subst e_x1_2
  have k2 := h2
  have lt2 : ∀ x ∈ p2, x.block < W.heap.size := by obtain ⟨m, hm⟩ := k2; exact DataW.trod_lt m _ _ _ hm
  obtain ⟨a2, rfl, rfl, rfl, y2⟩ := open_string Try.underlying9 (hval 2 9 v2 rfl rfl) h2
  have w2 : a2.size ≤ 140737488351232 := by
    have z := sized_string hsz (j := 2) (t := 9) rfl rfl
    rw [Array.length_toList] at z
    exact z
  clear hA0 hval0 hsz0 hsz
  obtain ⟨k, hk⟩ := Pure.PuzzlesBack a0 x1_0 x1_1 x1_2 a2 w0 w_x1_0 w_x1_1 w2
  refine (T.padlocklaw03_PuzzlesBack.calls k a0 x1_0 x1_1 x1_2 a2 true W  hMx hk).mono fun e W' ⟨he, bel⟩ => ?_
  subst he
  exact ⟨_, rfl, _, _, _, [], _, [], hW', trodAll_mk1 (shut_bool Try.underlying4 _), (trodAll_cons_mk (Below.trod laidOut (by kernel_rfl) (of_decide_eq_true (by kernel_rfl)) k0 bel lt0) (trodAll_cons_mk (Below.trod laidOut (by kernel_rfl) (of_decide_eq_true (by kernel_rfl)) k1 bel lt1) (trodAll_cons_mk (Below.trod laidOut (by kernel_rfl) (of_decide_eq_true (by kernel_rfl)) k2 bel lt2) trodAll_mk0))), rfl, bel.frame _, fun h => by cases h⟩
theorem named_ : Try.prog.funcNamed Rows.puzzlesBackRow.func = some 18 := by kernel_rfl
theorem and2 {a b : Bool} (h : a = true) (k : b = true) : (a && b) = true := by rw [h, k]; rfl
set_option maxHeartbeats 1000000 in
theorem facts_ : joinedFacts Try.prog 18 Try.f18 Rows.puzzlesBackSpec Rows.puzzlesBackRow = true := by
  unfold joinedFacts
  iterate 18 refine and2 ?_ (by as_aux_lemma => kernel_rfl)
  as_aux_lemma => kernel_rfl
theorem wrap_ : Try.f18.isWrapper Try.prog Rows.puzzlesBackRow.wrapper Rows.puzzlesBackRow.mainSum := by unfold Func.isWrapper; first | (rw [if_pos (by decide +kernel)]; kernel_rfl) | (rw [if_neg (by decide +kernel)]; exact ⟨rfl, rfl⟩)
theorem inst_ : Try.f18.isInstance Try.prog Rows.puzzlesBackRow.origin Rows.puzzlesBackRow.targs := of_decide_eq_true (by kernel_rfl)
theorem over : Rows.puzzlesBackRow.holds Try.pinned (OpenSpec.ofChange Rows.puzzlesBackSpec) :=
  OpenClaim.holds_of_wide 18 Try.f18 rfl rfl rfl rfl rfl rfl rfl ⟨rfl, rfl, rfl, rfl, rfl⟩ rfl rfl rfl rfl rfl named_ Try.func18 facts_
    inst_ wrap_ (fun os started H enc _ => lifted os started H enc)
theorem proved : Rows.PuzzlesBackSaid := over
#print axioms proved
end Go.Proofs.Ytdhiijleafcfcaa.puzzlesBack
namespace Go.Proofs.Ytdhiijleafcfcaa
/-- The row, under a short name, for the claim. -/
theorem puzzlesBack_holds : Rows.PuzzlesBackSaid := puzzlesBack.proved
end Go.Proofs.Ytdhiijleafcfcaa
