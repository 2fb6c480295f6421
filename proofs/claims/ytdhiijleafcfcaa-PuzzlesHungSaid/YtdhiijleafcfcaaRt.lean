/- A region that draws its order, inside a round of a range over a function. -/
import Derived.Test.YtdhiijleafcfcaaT0
import Derived.Test.YtdhiijleafcfcaaRg
import Derived.StillTailTactics
import Derived.RegionTactic
namespace Go.Proofs.Ytdhiijleafcfcaa.T
open Go.RowKit Go.Proofs.YtdhiijleafcfcaaW.PrintWords Go.Proofs.YtdhiijleafcfcaaW.PrintLast Go.Proofs.YtdhiijleafcfcaaW.PrintMore
attribute [local go_sem] max2_int min2_int max_two min_two max_three min_three max_four min_four
set_option linter.unusedVariables false
set_option linter.unusedSimpArgs false

theorem oper_in {lp m : Nat} {P : Program} {o : Oper} {a : Act} {w : World} {K : Act → World → Prop} {Q : Exit → Act → World → Prop} (hd : ∀ c, o.op ≠ .defer c) (h : o.wp P a w K Q) : o.wpIn (Fence.wide.inRound lp) m P a w K Q := by
 unfold Oper.wpIn Oper.wp at *
 refine ⟨fun f _ => trivial, ?_⟩
 rw [show (Fence.wide.inRound lp).round = some lp from rfl, Oper.semAt_some lp a.eval o hd]
 cases hx : (execOp a.eval o).run P w with
 | ok x w' =>
  rw [hx] at h
  cases x with
  | value v => exact h
  | skip => exact h
  | defer d => exact h
  | enter f args => exact ⟨(fun h0 => by cases h0), CallsIn.inRound lp (callsIn_wide.2 h)⟩
  | row r args => exact ⟨(fun h0 => by cases h0), fun c cs _ => by obtain ⟨v, w2, hr, hs⟩ := h c cs; exact ⟨v, w2, hr, stepsIn_wide.2 hs⟩⟩
  | round l f tmps assign body => exact h.elim
  | _ => exact h
 | halt x w' =>
  rw [hx] at h
  cases x <;> exact h
theorem wpAny_in {lp m : Nat} {P : Program} {md : Region.Mode} {ops : Array Oper} {Q : Exit → Act → World → Prop} (hLO : ¬ LetsOut Q) (hd : ∀ (i : Nat) (o : Oper), ops[i]? = some o → ∀ c, o.op ≠ .defer c) :
  ∀ (fuel : Nat) (listed : Array Bool) (a : Act) (w : World), wpAny P md ops Q fuel listed a w → wpAnyIn (Fence.wide.inRound lp) m P md ops Q fuel listed a w
 | 0, _, _, _, h => h
 | fuel + 1, listed, a, w, h => by
  refine ⟨h.1, fun i hi => ?_⟩
  have h2 := h.2 i hi
  unfold wpOp at h2
  unfold wpOpIn
  cases ho : ops[i]? with
  | none =>
   rw [ho] at h2
   exact wpAny_in hLO hd fuel _ _ _ h2
  | some o =>
   rw [ho] at h2
   simp only at h2 ⊢
   split
   ·rename_i hw
    rw [if_pos hw] at h2
    rcases h2 with h2 | h2
    ·exact Oper.wpIn_mono (fun a w => wpAny_in hLO hd fuel _ a w) (oper_in (hd i o ho) h2)
    ·exact absurd h2.2 hLO
   ·rename_i hw
    rw [if_neg hw] at h2
    exact ⟨fun f _ => trivial, wpAny_in hLO hd fuel _ _ _ h2⟩
def noDef (o : Oper) : Bool := match o.op with
 | .defer _ => false
 | _ => true
theorem noDef_all {ops : Array Oper} (h : ops.all noDef = true) (i : Nat) (o : Oper) (ho : ops[i]? = some o) (c : Call) : o.op ≠ .defer c := fun e => by
 obtain ⟨hi, rfl⟩ := Array.getElem?_eq_some_iff.1 ho
 have := Array.all_eq_true.1 h i hi
 unfold noDef at this
 rw [e] at this
 cases this
/-- A region that draws, inside a round: as outside. -/
theorem wpIn_region_round {lp m : Nat} {P : Program} {ops : Array Oper} {Q : Exit → Act → World → Prop} {id : Nat} {a : Act} {w : World} (hm : P.follows .mixedOrders = true) (hLO : ¬ LetsOut Q) (hd : ops.all noDef = true)
  (h : wpAny P .any ops Q ops.size (Array.replicate ops.size false) a w.drew) : (Code.region id ops true).wpIn (Fence.wide.inRound lp) m P Q a w :=
 wpIn_region_any hm (wpAny_in hLO (noDef_all hd) _ _ _ _ h)
/-- From a point on the order is forced. -/
theorem wpAny_seq {P : Program} {md : Region.Mode} {ops : List Oper} {Q : Exit → Act → World → Prop} {listed : Array Bool} {a : Act} {w : World} (k fuel : Nat) (hf : (ops.drop k).length = fuel) (hB : Region.seqB md ops.toArray (ops.drop k).length k listed = true) (h : wpList P ops.toArray Q (ops.drop k) a w) :
  wpAny P md ops.toArray Q fuel listed a w := by
 subst hf
 exact wpAny_of_seq (ops.drop k) k listed a w (fun j => by simp [List.getElem?_drop]) hB h

end Go.Proofs.Ytdhiijleafcfcaa.T
