/- A map from cells to lists of moves that the call itself has made. -/
import Derived.Test.YtdhiijleafcfcaaT0
import Derived.Test.YtdhiijleafcfcaaCl
import Derived.Test.YtdhiijleafcfcaaMz
import Derived.Maps.Own
import Derived.Maps.OwnRows
namespace Go.Proofs.Ytdhiijleafcfcaa.T
open Go.RowKit Go.Proofs.YtdhiijleafcfcaaW.PrintWords Go.Proofs.YtdhiijleafcfcaaW.PrintLast Go.Proofs.YtdhiijleafcfcaaW.PrintMore
attribute [local go_sem] max2_int min2_int max_two min_two max_three min_three max_four min_four
set_option linter.unusedVariables false
set_option linter.unusedSimpArgs false

open Mz
open Go.ChangeMaps Go.MapKept
open Go.Maps (Keyed int_keyed)
theorem mlaw : Keyed Try.prog 3 := int_keyed Try.underlying3
theorem mzero (w : World) : (zeroValue 22).run Try.prog w = .ok (.slice none 0 0) w := by kernel_rfl
theorem mkey (c : Int) (h : (Lit.int .i64 c).wf = true) : keyOf Try.prog 3 (.int .i64 c) = some (.int .i64 c) := Go.Maps.keyOf_int_mk Try.underlying3 h
/-- The entries of the map are the search's. -/
structure EsIs (V : World) (base : Nat) (ok : Nat → Prop) (es : List MapEntry) (L : List En) : Prop where
 len : es.length = L.length
 at_ : ∀ (j : Nat) (x : MapEntry) (e : En), es[j]? = some x → L[j]? = some e → x.key = .int .i64 e.1 ∧ (Lit.int .i64 e.1).wf = true ∧ Kd.R (Kd.int .i64) 3 V base ok x.val e.2
def MapIs (V : World) (base : Nat) (ok : Nat → Prop) (B : Nat) (L : List En) : Prop := ∃ es clk, V.heap[B]? = some (.map es clk) ∧ base ≤ B ∧ es.size < 10000 ∧ EsIs V base ok es.toList L
section
variable {V V' : World} {base : Nat} {ok ok' : Nat → Prop} {B : Nat} {L : List En}
theorem EsIs.imp {es : List MapEntry} (h : EsIs V base ok es L) (hR : ∀ v xs, Kd.R (Kd.int .i64) 3 V base ok v xs → Kd.R (Kd.int .i64) 3 V' base ok' v xs) : EsIs V' base ok' es L :=
 ⟨h.len, fun j x e h1 h2 => by obtain ⟨a, b, c⟩ := h.at_ j x e h1 h2; exact ⟨a, b, hR _ _ c⟩⟩
theorem EsIs.keys {es : List MapEntry} (h : EsIs V base ok es L) : ∀ x ∈ es, ∃ l, keyOf Try.prog 3 x.key = some l := by
 intro x hx
 obtain ⟨j, hj, rfl⟩ := List.getElem_of_mem hx
 obtain ⟨a, b, _⟩ := h.at_ j _ _ (List.getElem?_eq_getElem hj) (List.getElem?_eq_getElem (by rw [← h.len]; exact hj))
 exact ⟨_, by rw [a]; exact mkey _ b⟩
theorem MapIs.below (h : MapIs V base ok B L) (hb : Below V.heap.size V V') : MapIs V' base ok B L := by
 obtain ⟨es, clk, h1, h2, h3, h4⟩ := h
 exact ⟨es, clk, (hb.block _ (blk_lt h1)).trans h1, h2, h3, h4.imp fun v xs hR => Kd.R_below hR hb⟩
theorem MapIs.drewN (h : MapIs V base ok B L) (n : Nat) : MapIs (V.drewN n) base ok B L := by
 obtain ⟨es, clk, h1, h2, h3, h4⟩ := h
 exact ⟨es, clk, h1, h2, h3, h4.imp fun v xs hR => Kd.R_drewN hR n⟩
/-- Another row grows. -/
theorem MapIs.grown {row row' : Option Nat} (h : MapIs V base (fun k => some k ≠ row) B L) (hg : V.grownBy V' row) (hB : some B ≠ row) (hr : row' = row ∨ ∃ b, row' = some b ∧ V.heap.size ≤ b) : MapIs V' base (fun k => some k ≠ row') B L := by
 obtain ⟨es, clk, h1, h2, h3, h4⟩ := h
 refine ⟨es, clk, (hg.block _ (blk_lt h1) hB).trans h1, h2, h3, h4.imp fun v xs hR => ?_⟩
 refine Kd.R_mono (Kd.R_grown (Kd.R_bound hR) hg (fun k hk => hk.1)) (fun k hk => ?_)
 rcases hr with rfl | ⟨b, rfl, hb⟩
 ·exact hk.1
 ·have := hk.2.2.1
  intro e
  cases e
  omega
theorem ma_find (h : MapIs V base ok B L) (hap : L.Pairwise fun a b => a.1 ≠ b.1) (c : Int) (hc : (Lit.int .i64 c).wf = true) (cm : Bool) :
  ((Instr.lookup 105 (.map (some B)) (.int .i64 c) cm).run Try.prog V = .ok (if cm then .tuple #[.slice none 0 0, .bool false] else .slice none 0 0) V ∧ ∀ e ∈ L, e.1 ≠ c) ∨
  ∃ e v, e ∈ L ∧ e.1 = c ∧ (Instr.lookup 105 (.map (some B)) (.int .i64 c) cm).run Try.prog V = .ok (if cm then .tuple #[v, .bool true] else v) V ∧ Kd.R (Kd.int .i64) 3 V base ok v e.2 := by
 obtain ⟨es, clk, h1, h2, h3, h4⟩ := h
 have ht := Try.underlying105
 rcases mlaw.find V (mkey c hc) es.toList h4.keys with ⟨k1, k2⟩ | ⟨j, x, k1, k2, k3⟩
 ·refine .inl ⟨by simp [Instr.lookup, run_underlying ht, MapKept.run_getObj_map h1, mlaw.check V _ (mkey c hc), k1, mzero, Result.andThen], fun e he hce => ?_⟩
  obtain ⟨j, hj, rfl⟩ := List.getElem_of_mem he
  have hj' : j < es.toList.length := by rw [h4.len]; exact hj
  obtain ⟨a, _, _⟩ := h4.at_ j _ _ (List.getElem?_eq_getElem hj') (List.getElem?_eq_getElem hj)
  exact k2 _ (List.getElem_mem hj') (by rw [a, hce])
 ·have hj : j < es.toList.length := (List.getElem?_eq_some_iff.1 k2).1
  have hjL : j < L.length := by rw [← h4.len]; exact hj
  obtain ⟨a, _, r⟩ := h4.at_ j x _ k2 (List.getElem?_eq_getElem hjL)
  refine .inr ⟨L[j], x.val, List.getElem_mem hjL, ?_, by simp [Instr.lookup, run_underlying ht, MapKept.run_getObj_map h1, mlaw.check V _ (mkey c hc), k1, Result.andThen], r⟩
  rw [k3] at a
  cases a
  rfl
/-- A new cell is stored. -/
theorem ma_store (h : MapIs V base ok B L) (c : Int) (hc : (Lit.int .i64 c).wf = true) (hno : ∀ e ∈ L, e.1 ≠ c) (hsz : L.length < 9000) (v : Value) (xs : List Int) (hv : Kd.R (Kd.int .i64) 3 V base ok v xs) (b0 : Nat) (hb0 : b0 ≤ B) :
  ∃ V', (Instr.mapUpdate 105 (.map (some B)) (.int .i64 c) v).run Try.prog V = .ok () V' ∧ MapIs V' base ok B (L ++ [(c, xs)]) ∧ V.grownBy V' (some B) := by
 obtain ⟨es, clk, h1, h2, h3, h4⟩ := h
 have ht := Try.underlying105
 have hk : ∀ x ∈ es.toList, x.key ≠ .int .i64 c := by
  intro x hx e
  obtain ⟨j, hj, rfl⟩ := List.getElem_of_mem hx
  have hjL : j < L.length := by rw [← h4.len]; exact hj
  obtain ⟨a, _, _⟩ := h4.at_ j _ _ (List.getElem?_eq_getElem hj) (List.getElem?_eq_getElem hjL)
  rw [e] at a
  cases a
  exact hno _ (List.getElem_mem hjL) rfl
 have hfind : (Instr.findKey 3 (.int .i64 c) es.toList).run Try.prog V = .ok none V := by
  rcases mlaw.find V (mkey c hc) es.toList h4.keys with ⟨k1, _⟩ | ⟨j, x, _, k2, k3⟩
  ·exact k1
  ·exact absurd k3 (hk x (List.mem_of_getElem? k2))
 have hg : V.grownBy (setBlock V B (.map (es.push ⟨.int .i64 c, v, clk⟩) (clk + 1))) (some B) := ⟨rfl, rfl, rfl, by simp [setBlock], fun i _ hi => heap_setBlock_other h1 _ (fun e1 => hi (by rw [e1]))⟩
 have hlen : es.size = L.length := by rw [← h4.len]; simp
 have hR : ∀ u ys, Kd.R (Kd.int .i64) 3 V base ok u ys → Kd.R (Kd.int .i64) 3 (setBlock V B (.map (es.push ⟨.int .i64 c, v, clk⟩) (clk + 1))) base ok u ys := fun u ys hu =>
  Kd.R_mono (Kd.R_grown (Kd.R_bound hu) hg (fun k hk e => by
   cases e
   obtain ⟨_, _, _, q, _, cells, hcells⟩ := hk
   rw [h1] at hcells
   cases hcells)) (fun k hk => hk.1)
 refine ⟨_, by simp [Instr.mapUpdate, run_underlying ht, MapKept.run_getObj_map h1, mlaw.check V false (mkey c hc), hfind, MapKept.run_setObj_map _ h1, Result.andThen, setBlock], ⟨_, _, heap_setBlock_same h1 _, h2, by simp; omega, ?_, ?_⟩, hg⟩
 ·simp [hlen]
 ·intro j x e hx he
  have hl4 := h4.len
  by_cases q : j < L.length
  ·rw [List.getElem?_append_left q] at he
   rw [Array.toList_push, List.getElem?_append_left (by omega)] at hx
   obtain ⟨a, b, r⟩ := h4.at_ j x e hx he
   exact ⟨a, b, hR _ _ r⟩
  ·have hj := (List.getElem?_eq_some_iff.1 he).1
   simp only [List.length_append, List.length_singleton] at hj
   have : j = L.length := by omega
   subst this
   rw [List.getElem?_append_right (Nat.le_refl _), Nat.sub_self] at he
   rw [Array.toList_push, List.getElem?_append_right (by omega), show L.length - es.toList.length = 0 from by omega] at hx
   simp only [List.getElem?_cons_zero, Option.some.injEq] at he hx
   subst he hx
   exact ⟨rfl, hc, hR _ _ hv⟩
end

end Go.Proofs.Ytdhiijleafcfcaa.T
