/- Rows: arguments opened: structs, slices of numbers and of bools. -/
import Derived.Test.YtdhiijleafcfcaaT0
import Derived.ProofKit
import Derived.OpenShut
import Derived.ShutString
import Derived.ChangeOld
import Derived.SizedLaws
import Derived.ChangeSlices
import Derived.ChangeMaps5
import Derived.Deep.Grids
import Derived.SliceStrings
import Derived.Lib.SmallJoins
import Derived.ChangeArms
namespace Go.Proofs.Ytdhiijleafcfcaa.T
open Go.RowKit Go.Proofs.YtdhiijleafcfcaaW.PrintWords Go.Proofs.YtdhiijleafcfcaaW.PrintLast Go.Proofs.YtdhiijleafcfcaaW.PrintMore
attribute [local go_sem] max2_int min2_int max_two min_two max_three min_three max_four min_four
set_option linter.unusedVariables false
set_option linter.unusedSimpArgs false

open Go.ChangeShapes Go.WideShapes Go.ChangeAt Go.Joins Go.Deep
section
variable {H : Type} {enc : TypeId × Value → H} {P : Program} {W : World} {base : Nat} {held : Bool}
theorem ro_ints {fuel : Nat} {t e : TypeId} {v : Value} {x : DataW H × List MemPlace} (ht : P.underlying t = some (.slice e)) (he : P.underlying e = some (.int .i64)) (hc : P.cellsOf e = 1)
  (h : DataW.trod enc P W base (fun _ => true) held fuel t [v] = some x) :
  ∃ (a : Option Addr) (cap : Nat) (l : List Int), v = .slice a l.length cap ∧ Kd.C (Kd.int .i64) W a l.length l ∧ l.length ≤ cap ∧ l.length ≤ maxLen ∧ ∀ x ∈ l, (Lit.int .i64 x).wf = true := by
 rcases open_ints ht he hc h with ⟨hcs, _⟩ | ⟨x, l, c, zs, hcs, _, hl, hm, hz, _, hcell, hwz⟩
 ·simp only [List.cons.injEq, and_true] at hcs
  subst hcs
  exact ⟨none, 0, [], rfl, Kd.C_nil _ _, Nat.le_refl _, by simp, by simp⟩
 ·simp only [List.cons.injEq, and_true] at hcs
  subst hcs
  obtain ⟨l0, rfl, hr0, hm0, hw0, hc0⟩ := ReadsInt.ofRowC (k := .i64) (w := W) (a := some x) (len := l) (cap := c) (zs := zs) (.inr ⟨_, rfl, hl, hm, by simpa using hz, hcell, hwz⟩)
  exact ⟨some x, c, l0, rfl, Kd.C_of_reads (d := (0 : Int)) (h1 := fun _ => rfl) hr0, hc0, hm0, hw0⟩
theorem ro_bools {fuel : Nat} {t e : TypeId} {v : Value} {x : DataW H × List MemPlace} (ht : P.underlying t = some (.slice e)) (he : P.underlying e = some .bool) (hc : P.cellsOf e = 1)
  (h : DataW.trod enc P W base (fun _ => true) held fuel t [v] = some x) :
  ∃ (a : Option Addr) (cap : Nat) (l : List Bool), v = .slice a l.length cap ∧ Kd.C Kd.bool W a l.length l ∧ l.length ≤ cap ∧ l.length ≤ maxLen := by
 rcases Deep.open_bools ht he hc h with ⟨hcs, _⟩ | ⟨a, len, cap, B, hcs, _, hl, hm, _, hcell⟩
 ·simp only [List.cons.injEq, and_true] at hcs
  subst hcs
  exact ⟨none, 0, [], rfl, Kd.C_nil _ _, Nat.le_refl _, by simp⟩
 ·simp only [List.cons.injEq, and_true] at hcs
  subst hcs
  have hlen : ((List.range len).map B).length = len := by simp
  refine ⟨some a, cap, (List.range len).map B, by rw [hlen], ?_, by omega, by omega⟩
  refine Kd.C_of_reads (enc := Value.bool) (d := false) (h1 := fun _ => rfl) ⟨rfl, by unfold maxLen at hm; omega, fun _ => ⟨a, rfl, fun j hj => ?_⟩⟩
  rw [hlen] at hj
  rw [hcell j (by omega)]
  simp [List.getD_eq_getElem?_getD, hj]
theorem ro_strings {fuel : Nat} {t e : TypeId} {v : Value} {x : DataW H × List MemPlace} (ht : P.underlying t = some (.slice e)) (he : P.underlying e = some .string) (hc : P.cellsOf e = 1)
  (h : DataW.trod enc P W base (fun _ => true) held fuel t [v] = some x) :
  ∃ (a : Option Addr) (cap : Nat) (l : List ByteArray), v = .slice a l.length cap ∧ Kd.C Kd.string W a l.length l ∧ l.length ≤ cap ∧ l.length ≤ maxLen ∧ ∀ x ∈ l, x.size ≤ maxLen := by
 rcases open_strings ht he hc h with ⟨hcs, _⟩ | ⟨a, len, cap, ss, hcs, _, hl, hm, hss, _, hcell, hsz⟩
 ·simp only [List.cons.injEq, and_true] at hcs
  subst hcs
  exact ⟨none, 0, [], rfl, Kd.C_nil _ _, Nat.le_refl _, by simp, by simp⟩
 ·simp only [List.cons.injEq, and_true] at hcs
  subst hcs
  simp only [if_true] at hss
  have hlen : (ss.take len).length = len := by rw [List.length_take]; omega
  refine ⟨some a, cap, ss.take len, by rw [hlen], ?_, by omega, by omega, fun x hx => hsz x (List.mem_of_mem_take hx)⟩
  refine Kd.C_of_reads (enc := Value.string) (d := ByteArray.empty) (h1 := fun _ => rfl) ⟨rfl, by unfold maxLen at hm; omega, fun _ => ⟨a, rfl, fun j hj => ?_⟩⟩
  rw [hlen] at hj
  rw [hcell j (by omega)]
  congr 2
  rw [List.getD_eq_getElem?_getD, List.getD_eq_getElem?_getD, List.getElem?_take_of_lt hj]
theorem array5 {α : Type} {cs : Array α} (h : cs.size = 5) : ∃ c0 c1 c2 c3 c4, cs = #[c0, c1, c2, c3, c4] := by
 obtain ⟨l⟩ := cs
 match l, h with
 | [c0, c1, c2, c3, c4], _ => exact ⟨c0, c1, c2, c3, c4, rfl⟩
/-- A struct of five fields of one cell each. -/
theorem ro_five {sp : Nat → Bool} {r : Reach} {b0 : Nat} {t : TypeId} {f0 f1 f2 f3 f4 : Field} {v : Value} {d : DataW H} {p : List MemPlace} (hs : P.underlying t = some (.struct #[f0, f1, f2, f3, f4])) (hone : oneCellFields P #[f0, f1, f2, f3, f4] = true) (hC : P.cellsOf t = 5)
  (hv : Value.okWide P W r b0 t v) (h : DataW.Trod enc P W base sp held t v d p) :
  ∃ (v0 v1 v2 v3 v4 : Value) (y0 y1 y2 y3 y4 : DataW H × List MemPlace) (n : Nat), v = .agg #[v0, v1, v2, v3, v4] ∧
   DataW.trod enc P W base sp held n f0.type [v0] = some y0 ∧ DataW.trod enc P W base sp held n f1.type [v1] = some y1 ∧ DataW.trod enc P W base sp held n f2.type [v2] = some y2 ∧ DataW.trod enc P W base sp held n f3.type [v3] = some y3 ∧ DataW.trod enc P W base sp held n f4.type [v4] = some y4 := by
 obtain ⟨cs, rfl, hsz⟩ := okWide_struct hs hv
 obtain ⟨c0, c1, c2, c3, c4, rfl⟩ := array5 (hsz.trans hC)
 obtain ⟨fuel, hf⟩ := h
 obtain ⟨xs, n, _, _, hl, hlen, hf⟩ := DataW.trod_struct hs hf
 match xs, hlen with
 | [y0, y1, y2, y3, y4], _ =>
  have g0 := hf 0 f0 rfl
  have g1 := hf 1 f1 rfl
  have g2 := hf 2 f2 rfl
  have g3 := hf 3 f3 rfl
  have g4 := hf 4 f4 rfl
  obtain ⟨o0, k0⟩ := hone_of hone 0 f0 rfl
  obtain ⟨o1, k1⟩ := hone_of hone 1 f1 rfl
  obtain ⟨o2, k2⟩ := hone_of hone 2 f2 rfl
  obtain ⟨o3, k3⟩ := hone_of hone 3 f3 rfl
  obtain ⟨o4, k4⟩ := hone_of hone 4 f4 rfl
  exact ⟨c0, c1, c2, c3, c4, y0, y1, y2, y3, y4, n, rfl, by simpa [Value.cells, o0, k0] using g0, by simpa [Value.cells, o1, k1] using g1, by simpa [Value.cells, o2, k2] using g2, by simpa [Value.cells, o3, k3] using g3, by simpa [Value.cells, o4, k4] using g4⟩
end
/-! A struct of a struct of three cells and one cell more. -/
section
variable {H : Type} {enc : TypeId × Value → H} {P : Program} {W : World} {base : Nat} {held : Bool}
theorem array4_ {α : Type} {cs : Array α} (h : cs.size = 4) : ∃ c0 c1 c2 c3, cs = #[c0, c1, c2, c3] := by
 obtain ⟨l⟩ := cs
 match l, h with
 | [c0, c1, c2, c3], _ => exact ⟨c0, c1, c2, c3, rfl⟩
theorem ro_look {sp : Nat → Bool} {r : Reach} {b0 : Nat} {t : TypeId} {f0 f1 g0 g1 g2 : Field} {v : Value} {d : DataW H} {p : List MemPlace} (hs : P.underlying t = some (.struct #[f0, f1])) (hs0 : P.underlying f0.type = some (.struct #[g0, g1, g2]))
  (o0 : f0.offset = 0) (k0 : P.cellsOf f0.type = 3) (o1 : f1.offset = 3) (k1 : P.cellsOf f1.type = 1) (hone : oneCellFields P #[g0, g1, g2] = true) (hC : P.cellsOf t = 4)
  (hv : Value.okWide P W r b0 t v) (h : DataW.Trod enc P W base sp held t v d p) :
  ∃ (v0 v1 v2 v3 : Value) (y0 y1 y2 y3 : DataW H × List MemPlace) (n m : Nat), v = .agg #[v0, v1, v2, v3] ∧
   DataW.trod enc P W base sp held n g0.type [v0] = some y0 ∧ DataW.trod enc P W base sp held n g1.type [v1] = some y1 ∧ DataW.trod enc P W base sp held n g2.type [v2] = some y2 ∧ DataW.trod enc P W base sp held m f1.type [v3] = some y3 := by
 obtain ⟨cs, rfl, hsz⟩ := okWide_struct hs hv
 obtain ⟨c0, c1, c2, c3, rfl⟩ := array4_ (hsz.trans hC)
 obtain ⟨fuel, hf⟩ := h
 obtain ⟨xs, m, _, _, hl, hlen, hf⟩ := DataW.trod_struct hs hf
 match xs, hlen with
 | [z0, z1], _ =>
  have e0 := hf 0 f0 rfl
  have e1 := hf 1 f1 rfl
  have e0' : DataW.trod enc P W base sp held m f0.type [c0, c1, c2] = some z0 := by simpa [Value.cells, o0, k0] using e0
  have e1' : DataW.trod enc P W base sp held m f1.type [c3] = some z1 := by simpa [Value.cells, o1, k1] using e1
  obtain ⟨ys, n, _, _, hl2, hlen2, hf2⟩ := DataW.trod_struct hs0 e0'
  match ys, hlen2 with
  | [y0, y1, y2], _ =>
   have q0 := hf2 0 g0 rfl
   have q1 := hf2 1 g1 rfl
   have q2 := hf2 2 g2 rfl
   obtain ⟨p0, w0_⟩ := hone_of hone 0 g0 rfl
   obtain ⟨p1, w1_⟩ := hone_of hone 1 g1 rfl
   obtain ⟨p2, w2_⟩ := hone_of hone 2 g2 rfl
   exact ⟨c0, c1, c2, c3, y0, y1, y2, z1, n, m, rfl, by simpa [p0, w0_] using q0, by simpa [p1, w1_] using q1, by simpa [p2, w2_] using q2, e1'⟩
end
/-! A slice of portraits: structs of four whole numbers and a bool. -/
section
variable {H : Type} {enc : TypeId × Value → H} {P : Program} {W : World} {base : Nat} {held : Bool}
theorem cells_five {w : World} {b : Nat} {a : Addr} {cs : List Value} (h : w.cells? b a 5 = some cs) : cs.length = 5 ∧ ∀ i u, cs[i]? = some u → w.cell? (a.add i) = some u := by
 unfold World.cells? at h
 split at h
 ·have hl := mapM_some_length h
  rw [List.length_range] at hl
  refine ⟨hl, fun i u hu => ?_⟩
  have hi : i < 5 := by rw [← hl]; exact (List.getElem?_eq_some_iff.1 hu).1
  have := mapM_some_get h i i (by simp [hi])
  rw [this, hu]
 ·cases h
theorem ro_ports {fuel : Nat} {t e t0 t4 : TypeId} {n0 n1 n2 n3 n4 g0 g1 g2 g3 g4 p0 p1 p2 p3 p4 : String} {b0 b1 b2 b3 b4 : Nat} {m0 m1 m2 m3 m4 : Bool} {v : Value} {x : DataW H × List MemPlace} (ht : P.underlying t = some (.slice e))
  (he : P.underlying e = some (.struct #[⟨n0, t0, 0, m0, g0, p0, b0⟩, ⟨n1, t0, 1, m1, g1, p1, b1⟩, ⟨n2, t0, 2, m2, g2, p2, b2⟩, ⟨n3, t0, 3, m3, g3, p3, b3⟩, ⟨n4, t4, 4, m4, g4, p4, b4⟩])) (h0 : P.underlying t0 = some (.int .i64)) (h4 : P.underlying t4 = some .bool)
  (k0 : P.cellsOf t0 = 1) (k4 : P.cellsOf t4 = 1) (hc : P.cellsOf e = 5) (h : DataW.trod enc P W base (fun _ => true) held fuel t [v] = some x) :
  ∃ (a : Option Addr) (cap : Nat) (l : List S76), v = .slice a l.length cap ∧ Kd.C k76 W a l.length l ∧ l.length ≤ cap ∧ l.length ≤ maxLen := by
 rcases DataW.trod_slice ht h with ⟨hcs, _⟩ | ⟨a, len, cap, elems, rest, n, _, hcs, _, _, hl, hm, hlen, hel, _, _⟩
 ·simp only [List.cons.injEq, and_true] at hcs
  subst hcs
  exact ⟨none, 0, [], rfl, Kd.C_nil _ _, Nat.le_refl _, by simp⟩
 ·simp only [List.cons.injEq, and_true] at hcs
  subst hcs
  have each : ∀ j, j < len → ∃ s : S76, ∀ i u, ([.int .i64 s.f0, .int .i64 s.f1, .int .i64 s.f2, .int .i64 s.f3, .bool s.f4] : List Value)[i]? = some u → W.cell? (a.add (j * 5 + i)) = some u := by
   intro j hj
   have h1 := hel j hj
   rw [hc, List.getElem?_eq_getElem (by omega), Option.bind_eq_some_iff] at h1
   obtain ⟨cs, hcs, hy⟩ := h1
   obtain ⟨h5, hcell⟩ := cells_five hcs
   obtain ⟨xs, m, _, _, _, hxl, hf⟩ := DataW.trod_struct he hy
   match cs, h5 with
   | [c0, c1, c2, c3, c4], _ =>
    match xs, hxl with
    | [y0, y1, y2, y3, y4], _ =>
     have q0 := hf 0 _ rfl
     have q1 := hf 1 _ rfl
     have q2 := hf 2 _ rfl
     have q3 := hf 3 _ rfl
     have q4 := hf 4 _ rfl
     obtain ⟨z0, e0, _, _⟩ := DataW.trod_int h0 (show DataW.trod enc P W base (fun _ => true) held m t0 [c0] = some y0 by simpa [k0] using q0)
     obtain ⟨z1, e1, _, _⟩ := DataW.trod_int h0 (show DataW.trod enc P W base (fun _ => true) held m t0 [c1] = some y1 by simpa [k0] using q1)
     obtain ⟨z2, e2, _, _⟩ := DataW.trod_int h0 (show DataW.trod enc P W base (fun _ => true) held m t0 [c2] = some y2 by simpa [k0] using q2)
     obtain ⟨z3, e3, _, _⟩ := DataW.trod_int h0 (show DataW.trod enc P W base (fun _ => true) held m t0 [c3] = some y3 by simpa [k0] using q3)
     obtain ⟨z4, e4, _⟩ := DataW.trod_bool h4 (show DataW.trod enc P W base (fun _ => true) held m t4 [c4] = some y4 by simpa [k4] using q4)
     simp only [List.cons.injEq, and_true] at e0 e1 e2 e3 e4
     subst e0 e1 e2 e3 e4
     refine ⟨⟨z0, z1, z2, z3, z4⟩, fun i u hu => ?_⟩
     have := hcell i u hu
     rwa [Addr.add_add] at this
  obtain ⟨f, hf⟩ : ∃ f : Nat → S76, ∀ j, j < len → ∀ i u, ([.int .i64 (f j).f0, .int .i64 (f j).f1, .int .i64 (f j).f2, .int .i64 (f j).f3, .bool (f j).f4] : List Value)[i]? = some u → W.cell? (a.add (j * 5 + i)) = some u :=
   ⟨fun j => if hj : j < len then Classical.choose (each j hj) else z76, fun j hj => by simpa only [dif_pos hj] using Classical.choose_spec (each j hj)⟩
  have hlen2 : ((List.range len).map f).length = len := by simp
  refine ⟨some a, cap, (List.range len).map f, by rw [hlen2], ⟨rfl, by rw [hlen2]; unfold maxLen at hm; omega, fun _ => ⟨a, rfl, fun j p hj => ?_⟩⟩, by omega, by omega⟩
  have hj2 : j < len := by rw [← hlen2]; exact (List.getElem?_eq_some_iff.1 hj).1
  rw [List.getElem?_map, List.getElem?_range hj2] at hj
  obtain rfl := Option.some.inj hj
  exact ⟨_, rfl, k76_mk W (f j), fun i u hu => hf j hj2 i u hu⟩
end

end Go.Proofs.Ytdhiijleafcfcaa.T
