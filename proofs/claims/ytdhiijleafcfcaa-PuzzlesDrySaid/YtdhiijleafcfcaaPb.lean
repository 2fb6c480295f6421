/- Plumb and Plumbings, in the print's form. -/
import Derived.Test.YtdhiijleafcfcaaT0
import Derived.Test.YtdhiijleafcfcaaPk
import Derived.Test.YtdhiijleafcfcaaPF
namespace Go.Proofs.Ytdhiijleafcfcaa.T
open Go.RowKit Go.Proofs.YtdhiijleafcfcaaW.PrintWords Go.Proofs.YtdhiijleafcfcaaW.PrintLast Go.Proofs.YtdhiijleafcfcaaW.PrintMore
attribute [local go_sem] max2_int min2_int max_two min_two max_three min_three max_four min_four
set_option linter.unusedVariables false
set_option linter.unusedSimpArgs false

open Mz
/-- Does an answer of flows say that turns solve pipes? -/
def okR (a4 : Int) (r : List Bool × Int) : Bool := !decide (r.2 > 0) && rdOf false r.1 a4
/-- F tells which turns solve. -/
def Tells (F : List Int → Bool) (a0 a1 : Int) (pc : List Int) (a3 a4 : Int) : Prop := ∀ p k r, puzzles_plumbing_flows.f k a0 a1 a0 a1 pc a3 a4 p = some r → F p = okR a4 r
theorem tells_ex (a0 a1 : Int) (pc : List Int) (a3 a4 : Int) : ∃ F, Tells F a0 a1 pc a3 a4 := by
 refine ⟨fun p => @decide (∃ k r, puzzles_plumbing_flows.f k a0 a1 a0 a1 pc a3 a4 p = some r ∧ okR a4 r = true) (Classical.propDecidable _), fun p k r h => ?_⟩
 rw [Bool.eq_iff_iff, @decide_eq_true_iff _ (Classical.propDecidable _)]
 constructor
 ·rintro ⟨k', r', h', h1⟩
  have e1 := at_rounds (g := fun k => puzzles_plumbing_flows.f k a0 a1 a0 a1 pc a3 a4 p) (fun k => puzzles_plumbing_flows.mono _ _ _ _ _ _ _ _ k) (show k ≤ max k k' by omega) h
  have e2 := at_rounds (g := fun k => puzzles_plumbing_flows.f k a0 a1 a0 a1 pc a3 a4 p) (fun k => puzzles_plumbing_flows.mono _ _ _ _ _ _ _ _ k) (show k' ≤ max k k' by omega) h'
  rw [e1] at e2
  cases e2
  exact h1
 ·exact fun h1 => ⟨k, r, h, h1⟩
/-- All turns that solve, if each of them is told in so many rounds. -/
def pOutsO (k : Nat) (a0 a1 : Int) (pc : List Int) (a3 a4 : Int) : Nat → List Int → Int → Option (List (List Int × Int))
 | 0, p, s => (puzzles_plumbing_flows.f k a0 a1 a0 a1 pc a3 a4 p).bind fun r => some (if okR a4 r = true then [(p, s)] else [])
 | m + 1, p, s => (pOutsO k a0 a1 pc a3 a4 m (p ++ [0]) (s + 0)).bind fun x => (pOutsO k a0 a1 pc a3 a4 m (p ++ [1]) (s + 1)).bind fun y => (pOutsO k a0 a1 pc a3 a4 m (p ++ [2]) (s + 2)).bind fun z => (pOutsO k a0 a1 pc a3 a4 m (p ++ [3]) (s + 3)).bind fun u => some (x ++ y ++ z ++ u)
theorem pOutsO_mono (k : Nat) (a0 a1 : Int) (pc : List Int) (a3 a4 : Int) : ∀ m p s, LeO (pOutsO k a0 a1 pc a3 a4 m p s) (pOutsO (k + 1) a0 a1 pc a3 a4 m p s)
 | 0, p, s => by
  unfold pOutsO
  exact LeO.bind (puzzles_plumbing_flows.mono _ _ _ _ _ _ _ _ _) (fun _ => LeO.refl _)
 | m + 1, p, s => by
  unfold pOutsO
  exact LeO.bind (pOutsO_mono k a0 a1 pc a3 a4 m _ _) (fun _ => LeO.bind (pOutsO_mono k a0 a1 pc a3 a4 m _ _) (fun _ => LeO.bind (pOutsO_mono k a0 a1 pc a3 a4 m _ _) (fun _ => LeO.bind (pOutsO_mono k a0 a1 pc a3 a4 m _ _) (fun _ => LeO.refl _))))
theorem pOutsO_some {F : List Int → Bool} {k : Nat} {a0 a1 : Int} {pc : List Int} {a3 a4 : Int} (hF : Tells F a0 a1 pc a3 a4) : ∀ m p s o, pOutsO k a0 a1 pc a3 a4 m p s = some o → o = pOuts F m p s ∧ ∀ d : List Int, d.length = m → (∀ x ∈ d, 0 ≤ x ∧ x ≤ 3) → ∃ r, puzzles_plumbing_flows.f k a0 a1 a0 a1 pc a3 a4 (p ++ d) = some r
 | 0, p, s, o, h => by
  unfold pOutsO at h
  obtain ⟨r, h1, h2⟩ := Option.bind_eq_some_iff.mp h
  refine ⟨?_, fun d hd _ => ?_⟩
  ·unfold pOuts
   rw [hF p k r h1]
   exact (Option.some.inj h2).symm
  ·obtain rfl := List.eq_nil_of_length_eq_zero hd
   exact ⟨r, by rw [List.append_nil]; exact h1⟩
 | m + 1, p, s, o, h => by
  unfold pOutsO at h
  obtain ⟨x, hx, h⟩ := Option.bind_eq_some_iff.mp h
  obtain ⟨y, hy, h⟩ := Option.bind_eq_some_iff.mp h
  obtain ⟨z, hz, h⟩ := Option.bind_eq_some_iff.mp h
  obtain ⟨u, hu, h⟩ := Option.bind_eq_some_iff.mp h
  obtain ⟨x1, x2⟩ := pOutsO_some hF m _ _ _ hx
  obtain ⟨y1, y2⟩ := pOutsO_some hF m _ _ _ hy
  obtain ⟨z1, z2⟩ := pOutsO_some hF m _ _ _ hz
  obtain ⟨u1, u2⟩ := pOutsO_some hF m _ _ _ hu
  refine ⟨by unfold pOuts; rw [← x1, ← y1, ← z1, ← u1]; exact (Option.some.inj h).symm, fun d hd hv => ?_⟩
  match d, hd, hv with
  | c :: d, hd, hv =>
   have hd' : d.length = m := by simpa using hd
   have hv' : ∀ x ∈ d, 0 ≤ x ∧ x ≤ 3 := fun x hx => hv x (by simp [hx])
   have hc := hv c (by simp)
   have e : p ++ c :: d = p ++ [c] ++ d := by simp
   rw [e]
   have : c = 0 ∨ c = 1 ∨ c = 2 ∨ c = 3 := by omega
   rcases this with rfl | rfl | rfl | rfl
   ·exact x2 d hd' hv'
   ·exact y2 d hd' hv'
   ·exact z2 d hd' hv'
   ·exact u2 d hd' hv'
/-- Each of so many turns is told at some time. -/
theorem pOutsO_ev {F : List Int → Bool} {a0 a1 : Int} {pc : List Int} {a3 a4 : Int} (h : plumbB a0 a1 pc a3 a4 = true) (hF : Tells F a0 a1 pc a3 a4) : ∀ m p s, p.length + m = pc.length → (∀ x ∈ p, 0 ≤ x ∧ x ≤ 3) → Ev (fun k => pOutsO k a0 a1 pc a3 a4 m p s) (pOuts F m p s)
 | 0, p, s, hp, hv => by
  obtain ⟨r, e1, _⟩ := flows_ev (pl_of h (by omega) hv) a0 a1 a4
  obtain ⟨k0, hk0⟩ := e1.rounds
  refine Ev.congr (fun k => rfl) (Ev.bind e1 (f := fun k r => some (if okR a4 r = true then [(p, s)] else [])) (Ev.eq (Ev.now _) ?_))
  unfold pOuts
  rw [hF p k0 r hk0]
 | m + 1, p, s, hp, hv => by
  have ih : ∀ c : Int, 0 ≤ c → c ≤ 3 → Ev (fun k => pOutsO k a0 a1 pc a3 a4 m (p ++ [c]) (s + c)) (pOuts F m (p ++ [c]) (s + c)) := fun c c0 c3 => pOutsO_ev h hF m _ _ (by simp; omega) (fun x hx => by
   rcases List.mem_append.1 hx with hx | hx
   ·exact hv x hx
   ·simp only [List.mem_singleton] at hx; omega)
  refine Ev.congr (fun k => rfl) (Ev.bind (ih 0 (by omega) (by omega)) (f := fun k x => (pOutsO k a0 a1 pc a3 a4 m (p ++ [1]) (s + 1)).bind fun y => (pOutsO k a0 a1 pc a3 a4 m (p ++ [2]) (s + 2)).bind fun z => (pOutsO k a0 a1 pc a3 a4 m (p ++ [3]) (s + 3)).bind fun u => some (x ++ y ++ z ++ u)) ?_)
  refine Ev.bind (ih 1 (by omega) (by omega)) (Ev.bind (ih 2 (by omega) (by omega)) (Ev.bind (ih 3 (by omega) (by omega)) (Ev.eq (Ev.now _) ?_)))
  rw [pOuts]
def plumbR (o : List (List Int × Int)) : List Int × Int := if (bestO o).2 < 0 then (([] : List Int), (3 : Int)) else ((bestO o).1, 0)
def puzzles_Plumb.f (k : Nat) (a0 a1 : Int) (l : List Int) (a3 a4 : Int) : Option (List Int × Int) :=
 if plumbB a0 a1 l a3 a4 = true then (pOutsO k a0 a1 l a3 a4 l.length [] 0).bind fun o => some (plumbR o) else some ([], 30)
def puzzles_Plumbings.f (k : Nat) (a0 a1 : Int) (l : List Int) (a3 a4 : Int) : Option (Int × Int) :=
 if plumbB a0 a1 l a3 a4 = true then (pOutsO k a0 a1 l a3 a4 l.length [] 0).bind fun o => some ((o.length : Int), 0) else some (0, 30)
theorem puzzles_Plumb.mono : ∀ a0 a1 l a3 a4 k, LeO (puzzles_Plumb.f k a0 a1 l a3 a4) (puzzles_Plumb.f (k + 1) a0 a1 l a3 a4) := by
 intro a0 a1 l a3 a4 k
 unfold puzzles_Plumb.f
 exact LeO.ite (LeO.bind (pOutsO_mono _ _ _ _ _ _ _ _ _) (fun _ => LeO.refl _)) (LeO.refl _)
theorem puzzles_Plumbings.mono : ∀ a0 a1 l a3 a4 k, LeO (puzzles_Plumbings.f k a0 a1 l a3 a4) (puzzles_Plumbings.f (k + 1) a0 a1 l a3 a4) := by
 intro a0 a1 l a3 a4 k
 unfold puzzles_Plumbings.f
 exact LeO.ite (LeO.bind (pOutsO_mono _ _ _ _ _ _ _ _ _) (fun _ => LeO.refl _)) (LeO.refl _)
/-- What an answer rests on. -/
theorem pOutsO_solv {k : Nat} {a0 a1 : Int} {l : List Int} {a3 a4 : Int} {o : List (List Int × Int)} (hB : plumbB a0 a1 l a3 a4 = true) (ho : pOutsO k a0 a1 l a3 a4 l.length [] 0 = some o) : ∃ F, Solv F a0 a1 l a3 a4 ∧ o = pOuts F l.length [] 0 := by
 obtain ⟨F, hF⟩ := tells_ex a0 a1 l a3 a4
 obtain ⟨h1, h2⟩ := pOutsO_some hF _ _ _ _ ho
 refine ⟨F, fun p hp hd => ?_, h1⟩
 obtain ⟨r, e1, L, _, _, rfl⟩ := flows_ev (pl_of hB hp hd) a0 a1 a4
 obtain ⟨k', hk'⟩ := e1.rounds
 exact ⟨k', _, _, hk', tab_len _ _, hF p k' _ hk'⟩
theorem box_two {w w1 : World} {o1 o2 : Obj} (hb : Below ((w.alloc o1).alloc o2).heap.size ((w.alloc o1).alloc o2) w1) : w1.heap[w.heap.size + 1]? = some o2 := by
 have := World.alloc_heap_new (w.alloc o1) o2
 rw [World.size_alloc] at this
 exact (hb.block (w.heap.size + 1) (by simp)).trans this
theorem box_end {w w1 : World} {o1 o2 o3 : Obj} (hb : Below ((w.alloc o1).alloc o2).heap.size ((w.alloc o1).alloc o2) w1) (v : Value) : Below w.heap.size w ((w1.setCell ⟨w.heap.size + 1, 0, none⟩ v).alloc o3) :=
 below_alloc (Below.trans (Below.trans (below_alloc (below_alloc (Below.refl _ _) _) _) (hb.mono (by simp; omega))) (((Same.refl (fun k => k < w.heap.size) w1).setCell ⟨w.heap.size + 1, 0, none⟩ (by simp) v).below (by have := hb.size; simp at this; omega) (fun k hk => hk))) _
set_option maxRecDepth 100000 in
set_option maxHeartbeats 2000000 in
theorem puzzles_Plumb.calls (k : Nat) (a0 a1 : Int) (A : Option Addr) (c : Nat) (l : List Int) (a3 a4 : Int) (r1 : List Int) (r2 : Int) (w : World) (hr : Kd.C (Kd.int .i64) w A l.length l) (hc : l.length ≤ c) (h : puzzles_Plumb.f k a0 a1 l a3 a4 = some (r1, r2)) :
  Calls Try.prog 45 #[.agg #[.int .i64 a0, .int .i64 a1, .slice A l.length c, .int .i64 a3, .int .i64 a4]] w fun e w' => ∃ v0_ : Value, e = .returned (.tuple #[v0_, .int .i64 r2]) ∧ Kd.R (Kd.int .i64) 3 w' w.heap.size (fun _ => True) v0_ r1 ∧ Below w.heap.size w w' := by
 unfold puzzles_Plumb.f at h
 by_cases hB : plumbB a0 a1 l a3 a4 = true
 ·rw [if_pos hB] at h
  obtain ⟨_, _, _, _, _, n9, _, h4, _⟩ := plumbB_facts hB
  obtain ⟨o, ho, h⟩ := Option.bind_eq_some_iff.mp h
  obtain ⟨F, hF, rfl⟩ := pOutsO_solv hB ho
  exact callsIn_wide.1 (Plumb_in A c a0 a1 l a3 a4 F w hr hc hB hF n9 h4 r1 r2 (Option.some.inj h))
 ·rw [if_neg hB] at h
  cases h
  have hu50 := Try.underlying50
  have hu115 := Try.underlying115
  have HM := Aside0.mk (fun V => newPlumbing_calls A c l a0 a1 a3 a4 V)
  rw [Bool.not_eq_true] at hB
  rw [hB] at HM
  have HC := Aside0.mk hc
  have HR := Aside0.mk hr
  clear hr hc hB
  go_enter Try.func45, Try.ntmps45
  go_wp2_with (go_at_call 97; refine Calls.mono (HM.out _ (Kd.C_alloc (Kd.C_alloc HR.out _) _) HC.out) ?_; rintro e w1 ⟨rfl, hb⟩; have HB := Aside0.mk hb; have hn0 := box_two hb; have hc0 := blk_cell hn0 0; have hf0 := blk_frozen hn0 0; have hlt0 := blk_lt hn0; simp only [List.getElem?_toArray, List.getElem?_cons_zero] at hc0; have HN := Aside0.mk hn0; clear hb hn0)
  have hn1 := blk_set (u := Value.slice none 0 0) (i := 0) HN.out
  have hn2 : (((w1.setCell ⟨w.heap.size + 1, 0, none⟩ (.slice none 0 0)).alloc (.cells #[Value.int IntKind.i64 a0, Value.int IntKind.i64 a1, Value.int IntKind.i64 a0, Value.int IntKind.i64 a1, Value.slice A l.length c, Value.int IntKind.i64 a3, Value.int IntKind.i64 a4] 115)).heap[w.heap.size + 1]?) = some _ := (heap_alloc_old _ _ _ (blk_lt hn1)).trans hn1
  have hc := blk_cell hn2 0
  simp only [List.size_toArray, List.length_cons, List.length_nil, Array.setIfInBounds, Nat.zero_add, Nat.lt_add_one, dif_pos, List.getElem?_toArray] at hc
  refine ⟨rfl, .tuple #[.slice none 0 0, .int .i64 30], by simp [results, Try.f45, go_sem, hc], _, rfl, Kd.R_nil _ _ _ _ _, box_end HB.out _⟩
set_option maxRecDepth 100000 in
set_option maxHeartbeats 2000000 in
theorem puzzles_Plumbings.calls (k : Nat) (a0 a1 : Int) (A : Option Addr) (c : Nat) (l : List Int) (a3 a4 : Int) (r1 : Int) (r2 : Int) (w : World) (hr : Kd.C (Kd.int .i64) w A l.length l) (hc : l.length ≤ c) (h : puzzles_Plumbings.f k a0 a1 l a3 a4 = some (r1, r2)) :
  Calls Try.prog 47 #[.agg #[.int .i64 a0, .int .i64 a1, .slice A l.length c, .int .i64 a3, .int .i64 a4]] w fun e w' => e = .returned (.tuple #[.int .i64 r1, .int .i64 r2]) ∧ Below w.heap.size w w' := by
 unfold puzzles_Plumbings.f at h
 by_cases hB : plumbB a0 a1 l a3 a4 = true
 ·rw [if_pos hB] at h
  obtain ⟨_, _, _, _, _, n9, _, h4, _⟩ := plumbB_facts hB
  obtain ⟨o, ho, h⟩ := Option.bind_eq_some_iff.mp h
  obtain ⟨F, hF, rfl⟩ := pOutsO_solv hB ho
  cases h
  exact callsIn_wide.1 (Plumbings_in A c a0 a1 l a3 a4 F w hr hc hB hF n9 h4)
 ·rw [if_neg hB] at h
  cases h
  have hu50 := Try.underlying50
  have hu115 := Try.underlying115
  have HM := Aside0.mk (fun V => newPlumbing_calls A c l a0 a1 a3 a4 V)
  rw [Bool.not_eq_true] at hB
  rw [hB] at HM
  have HC := Aside0.mk hc
  have HR := Aside0.mk hr
  clear hr hc hB
  go_enter Try.func47, Try.ntmps47
  go_wp2_with (go_at_call 97; refine Calls.mono (HM.out _ (Kd.C_alloc (Kd.C_alloc HR.out _) _) HC.out) ?_; rintro e w1 ⟨rfl, hb⟩; have HB := Aside0.mk hb; have hn0 := box_two hb; have hc0 := blk_cell hn0 0; have hf0 := blk_frozen hn0 0; have hlt0 := blk_lt hn0; simp only [List.getElem?_toArray, List.getElem?_cons_zero] at hc0; have HN := Aside0.mk hn0; clear hb hn0)
  have hn1 := blk_set (u := Value.int .i64 0) (i := 0) HN.out
  have hn2 : (((w1.setCell ⟨w.heap.size + 1, 0, none⟩ (.int .i64 0)).alloc (.cells #[Value.int IntKind.i64 a0, Value.int IntKind.i64 a1, Value.int IntKind.i64 a0, Value.int IntKind.i64 a1, Value.slice A l.length c, Value.int IntKind.i64 a3, Value.int IntKind.i64 a4] 115)).heap[w.heap.size + 1]?) = some _ := (heap_alloc_old _ _ _ (blk_lt hn1)).trans hn1
  have hc := blk_cell hn2 0
  simp only [List.size_toArray, List.length_cons, List.length_nil, Array.setIfInBounds, Nat.zero_add, Nat.lt_add_one, dif_pos, List.getElem?_toArray] at hc
  refine ⟨rfl, .tuple #[.int .i64 0, .int .i64 30], by simp [results, Try.f47, go_sem, hc], rfl, box_end HB.out _⟩
/-! What they come to. -/
theorem Plumb_ev {F : List Int → Bool} (a0 a1 : Int) (l : List Int) (a3 a4 : Int) (hF : Tells F a0 a1 l a3 a4) : Ev (fun k => puzzles_Plumb.f k a0 a1 l a3 a4) (if plumbB a0 a1 l a3 a4 = true then plumbR (pOuts F l.length [] 0) else ([], 30)) := by
 unfold puzzles_Plumb.f
 by_cases h : plumbB a0 a1 l a3 a4 = true
 ·rw [if_pos h]
  exact Ev.congr (fun k => if_pos h) (Ev.bind (pOutsO_ev h hF l.length [] 0 (by simp) (by simp)) (Ev.now _))
 ·rw [if_neg h]
  exact Ev.congr (fun k => if_neg h) (Ev.now _)
theorem Plumbings_ev {F : List Int → Bool} (a0 a1 : Int) (l : List Int) (a3 a4 : Int) (hF : Tells F a0 a1 l a3 a4) : Ev (fun k => puzzles_Plumbings.f k a0 a1 l a3 a4) (if plumbB a0 a1 l a3 a4 = true then (((pOuts F l.length [] 0).length : Int), 0) else (0, 30)) := by
 unfold puzzles_Plumbings.f
 by_cases h : plumbB a0 a1 l a3 a4 = true
 ·rw [if_pos h]
  exact Ev.congr (fun k => if_pos h) (Ev.bind (pOutsO_ev h hF l.length [] 0 (by simp) (by simp)) (Ev.now _))
 ·rw [if_neg h]
  exact Ev.congr (fun k => if_neg h) (Ev.now _)

end Go.Proofs.Ytdhiijleafcfcaa.T
