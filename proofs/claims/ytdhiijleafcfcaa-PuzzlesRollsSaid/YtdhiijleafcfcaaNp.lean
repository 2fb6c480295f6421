/- newPlumbing: whether pipes are valid. Printed by npgen.py. -/
import Derived.Test.YtdhiijleafcfcaaT0
import Derived.Test.YtdhiijleafcfcaaRg
import Derived.Test.YtdhiijleafcfcaaTg
import Derived.Test.YtdhiijleafcfcaaCf
namespace Go.Proofs.Ytdhiijleafcfcaa.T
open Go.RowKit Go.Proofs.YtdhiijleafcfcaaW.PrintWords Go.Proofs.YtdhiijleafcfcaaW.PrintLast Go.Proofs.YtdhiijleafcfcaaW.PrintMore
attribute [local go_sem] max2_int min2_int max_two min_two max_three min_three max_four min_four
set_option linter.unusedVariables false
set_option linter.unusedSimpArgs false

theorem np_new (w : World) (a b c : Obj) : (((w.alloc a).alloc b).alloc c).heap[w.heap.size]? = some a ∧ (((w.alloc a).alloc b).alloc c).heap[w.heap.size + 1]? = some b ∧
  (((w.alloc a).alloc b).alloc c).heap[w.heap.size + 1 + 1]? = some c := by
 have n1 := World.alloc_heap_new w a
 have n2 := World.alloc_heap_new (w.alloc a) b
 have n3 := World.alloc_heap_new ((w.alloc a).alloc b) c
 simp only [World.size_alloc] at n2 n3
 refine ⟨?_, ?_, n3⟩
 ·rw [Below.heap_alloc _ _ _ (by simp; omega), Below.heap_alloc _ _ _ (by simp)]; exact n1
 ·rw [Below.heap_alloc _ _ _ (by simp)]; exact n2
/-- What lies in the two boxes. -/
structure NpS (w : World) (A : Option Addr) (c : Nat) (l : List Int) (a0 a1 a3 a4 : Int) (V : World) : Prop where
 n1 : V.heap[w.heap.size]? = some (.cells #[.int .i64 a0, .int .i64 a1, .slice A l.length c, .int .i64 a3, .int .i64 a4] 50 (0, 0))
 n3 : V.heap[w.heap.size + 1 + 1]? = some (.cells #[.int .i64 a0, .int .i64 a1, .int .i64 a0, .int .i64 a1, .slice A l.length c, .int .i64 a3, .int .i64 a4] 115 (0, 0))
 hr : Kd.C (Kd.int .i64) V A l.length l
 hb : Below w.heap.size w V
 hA : ∀ ad, A = some ad → 0 < l.length → ad.block < w.heap.size
section
variable {w : World} {A : Option Addr} {c : Nat} {l : List Int} {a0 a1 a3 a4 : Int} {V V' : World}
theorem NpS.below (h : NpS w A c l a0 a1 a3 a4 V) (hb : Below V.heap.size V V') : NpS w A c l a0 a1 a3 a4 V' :=
 ⟨(hb.block _ (blk_lt h.n1)).trans h.n1, (hb.block _ (blk_lt h.n3)).trans h.n3, Kd.C_below h.hr hb, h.hb.trans (hb.mono h.hb.size), h.hA⟩
theorem NpS.drewN (h : NpS w A c l a0 a1 a3 a4 V) (m : Nat) : NpS w A c l a0 a1 a3 a4 (V.drewN m) := ⟨h.n1, h.n3, Kd.C_drewN h.hr m, h.hb.trans (pw_below_drewN (Below.refl _ _) m), h.hA⟩
theorem NpS.set (h : NpS w A c l a0 a1 a3 a4 V) (i : Nat) (v : Value) : NpS w A c l a0 a1 a3 a4 (V.setCell ⟨w.heap.size + 1, i, none⟩ v) := by
 have hS : Same (fun k => k ≠ w.heap.size + 1) V (V.setCell ⟨w.heap.size + 1, i, none⟩ v) := (Same.refl _ V).setCell ⟨w.heap.size + 1, i, none⟩ (by simp) _
 exact ⟨hS.at_ (by omega) h.n1, hS.at_ (by omega) h.n3, hS.reads h.hr (fun ad e hp => by have := h.hA ad e hp; omega), h.hb.trans (hS.below h.hb.size (fun k hk => by omega)), h.hA⟩
theorem NpS.stored (h : NpS w A c l a0 a1 a3 a4 V) : NpS w A c l a0 a1 a3 a4 (((((((V.setCell ⟨w.heap.size + 1, 0, none⟩ (.int .i64 a0)).setCell ⟨w.heap.size + 1, 1, none⟩ (.int .i64 a1)).setCell ⟨w.heap.size + 1, 2, none⟩ (.int .i64 a0)).setCell ⟨w.heap.size + 1, 3, none⟩ (.int .i64 a1)).setCell ⟨w.heap.size + 1, 4, none⟩ (.slice A l.length c)).setCell ⟨w.heap.size + 1, 5, none⟩ (.int .i64 a3)).setCell ⟨w.heap.size + 1, 6, none⟩ (.int .i64 a4)) :=
 ((((((h.set 0 _).set 1 _).set 2 _).set 3 _).set 4 _).set 5 _).set 6 _
theorem NpS.x0 (h : NpS w A c l a0 a1 a3 a4 V) : V.cell? ⟨w.heap.size + 1 + 1, 0, none⟩ = some (.int .i64 a0) := blk_cell h.n3 0
theorem NpS.x1 (h : NpS w A c l a0 a1 a3 a4 V) : V.cell? ⟨w.heap.size + 1 + 1, 1, none⟩ = some (.int .i64 a1) := blk_cell h.n3 1
theorem NpS.x2 (h : NpS w A c l a0 a1 a3 a4 V) : V.cell? ⟨w.heap.size + 1 + 1, 2, none⟩ = some (.int .i64 a0) := blk_cell h.n3 2
theorem NpS.x3 (h : NpS w A c l a0 a1 a3 a4 V) : V.cell? ⟨w.heap.size + 1 + 1, 3, none⟩ = some (.int .i64 a1) := blk_cell h.n3 3
theorem NpS.x4 (h : NpS w A c l a0 a1 a3 a4 V) : V.cell? ⟨w.heap.size + 1 + 1, 4, none⟩ = some (.slice A l.length c) := blk_cell h.n3 4
theorem NpS.x5 (h : NpS w A c l a0 a1 a3 a4 V) : V.cell? ⟨w.heap.size + 1 + 1, 5, none⟩ = some (.int .i64 a3) := blk_cell h.n3 5
theorem NpS.x6 (h : NpS w A c l a0 a1 a3 a4 V) : V.cell? ⟨w.heap.size + 1 + 1, 6, none⟩ = some (.int .i64 a4) := blk_cell h.n3 6
theorem NpS.p2 (h : NpS w A c l a0 a1 a3 a4 V) : V.cell? ⟨w.heap.size, 2, none⟩ = some (.slice A l.length c) := blk_cell h.n1 2
theorem NpS.p3 (h : NpS w A c l a0 a1 a3 a4 V) : V.cell? ⟨w.heap.size, 3, none⟩ = some (.int .i64 a3) := blk_cell h.n1 3
theorem NpS.p4 (h : NpS w A c l a0 a1 a3 a4 V) : V.cell? ⟨w.heap.size, 4, none⟩ = some (.int .i64 a4) := blk_cell h.n1 4
theorem np_keep {b : Nat} {o : Obj} (h : V.heap[b]? = some o) (hb : Below V.heap.size V V') : V'.heap[b]? = some o := (hb.block _ (blk_lt h)).trans h
theorem np_draw {b : Nat} {o : Obj} (h : V.heap[b]? = some o) (m : Nat) : (V.drewN m).heap[b]? = some o := h
theorem np_drew {b : Nat} {o : Obj} (h : V.heap[b]? = some o) : V.drew.heap[b]? = some o := h
theorem np_res {b : Nat} (h : V.heap[b]? = some (.cells #[.int .i64 0, .int .i64 0, .int .i64 0, .int .i64 0, .slice none 0 0, .int .i64 0, .int .i64 0] 115 (0, 0))) : (V.cell? ⟨b, 0, none⟩ = some (.int .i64 0) ∧ V.cell? ⟨b, 1, none⟩ = some (.int .i64 0) ∧ V.cell? ⟨b, 2, none⟩ = some (.int .i64 0) ∧ V.cell? ⟨b, 3, none⟩ = some (.int .i64 0) ∧ V.cell? ⟨b, 4, none⟩ = some (.slice none 0 0) ∧
  V.cell? ⟨b, 5, none⟩ = some (.int .i64 0) ∧ V.cell? ⟨b, 6, none⟩ = some (.int .i64 0)) ∧ V.frozen? ⟨b, 0, none⟩ = false ∧ V.frozen? ⟨b, 1, none⟩ = false ∧ V.frozen? ⟨b, 2, none⟩ = false ∧ V.frozen? ⟨b, 3, none⟩ = false ∧ V.frozen? ⟨b, 4, none⟩ = false ∧ V.frozen? ⟨b, 5, none⟩ = false ∧ V.frozen? ⟨b, 6, none⟩ = false :=
 ⟨⟨blk_cell h 0, blk_cell h 1, blk_cell h 2, blk_cell h 3, blk_cell h 4, blk_cell h 5, blk_cell h 6⟩, blk_frozen h 0, blk_frozen h 1, blk_frozen h 2, blk_frozen h 3, blk_frozen h 4, blk_frozen h 5, blk_frozen h 6⟩
theorem np_stored {b : Nat} (h : V.heap[b]? = some (.cells #[.int .i64 0, .int .i64 0, .int .i64 0, .int .i64 0, .slice none 0 0, .int .i64 0, .int .i64 0] 115 (0, 0))) :
  (((((((V.setCell ⟨b, 0, none⟩ (.int .i64 a0)).setCell ⟨b, 1, none⟩ (.int .i64 a1)).setCell ⟨b, 2, none⟩ (.int .i64 a0)).setCell ⟨b, 3, none⟩ (.int .i64 a1)).setCell ⟨b, 4, none⟩ (.slice A l.length c)).setCell ⟨b, 5, none⟩ (.int .i64 a3)).setCell ⟨b, 6, none⟩ (.int .i64 a4)).heap[b]? =
   some (.cells #[.int .i64 a0, .int .i64 a1, .int .i64 a0, .int .i64 a1, .slice A l.length c, .int .i64 a3, .int .i64 a4] 115 (0, 0)) := by
 simpa using blk_set (blk_set (blk_set (blk_set (blk_set (blk_set (blk_set h 0 (.int .i64 a0)) 1 (.int .i64 a1)) 2 (.int .i64 a0)) 3 (.int .i64 a1)) 4 (.slice A l.length c)) 5 (.int .i64 a3)) 6 (.int .i64 a4)
end
set_option maxHeartbeats 4000000 in
set_option maxRecDepth 100000 in
theorem newPlumbing_from (A : Option Addr) (c : Nat) (l : List Int) (a0 a1 a3 a4 : Int) (b5 : Bool) (w : World) (hr : Kd.C (Kd.int .i64) w A l.length l) (hc : l.length ≤ c)
  (h1 : inR 1 9 a0 = true) (h2 : inR 1 9 a1 = true) (h3 : wrap64 (a0 * a1) ≤ 9) (h4 : (l.length : Int) = wrap64 (a0 * a1))
  (H3 : Aside0 (puzzles_grid_cell.f a0 a1 a3 = some false)) :
  Calls Try.prog 97 #[.agg #[.int .i64 a0, .int .i64 a1, .slice A l.length c, .int .i64 a3, .int .i64 a4]] w fun e w' => e = .returned (.tuple #[.agg #[.int .i64 a0, .int .i64 a1, .int .i64 a0, .int .i64 a1, .slice A l.length c, .int .i64 a3, .int .i64 a4], .bool false]) ∧ Below w.heap.size w w' := by
 have hu50 := Try.underlying50
 have hu115 := Try.underlying115
 have hu97 := Try.underlying97
 have e4 : ((l.length : Int) == wrap64 (a0 * a1)) = true := beq_iff_eq.mpr h4
 have e3 : decide (wrap64 (a0 * a1) ≤ 9) = true := decide_eq_true h3
 have hA : ∀ ad, A = some ad → 0 < l.length → ad.block < w.heap.size := fun ad e hp => by
  obtain ⟨ad', e', hcc⟩ := Kd.at_int hr 0 (by omega) (by omega)
  rw [e] at e'
  cases e'
  have := World.block_lt_of_cell? w _ hcc
  simpa [Addr.add] using this
 go_enter Try.func97, Try.ntmps97
 go_wp2_with (first | (go_at_call 67; refine (within_calls _ _ _ _).mono ?_; rintro e w' ⟨rfl, ⟨q, rfl⟩⟩))
 rename_i Q1 K1 hK1
 obtain ⟨n1, HR, n3⟩ := np_new w (.cells #[.int .i64 a0, .int .i64 a1, .slice A l.length c, .int .i64 a3, .int .i64 a4] 50) (.cells #[.int .i64 0, .int .i64 0, .int .i64 0, .int .i64 0, .slice none 0 0, .int .i64 0, .int .i64 0] 115) (.cells #[.int .i64 a0, .int .i64 a1, .int .i64 a0, .int .i64 a1, .slice A l.length c, .int .i64 a3, .int .i64 a4] 115)
 generalize hW : ((w.alloc (.cells #[.int .i64 a0, .int .i64 a1, .slice A l.length c, .int .i64 a3, .int .i64 a4] 50)).alloc (.cells #[.int .i64 0, .int .i64 0, .int .i64 0, .int .i64 0, .slice none 0 0, .int .i64 0, .int .i64 0] 115)).alloc (.cells #[.int .i64 a0, .int .i64 a1, .int .i64 a0, .int .i64 a1, .slice A l.length c, .int .i64 a3, .int .i64 a4] 115) = W at n1 HR n3 ⊢
 have hbW : Below w.heap.size w W := by rw [← hW]; exact ((Same.refl (fun _ => True) w).alloc _ |>.alloc _ |>.alloc _).below (Nat.le_refl _) (fun _ _ => trivial)
 have HN0 : NpS w A c l a0 a1 a3 a4 W.drew := ⟨n1, n3, Kd.C_drewN (Kd.C_below hr hbW) 1, hbW.drew, hA⟩
 have HC := Aside0.mk hc
 clear hr hc hbW hW n1 n3 h1 h2 e3 e4 h3 h4 hA
 replace HR := np_drew HR
 refine start_ (n := 24) (S := fun w' => w'.cell? ⟨w.heap.size + 1 + 1, 0, none⟩ = some (.int .i64 a0) ∧ w'.cell? ⟨w.heap.size + 1 + 1, 1, none⟩ = some (.int .i64 a1) ∧ w'.cell? ⟨w.heap.size + 1 + 1, 2, none⟩ = some (.int .i64 a0) ∧ w'.cell? ⟨w.heap.size + 1 + 1, 3, none⟩ = some (.int .i64 a1) ∧ w'.cell? ⟨w.heap.size + 1 + 1, 4, none⟩ = some (.slice A l.length c) ∧ w'.cell? ⟨w.heap.size + 1 + 1, 5, none⟩ = some (.int .i64 a3) ∧ w'.cell? ⟨w.heap.size + 1 + 1, 6, none⟩ = some (.int .i64 a4) ∧ w'.cell? ⟨w.heap.size, 2, none⟩ = some (.slice A l.length c) ∧ w'.cell? ⟨w.heap.size, 3, none⟩ = some (.int .i64 a3) ∧ w'.cell? ⟨w.heap.size, 4, none⟩ = some (.int .i64 a4) ∧ NpS w A c l a0 a1 a3 a4 w') (ds := []) #[false, false, false, false, false, false, false, false, false, false, false, false, false, false, false, false, false, false, false, false, false, false, false, false] (by kernel_rfl) rfl rfl ⟨HN0.x0, HN0.x1, HN0.x2, HN0.x3, HN0.x4, HN0.x5, HN0.x6, HN0.p2, HN0.p3, HN0.p4, HN0⟩ (fun hHeld => ?_)
 generalize hV_ : W.drew = V at hHeld HR HN0 ⊢
 refine pure_ (i := 1) (N := some 41) (v := ?_) (a' := ?_) #[false, true, false, false, false, false, false, false, false, false, false, false, false, false, false, false, false, false, false, false, false, false, false, false] rfl rfl (by kernel_rfl) (fun _ _ _ h => h) (Or.inl ⟨by rfl, ?_⟩) ?_ ?_
 rotate_left
 ·intro w'
  go_simp
  with_reducible rfl
 rotate_left
 ·simp only [Act.put, List.setIfInBounds_toArray, List.set_cons_zero, List.set_cons_succ, i64_w, i32_w]
  rfl
 refine pure_ (i := 2) (N := some 42) (v := ?_) (a' := ?_) #[false, true, true, false, false, false, false, false, false, false, false, false, false, false, false, false, false, false, false, false, false, false, false, false] rfl rfl (by kernel_rfl) (fun _ _ _ h => h) (Or.inl ⟨by rfl, ?_⟩) ?_ ?_
 rotate_left
 ·intro w'
  go_simp
  with_reducible rfl
 rotate_left
 ·simp only [Act.put, List.setIfInBounds_toArray, List.set_cons_zero, List.set_cons_succ, i64_w, i32_w]
  rfl
 refine pure_ (i := 3) (N := some 43) (v := ?_) (a' := ?_) #[false, true, true, true, false, false, false, false, false, false, false, false, false, false, false, false, false, false, false, false, false, false, false, false] rfl rfl (by kernel_rfl) (fun _ _ _ h => h) (Or.inl ⟨by rfl, ?_⟩) ?_ ?_
 rotate_left
 ·intro w'
  go_simp
  with_reducible rfl
 rotate_left
 ·simp only [Act.put, List.setIfInBounds_toArray, List.set_cons_zero, List.set_cons_succ, i64_w, i32_w]
  rfl
 refine pure_ (i := 5) (N := some 45) (v := ?_) (a' := ?_) #[false, true, true, true, false, true, false, false, false, false, false, false, false, false, false, false, false, false, false, false, false, false, false, false] rfl rfl (by kernel_rfl) (fun _ _ _ h => h) (Or.inl ⟨by rfl, ?_⟩) ?_ ?_
 rotate_left
 ·intro w'
  go_simp
  with_reducible rfl
 rotate_left
 ·simp only [Act.put, List.setIfInBounds_toArray, List.set_cons_zero, List.set_cons_succ, i64_w, i32_w]
  rfl
 refine take_ (i := 0) (N := some 40) (v := ?_) (a' := ?_) #[true, true, true, true, false, true, false, false, false, false, false, false, false, false, false, false, false, false, false, false, false, false, false, false] rfl rfl (by kernel_rfl) (fun _ _ _ h => h) (Or.inl ⟨by rfl, ?_⟩) hHeld ?_ ?_
 rotate_left
 ·rintro w' ⟨s0, s1, s2, s3, s4, s5, s6, s7, s8, s9, s10⟩
  go_simp
  with_reducible rfl
 rotate_left
 ·simp only [Act.put, List.setIfInBounds_toArray, List.set_cons_zero, List.set_cons_succ, i64_w, i32_w]
  rfl
 refine take_ (i := 4) (N := some 44) (v := ?_) (a' := ?_) #[true, true, true, true, true, true, false, false, false, false, false, false, false, false, false, false, false, false, false, false, false, false, false, false] rfl rfl (by kernel_rfl) (fun _ _ _ h => h) (Or.inl ⟨by rfl, ?_⟩) hHeld ?_ ?_
 rotate_left
 ·rintro w' ⟨s0, s1, s2, s3, s4, s5, s6, s7, s8, s9, s10⟩
  go_simp
  with_reducible rfl
 rotate_left
 ·simp only [Act.put, List.setIfInBounds_toArray, List.set_cons_zero, List.set_cons_succ, i64_w, i32_w]
  rfl
 refine take_ (i := 6) (N := some 46) (v := ?_) (a' := ?_) #[true, true, true, true, true, true, true, false, false, false, false, false, false, false, false, false, false, false, false, false, false, false, false, false] rfl rfl (by kernel_rfl) (fun _ _ _ h => h) (Or.inl ⟨by rfl, ?_⟩) hHeld ?_ ?_
 rotate_left
 ·rintro w' ⟨s0, s1, s2, s3, s4, s5, s6, s7, s8, s9, s10⟩
  go_simp
  with_reducible rfl
 rotate_left
 ·simp only [Act.put, List.setIfInBounds_toArray, List.set_cons_zero, List.set_cons_succ, i64_w, i32_w]
  rfl
 refine one_ (i := 7) (N := some 47) #[true, true, true, true, true, true, true, true, false, false, false, false, false, false, false, false, false, false, false, false, false, false, false, false] rfl rfl (by kernel_rfl) (by decide) (fun K hK => ?_)
 refine goes_ Try.func129 (by kernel_rfl) rfl #[.agg #[.int .i64 a0, .int .i64 a1], .int .i64 a3] (by rfl) rfl rfl (by simp only [List.map_toArray, List.map_cons, List.map_nil]; rfl) ?_
 with_reducible refine (puzzles_grid_cell.calls a0 a1 a3 false _ H3.out).mono ?_
 rintro e w1 ⟨rfl, hb⟩
 refine ⟨_, rfl, ?_⟩
 have HN := (hHeld.2.2.2.2.2.2.2.2.2.2).below hb
 have HR := np_keep HR hb
 clear hb
 refine hK.out _ _ ⟨HN.x0, HN.x1, HN.x2, HN.x3, HN.x4, HN.x5, HN.x6, HN.p2, HN.p3, HN.p4, HN⟩ (fun hHeld => ?_)
 clear hK K
 refine norm_ (a' := ?_) ?_ ?_
 rotate_left
 ·show Act.put _ (some 47) _ = _
  simp only [Act.put, List.setIfInBounds_toArray, List.set_cons_zero, List.set_cons_succ, i64_w, i32_w]
  rfl
 refine pure_ (i := 8) (N := some 48) (v := ?_) (a' := ?_) #[true, true, true, true, true, true, true, true, true, false, false, false, false, false, false, false, false, false, false, false, false, false, false, false] rfl rfl (by kernel_rfl) (fun _ _ _ h => h) (Or.inl ⟨by rfl, ?_⟩) ?_ ?_
 rotate_left
 ·intro w'
  go_simp
  with_reducible rfl
 rotate_left
 ·simp only [Act.put, List.setIfInBounds_toArray, List.set_cons_zero, List.set_cons_succ, i64_w, i32_w]
  rfl
 refine pure_ (i := 9) (N := some 49) (v := ?_) (a' := ?_) #[true, true, true, true, true, true, true, true, true, true, false, false, false, false, false, false, false, false, false, false, false, false, false, false] rfl rfl (by kernel_rfl) (fun _ _ _ h => h) (Or.inl ⟨by rfl, ?_⟩) ?_ ?_
 rotate_left
 ·intro w'
  go_simp
  with_reducible rfl
 rotate_left
 ·simp only [Act.put, List.setIfInBounds_toArray, List.set_cons_zero, List.set_cons_succ, i64_w, i32_w]
  rfl
 refine pure_ (i := 10) (N := some 50) (v := undef) (a' := ?_) #[true, true, true, true, true, true, true, true, true, true, true, false, false, false, false, false, false, false, false, false, false, false, false, false] rfl rfl (by kernel_rfl) (fun _ _ _ h => h) (Or.inr ⟨by rfl, rfl⟩) ?_ ?_
 rotate_left
 ·simp only [Act.put, List.setIfInBounds_toArray, List.set_cons_zero, List.set_cons_succ, i64_w, i32_w]
  rfl
 refine pure_ (i := 11) (N := some 51) (v := undef) (a' := ?_) #[true, true, true, true, true, true, true, true, true, true, true, true, false, false, false, false, false, false, false, false, false, false, false, false] rfl rfl (by kernel_rfl) (fun _ _ _ h => h) (Or.inr ⟨by rfl, rfl⟩) ?_ ?_
 rotate_left
 ·simp only [Act.put, List.setIfInBounds_toArray, List.set_cons_zero, List.set_cons_succ, i64_w, i32_w]
  rfl
 refine pure_ (i := 12) (N := some 52) (v := undef) (a' := ?_) #[true, true, true, true, true, true, true, true, true, true, true, true, true, false, false, false, false, false, false, false, false, false, false, false] rfl rfl (by kernel_rfl) (fun _ _ _ h => h) (Or.inr ⟨by rfl, rfl⟩) ?_ ?_
 rotate_left
 ·simp only [Act.put, List.setIfInBounds_toArray, List.set_cons_zero, List.set_cons_succ, i64_w, i32_w]
  rfl
 refine pure_ (i := 13) (N := some 53) (v := undef) (a' := ?_) #[true, true, true, true, true, true, true, true, true, true, true, true, true, true, false, false, false, false, false, false, false, false, false, false] rfl rfl (by kernel_rfl) (fun _ _ _ h => h) (Or.inr ⟨by rfl, rfl⟩) ?_ ?_
 rotate_left
 ·simp only [Act.put, List.setIfInBounds_toArray, List.set_cons_zero, List.set_cons_succ, i64_w, i32_w]
  rfl
 refine pure_ (i := 14) (N := some 54) (v := undef) (a' := ?_) #[true, true, true, true, true, true, true, true, true, true, true, true, true, true, true, false, false, false, false, false, false, false, false, false] rfl rfl (by kernel_rfl) (fun _ _ _ h => h) (Or.inr ⟨by rfl, rfl⟩) ?_ ?_
 rotate_left
 ·simp only [Act.put, List.setIfInBounds_toArray, List.set_cons_zero, List.set_cons_succ, i64_w, i32_w]
  rfl
 refine pure_ (i := 15) (N := some 55) (v := ?_) (a' := ?_) #[true, true, true, true, true, true, true, true, true, true, true, true, true, true, true, true, false, false, false, false, false, false, false, false] rfl rfl (by kernel_rfl) (fun _ _ _ h => h) (Or.inl ⟨by rfl, ?_⟩) ?_ ?_
 rotate_left
 ·intro w'
  go_simp
  with_reducible rfl
 rotate_left
 ·simp only [Act.put, List.setIfInBounds_toArray, List.set_cons_zero, List.set_cons_succ, i64_w, i32_w]
  rfl
 refine pure_ (i := 16) (N := some 56) (v := ?_) (a' := ?_) #[true, true, true, true, true, true, true, true, true, true, true, true, true, true, true, true, true, false, false, false, false, false, false, false] rfl rfl (by kernel_rfl) (fun _ _ _ h => h) (Or.inl ⟨by rfl, ?_⟩) ?_ ?_
 rotate_left
 ·intro w'
  go_simp
  with_reducible rfl
 rotate_left
 ·simp only [Act.put, List.setIfInBounds_toArray, List.set_cons_zero, List.set_cons_succ, i64_w, i32_w]
  rfl
 refine pure_ (i := 17) (N := some 57) (v := undef) (a' := ?_) #[true, true, true, true, true, true, true, true, true, true, true, true, true, true, true, true, true, true, false, false, false, false, false, false] rfl rfl (by kernel_rfl) (fun _ _ _ h => h) (Or.inr ⟨by rfl, rfl⟩) ?_ ?_
 rotate_left
 ·simp only [Act.put, List.setIfInBounds_toArray, List.set_cons_zero, List.set_cons_succ, i64_w, i32_w]
  rfl
 refine pure_ (i := 18) (N := some 58) (v := undef) (a' := ?_) #[true, true, true, true, true, true, true, true, true, true, true, true, true, true, true, true, true, true, true, false, false, false, false, false] rfl rfl (by kernel_rfl) (fun _ _ _ h => h) (Or.inr ⟨by rfl, rfl⟩) ?_ ?_
 rotate_left
 ·simp only [Act.put, List.setIfInBounds_toArray, List.set_cons_zero, List.set_cons_succ, i64_w, i32_w]
  rfl
 refine pure_ (i := 19) (N := some 59) (v := undef) (a' := ?_) #[true, true, true, true, true, true, true, true, true, true, true, true, true, true, true, true, true, true, true, true, false, false, false, false] rfl rfl (by kernel_rfl) (fun _ _ _ h => h) (Or.inr ⟨by rfl, rfl⟩) ?_ ?_
 rotate_left
 ·simp only [Act.put, List.setIfInBounds_toArray, List.set_cons_zero, List.set_cons_succ, i64_w, i32_w]
  rfl
 refine pure_ (i := 20) (N := some 60) (v := undef) (a' := ?_) #[true, true, true, true, true, true, true, true, true, true, true, true, true, true, true, true, true, true, true, true, true, false, false, false] rfl rfl (by kernel_rfl) (fun _ _ _ h => h) (Or.inr ⟨by rfl, rfl⟩) ?_ ?_
 rotate_left
 ·simp only [Act.put, List.setIfInBounds_toArray, List.set_cons_zero, List.set_cons_succ, i64_w, i32_w]
  rfl
 refine pure_ (i := 21) (N := some 61) (v := ?_) (a' := ?_) #[true, true, true, true, true, true, true, true, true, true, true, true, true, true, true, true, true, true, true, true, true, true, false, false] rfl rfl (by kernel_rfl) (fun _ _ _ h => h) (Or.inl ⟨by rfl, ?_⟩) ?_ ?_
 rotate_left
 ·intro w'
  go_simp
  with_reducible rfl
 rotate_left
 ·simp only [Act.put, List.setIfInBounds_toArray, List.set_cons_zero, List.set_cons_succ, i64_w, i32_w]
  rfl
 refine one_ (i := 22) (N := none) #[true, true, true, true, true, true, true, true, true, true, true, true, true, true, true, true, true, true, true, true, true, true, true, false] rfl rfl (by kernel_rfl) (by decide) (fun K hK => ?_)
 obtain ⟨⟨r0, r1, r2, r3, r4, r5, r6⟩, f0, f1, f2, f3, f4, f5, f6⟩ := np_res HR
 refine skip_ (w1 := ?_) (by rfl) rfl ?_ ?_
 rotate_left
 ·go_simp
  rfl
 have HN := (hHeld.2.2.2.2.2.2.2.2.2.2).stored
 have HZ := np_stored (A := A) (c := c) (l := l) (a0 := a0) (a1 := a1) (a3 := a3) (a4 := a4) HR
 clear HR r0 r1 r2 r3 r4 r5 r6 f0 f1 f2 f3 f4 f5 f6
 refine hK.out _ _ ⟨HN.x0, HN.x1, HN.x2, HN.x3, HN.x4, HN.x5, HN.x6, HN.p2, HN.p3, HN.p4, HN⟩ (fun hHeld => ?_)
 clear hK K
 refine pure_ (i := 23) (N := some 3) (v := ?_) (a' := ?_) #[true, true, true, true, true, true, true, true, true, true, true, true, true, true, true, true, true, true, true, true, true, true, true, true] rfl rfl (by kernel_rfl) (fun _ _ _ h => h) (Or.inl ⟨by rfl, ?_⟩) ?_ ?_
 rotate_left
 ·intro w'
  go_simp
  with_reducible rfl
 rotate_left
 ·simp only [Act.put, List.setIfInBounds_toArray, List.set_cons_zero, List.set_cons_succ, i64_w, i32_w]
  rfl
 refine done_ (by kernel_rfl) ?_
 refine hK1 _ _ ?_
 have z0 := blk_cell HZ 0
 have z1 := blk_cell HZ 1
 have z2 := blk_cell HZ 2
 have z3 := blk_cell HZ 3
 have z4 := blk_cell HZ 4
 have z5 := blk_cell HZ 5
 have z6 := blk_cell HZ 6
 have hbel := HN.hb
 clear HZ HN hHeld
 generalize World.setCell (World.setCell (World.setCell (World.setCell (World.setCell (World.setCell (World.setCell _ ⟨w.heap.size + 1, 0, none⟩ (.int .i64 a0)) ⟨w.heap.size + 1, 1, none⟩ (.int .i64 a1)) ⟨w.heap.size + 1, 2, none⟩ (.int .i64 a0)) ⟨w.heap.size + 1, 3, none⟩ (.int .i64 a1)) ⟨w.heap.size + 1, 4, none⟩ (.slice A l.length c)) ⟨w.heap.size + 1, 5, none⟩ (.int .i64 a3)) ⟨w.heap.size + 1, 6, none⟩ (.int .i64 a4) = W3 at z0 z1 z2 z3 z4 z5 z6 hbel ⊢
 simp only [List.getElem?_toArray, List.getElem?_cons_zero, List.getElem?_cons_succ] at z0 z1 z2 z3 z4 z5 z6
 go_wp2
 refine ⟨rfl, .tuple #[.agg #[.int .i64 a0, .int .i64 a1, .int .i64 a0, .int .i64 a1, .slice A l.length c, .int .i64 a3, .int .i64 a4], .bool false], ?_, rfl, hbel⟩
 simp [results, Try.f97, go_sem, z0, z1, z2, z3, z4, z5, z6]
set_option maxHeartbeats 4000000 in
set_option maxRecDepth 100000 in
theorem newPlumbing_to (A : Option Addr) (c : Nat) (l : List Int) (a0 a1 a3 a4 : Int) (b5 : Bool) (w : World) (hr : Kd.C (Kd.int .i64) w A l.length l) (hc : l.length ≤ c)
  (h1 : inR 1 9 a0 = true) (h2 : inR 1 9 a1 = true) (h3 : wrap64 (a0 * a1) ≤ 9) (h4 : (l.length : Int) = wrap64 (a0 * a1))
  (H3 : Aside0 (puzzles_grid_cell.f a0 a1 a3 = some true)) (H4 : Aside0 (puzzles_grid_cell.f a0 a1 a4 = some false)) :
  Calls Try.prog 97 #[.agg #[.int .i64 a0, .int .i64 a1, .slice A l.length c, .int .i64 a3, .int .i64 a4]] w fun e w' => e = .returned (.tuple #[.agg #[.int .i64 a0, .int .i64 a1, .int .i64 a0, .int .i64 a1, .slice A l.length c, .int .i64 a3, .int .i64 a4], .bool false]) ∧ Below w.heap.size w w' := by
 have hu50 := Try.underlying50
 have hu115 := Try.underlying115
 have hu97 := Try.underlying97
 have e4 : ((l.length : Int) == wrap64 (a0 * a1)) = true := beq_iff_eq.mpr h4
 have e3 : decide (wrap64 (a0 * a1) ≤ 9) = true := decide_eq_true h3
 have hA : ∀ ad, A = some ad → 0 < l.length → ad.block < w.heap.size := fun ad e hp => by
  obtain ⟨ad', e', hcc⟩ := Kd.at_int hr 0 (by omega) (by omega)
  rw [e] at e'
  cases e'
  have := World.block_lt_of_cell? w _ hcc
  simpa [Addr.add] using this
 go_enter Try.func97, Try.ntmps97
 go_wp2_with (first | (go_at_call 67; refine (within_calls _ _ _ _).mono ?_; rintro e w' ⟨rfl, ⟨q, rfl⟩⟩))
 rename_i Q1 K1 hK1
 obtain ⟨n1, HR, n3⟩ := np_new w (.cells #[.int .i64 a0, .int .i64 a1, .slice A l.length c, .int .i64 a3, .int .i64 a4] 50) (.cells #[.int .i64 0, .int .i64 0, .int .i64 0, .int .i64 0, .slice none 0 0, .int .i64 0, .int .i64 0] 115) (.cells #[.int .i64 a0, .int .i64 a1, .int .i64 a0, .int .i64 a1, .slice A l.length c, .int .i64 a3, .int .i64 a4] 115)
 generalize hW : ((w.alloc (.cells #[.int .i64 a0, .int .i64 a1, .slice A l.length c, .int .i64 a3, .int .i64 a4] 50)).alloc (.cells #[.int .i64 0, .int .i64 0, .int .i64 0, .int .i64 0, .slice none 0 0, .int .i64 0, .int .i64 0] 115)).alloc (.cells #[.int .i64 a0, .int .i64 a1, .int .i64 a0, .int .i64 a1, .slice A l.length c, .int .i64 a3, .int .i64 a4] 115) = W at n1 HR n3 ⊢
 have hbW : Below w.heap.size w W := by rw [← hW]; exact ((Same.refl (fun _ => True) w).alloc _ |>.alloc _ |>.alloc _).below (Nat.le_refl _) (fun _ _ => trivial)
 have HN0 : NpS w A c l a0 a1 a3 a4 W.drew := ⟨n1, n3, Kd.C_drewN (Kd.C_below hr hbW) 1, hbW.drew, hA⟩
 have HC := Aside0.mk hc
 clear hr hc hbW hW n1 n3 h1 h2 e3 e4 h3 h4 hA
 replace HR := np_drew HR
 refine start_ (n := 24) (S := fun w' => w'.cell? ⟨w.heap.size + 1 + 1, 0, none⟩ = some (.int .i64 a0) ∧ w'.cell? ⟨w.heap.size + 1 + 1, 1, none⟩ = some (.int .i64 a1) ∧ w'.cell? ⟨w.heap.size + 1 + 1, 2, none⟩ = some (.int .i64 a0) ∧ w'.cell? ⟨w.heap.size + 1 + 1, 3, none⟩ = some (.int .i64 a1) ∧ w'.cell? ⟨w.heap.size + 1 + 1, 4, none⟩ = some (.slice A l.length c) ∧ w'.cell? ⟨w.heap.size + 1 + 1, 5, none⟩ = some (.int .i64 a3) ∧ w'.cell? ⟨w.heap.size + 1 + 1, 6, none⟩ = some (.int .i64 a4) ∧ w'.cell? ⟨w.heap.size, 2, none⟩ = some (.slice A l.length c) ∧ w'.cell? ⟨w.heap.size, 3, none⟩ = some (.int .i64 a3) ∧ w'.cell? ⟨w.heap.size, 4, none⟩ = some (.int .i64 a4) ∧ NpS w A c l a0 a1 a3 a4 w') (ds := []) #[false, false, false, false, false, false, false, false, false, false, false, false, false, false, false, false, false, false, false, false, false, false, false, false] (by kernel_rfl) rfl rfl ⟨HN0.x0, HN0.x1, HN0.x2, HN0.x3, HN0.x4, HN0.x5, HN0.x6, HN0.p2, HN0.p3, HN0.p4, HN0⟩ (fun hHeld => ?_)
 generalize hV_ : W.drew = V at hHeld HR HN0 ⊢
 refine pure_ (i := 1) (N := some 41) (v := ?_) (a' := ?_) #[false, true, false, false, false, false, false, false, false, false, false, false, false, false, false, false, false, false, false, false, false, false, false, false] rfl rfl (by kernel_rfl) (fun _ _ _ h => h) (Or.inl ⟨by rfl, ?_⟩) ?_ ?_
 rotate_left
 ·intro w'
  go_simp
  with_reducible rfl
 rotate_left
 ·simp only [Act.put, List.setIfInBounds_toArray, List.set_cons_zero, List.set_cons_succ, i64_w, i32_w]
  rfl
 refine pure_ (i := 2) (N := some 42) (v := ?_) (a' := ?_) #[false, true, true, false, false, false, false, false, false, false, false, false, false, false, false, false, false, false, false, false, false, false, false, false] rfl rfl (by kernel_rfl) (fun _ _ _ h => h) (Or.inl ⟨by rfl, ?_⟩) ?_ ?_
 rotate_left
 ·intro w'
  go_simp
  with_reducible rfl
 rotate_left
 ·simp only [Act.put, List.setIfInBounds_toArray, List.set_cons_zero, List.set_cons_succ, i64_w, i32_w]
  rfl
 refine pure_ (i := 3) (N := some 43) (v := ?_) (a' := ?_) #[false, true, true, true, false, false, false, false, false, false, false, false, false, false, false, false, false, false, false, false, false, false, false, false] rfl rfl (by kernel_rfl) (fun _ _ _ h => h) (Or.inl ⟨by rfl, ?_⟩) ?_ ?_
 rotate_left
 ·intro w'
  go_simp
  with_reducible rfl
 rotate_left
 ·simp only [Act.put, List.setIfInBounds_toArray, List.set_cons_zero, List.set_cons_succ, i64_w, i32_w]
  rfl
 refine pure_ (i := 5) (N := some 45) (v := ?_) (a' := ?_) #[false, true, true, true, false, true, false, false, false, false, false, false, false, false, false, false, false, false, false, false, false, false, false, false] rfl rfl (by kernel_rfl) (fun _ _ _ h => h) (Or.inl ⟨by rfl, ?_⟩) ?_ ?_
 rotate_left
 ·intro w'
  go_simp
  with_reducible rfl
 rotate_left
 ·simp only [Act.put, List.setIfInBounds_toArray, List.set_cons_zero, List.set_cons_succ, i64_w, i32_w]
  rfl
 refine take_ (i := 0) (N := some 40) (v := ?_) (a' := ?_) #[true, true, true, true, false, true, false, false, false, false, false, false, false, false, false, false, false, false, false, false, false, false, false, false] rfl rfl (by kernel_rfl) (fun _ _ _ h => h) (Or.inl ⟨by rfl, ?_⟩) hHeld ?_ ?_
 rotate_left
 ·rintro w' ⟨s0, s1, s2, s3, s4, s5, s6, s7, s8, s9, s10⟩
  go_simp
  with_reducible rfl
 rotate_left
 ·simp only [Act.put, List.setIfInBounds_toArray, List.set_cons_zero, List.set_cons_succ, i64_w, i32_w]
  rfl
 refine take_ (i := 4) (N := some 44) (v := ?_) (a' := ?_) #[true, true, true, true, true, true, false, false, false, false, false, false, false, false, false, false, false, false, false, false, false, false, false, false] rfl rfl (by kernel_rfl) (fun _ _ _ h => h) (Or.inl ⟨by rfl, ?_⟩) hHeld ?_ ?_
 rotate_left
 ·rintro w' ⟨s0, s1, s2, s3, s4, s5, s6, s7, s8, s9, s10⟩
  go_simp
  with_reducible rfl
 rotate_left
 ·simp only [Act.put, List.setIfInBounds_toArray, List.set_cons_zero, List.set_cons_succ, i64_w, i32_w]
  rfl
 refine take_ (i := 6) (N := some 46) (v := ?_) (a' := ?_) #[true, true, true, true, true, true, true, false, false, false, false, false, false, false, false, false, false, false, false, false, false, false, false, false] rfl rfl (by kernel_rfl) (fun _ _ _ h => h) (Or.inl ⟨by rfl, ?_⟩) hHeld ?_ ?_
 rotate_left
 ·rintro w' ⟨s0, s1, s2, s3, s4, s5, s6, s7, s8, s9, s10⟩
  go_simp
  with_reducible rfl
 rotate_left
 ·simp only [Act.put, List.setIfInBounds_toArray, List.set_cons_zero, List.set_cons_succ, i64_w, i32_w]
  rfl
 refine one_ (i := 7) (N := some 47) #[true, true, true, true, true, true, true, true, false, false, false, false, false, false, false, false, false, false, false, false, false, false, false, false] rfl rfl (by kernel_rfl) (by decide) (fun K hK => ?_)
 refine goes_ Try.func129 (by kernel_rfl) rfl #[.agg #[.int .i64 a0, .int .i64 a1], .int .i64 a3] (by rfl) rfl rfl (by simp only [List.map_toArray, List.map_cons, List.map_nil]; rfl) ?_
 with_reducible refine (puzzles_grid_cell.calls a0 a1 a3 true _ H3.out).mono ?_
 rintro e w1 ⟨rfl, hb⟩
 refine ⟨_, rfl, ?_⟩
 have HN := (hHeld.2.2.2.2.2.2.2.2.2.2).below hb
 have HR := np_keep HR hb
 clear hb
 refine hK.out _ _ ⟨HN.x0, HN.x1, HN.x2, HN.x3, HN.x4, HN.x5, HN.x6, HN.p2, HN.p3, HN.p4, HN⟩ (fun hHeld => ?_)
 clear hK K
 refine norm_ (a' := ?_) ?_ ?_
 rotate_left
 ·show Act.put _ (some 47) _ = _
  simp only [Act.put, List.setIfInBounds_toArray, List.set_cons_zero, List.set_cons_succ, i64_w, i32_w]
  rfl
 refine pure_ (i := 8) (N := some 48) (v := ?_) (a' := ?_) #[true, true, true, true, true, true, true, true, true, false, false, false, false, false, false, false, false, false, false, false, false, false, false, false] rfl rfl (by kernel_rfl) (fun _ _ _ h => h) (Or.inl ⟨by rfl, ?_⟩) ?_ ?_
 rotate_left
 ·intro w'
  go_simp
  with_reducible rfl
 rotate_left
 ·simp only [Act.put, List.setIfInBounds_toArray, List.set_cons_zero, List.set_cons_succ, i64_w, i32_w]
  rfl
 refine pure_ (i := 9) (N := some 49) (v := ?_) (a' := ?_) #[true, true, true, true, true, true, true, true, true, true, false, false, false, false, false, false, false, false, false, false, false, false, false, false] rfl rfl (by kernel_rfl) (fun _ _ _ h => h) (Or.inl ⟨by rfl, ?_⟩) ?_ ?_
 rotate_left
 ·intro w'
  go_simp
  with_reducible rfl
 rotate_left
 ·simp only [Act.put, List.setIfInBounds_toArray, List.set_cons_zero, List.set_cons_succ, i64_w, i32_w]
  rfl
 refine pure_ (i := 10) (N := some 50) (v := ?_) (a' := ?_) #[true, true, true, true, true, true, true, true, true, true, true, false, false, false, false, false, false, false, false, false, false, false, false, false] rfl rfl (by kernel_rfl) (fun _ _ _ h => h) (Or.inl ⟨by rfl, ?_⟩) ?_ ?_
 rotate_left
 ·intro w'
  go_simp
  with_reducible rfl
 rotate_left
 ·simp only [Act.put, List.setIfInBounds_toArray, List.set_cons_zero, List.set_cons_succ, i64_w, i32_w]
  rfl
 refine pure_ (i := 12) (N := some 52) (v := ?_) (a' := ?_) #[true, true, true, true, true, true, true, true, true, true, true, false, true, false, false, false, false, false, false, false, false, false, false, false] rfl rfl (by kernel_rfl) (fun _ _ _ h => h) (Or.inl ⟨by rfl, ?_⟩) ?_ ?_
 rotate_left
 ·intro w'
  go_simp
  with_reducible rfl
 rotate_left
 ·simp only [Act.put, List.setIfInBounds_toArray, List.set_cons_zero, List.set_cons_succ, i64_w, i32_w]
  rfl
 refine take_ (i := 11) (N := some 51) (v := ?_) (a' := ?_) #[true, true, true, true, true, true, true, true, true, true, true, true, true, false, false, false, false, false, false, false, false, false, false, false] rfl rfl (by kernel_rfl) (fun _ _ _ h => h) (Or.inl ⟨by rfl, ?_⟩) hHeld ?_ ?_
 rotate_left
 ·rintro w' ⟨s0, s1, s2, s3, s4, s5, s6, s7, s8, s9, s10⟩
  go_simp
  with_reducible rfl
 rotate_left
 ·simp only [Act.put, List.setIfInBounds_toArray, List.set_cons_zero, List.set_cons_succ, i64_w, i32_w]
  rfl
 refine take_ (i := 13) (N := some 53) (v := ?_) (a' := ?_) #[true, true, true, true, true, true, true, true, true, true, true, true, true, true, false, false, false, false, false, false, false, false, false, false] rfl rfl (by kernel_rfl) (fun _ _ _ h => h) (Or.inl ⟨by rfl, ?_⟩) hHeld ?_ ?_
 rotate_left
 ·rintro w' ⟨s0, s1, s2, s3, s4, s5, s6, s7, s8, s9, s10⟩
  go_simp
  with_reducible rfl
 rotate_left
 ·simp only [Act.put, List.setIfInBounds_toArray, List.set_cons_zero, List.set_cons_succ, i64_w, i32_w]
  rfl
 refine one_ (i := 14) (N := some 54) #[true, true, true, true, true, true, true, true, true, true, true, true, true, true, true, false, false, false, false, false, false, false, false, false] rfl rfl (by kernel_rfl) (by decide) (fun K hK => ?_)
 refine goes_ Try.func129 (by kernel_rfl) rfl #[.agg #[.int .i64 a0, .int .i64 a1], .int .i64 a4] (by rfl) rfl rfl (by simp only [List.map_toArray, List.map_cons, List.map_nil]; rfl) ?_
 with_reducible refine (puzzles_grid_cell.calls a0 a1 a4 false _ H4.out).mono ?_
 rintro e w1 ⟨rfl, hb⟩
 refine ⟨_, rfl, ?_⟩
 have HN := (hHeld.2.2.2.2.2.2.2.2.2.2).below hb
 have HR := np_keep HR hb
 clear hb
 refine hK.out _ _ ⟨HN.x0, HN.x1, HN.x2, HN.x3, HN.x4, HN.x5, HN.x6, HN.p2, HN.p3, HN.p4, HN⟩ (fun hHeld => ?_)
 clear hK K
 refine norm_ (a' := ?_) ?_ ?_
 rotate_left
 ·show Act.put _ (some 54) _ = _
  simp only [Act.put, List.setIfInBounds_toArray, List.set_cons_zero, List.set_cons_succ, i64_w, i32_w]
  rfl
 refine pure_ (i := 15) (N := some 55) (v := ?_) (a' := ?_) #[true, true, true, true, true, true, true, true, true, true, true, true, true, true, true, true, false, false, false, false, false, false, false, false] rfl rfl (by kernel_rfl) (fun _ _ _ h => h) (Or.inl ⟨by rfl, ?_⟩) ?_ ?_
 rotate_left
 ·intro w'
  go_simp
  with_reducible rfl
 rotate_left
 ·simp only [Act.put, List.setIfInBounds_toArray, List.set_cons_zero, List.set_cons_succ, i64_w, i32_w]
  rfl
 refine pure_ (i := 16) (N := some 56) (v := ?_) (a' := ?_) #[true, true, true, true, true, true, true, true, true, true, true, true, true, true, true, true, true, false, false, false, false, false, false, false] rfl rfl (by kernel_rfl) (fun _ _ _ h => h) (Or.inl ⟨by rfl, ?_⟩) ?_ ?_
 rotate_left
 ·intro w'
  go_simp
  with_reducible rfl
 rotate_left
 ·simp only [Act.put, List.setIfInBounds_toArray, List.set_cons_zero, List.set_cons_succ, i64_w, i32_w]
  rfl
 refine pure_ (i := 17) (N := some 57) (v := undef) (a' := ?_) #[true, true, true, true, true, true, true, true, true, true, true, true, true, true, true, true, true, true, false, false, false, false, false, false] rfl rfl (by kernel_rfl) (fun _ _ _ h => h) (Or.inr ⟨by rfl, rfl⟩) ?_ ?_
 rotate_left
 ·simp only [Act.put, List.setIfInBounds_toArray, List.set_cons_zero, List.set_cons_succ, i64_w, i32_w]
  rfl
 refine pure_ (i := 18) (N := some 58) (v := undef) (a' := ?_) #[true, true, true, true, true, true, true, true, true, true, true, true, true, true, true, true, true, true, true, false, false, false, false, false] rfl rfl (by kernel_rfl) (fun _ _ _ h => h) (Or.inr ⟨by rfl, rfl⟩) ?_ ?_
 rotate_left
 ·simp only [Act.put, List.setIfInBounds_toArray, List.set_cons_zero, List.set_cons_succ, i64_w, i32_w]
  rfl
 refine pure_ (i := 19) (N := some 59) (v := undef) (a' := ?_) #[true, true, true, true, true, true, true, true, true, true, true, true, true, true, true, true, true, true, true, true, false, false, false, false] rfl rfl (by kernel_rfl) (fun _ _ _ h => h) (Or.inr ⟨by rfl, rfl⟩) ?_ ?_
 rotate_left
 ·simp only [Act.put, List.setIfInBounds_toArray, List.set_cons_zero, List.set_cons_succ, i64_w, i32_w]
  rfl
 refine pure_ (i := 20) (N := some 60) (v := undef) (a' := ?_) #[true, true, true, true, true, true, true, true, true, true, true, true, true, true, true, true, true, true, true, true, true, false, false, false] rfl rfl (by kernel_rfl) (fun _ _ _ h => h) (Or.inr ⟨by rfl, rfl⟩) ?_ ?_
 rotate_left
 ·simp only [Act.put, List.setIfInBounds_toArray, List.set_cons_zero, List.set_cons_succ, i64_w, i32_w]
  rfl
 refine pure_ (i := 21) (N := some 61) (v := ?_) (a' := ?_) #[true, true, true, true, true, true, true, true, true, true, true, true, true, true, true, true, true, true, true, true, true, true, false, false] rfl rfl (by kernel_rfl) (fun _ _ _ h => h) (Or.inl ⟨by rfl, ?_⟩) ?_ ?_
 rotate_left
 ·intro w'
  go_simp
  with_reducible rfl
 rotate_left
 ·simp only [Act.put, List.setIfInBounds_toArray, List.set_cons_zero, List.set_cons_succ, i64_w, i32_w]
  rfl
 refine one_ (i := 22) (N := none) #[true, true, true, true, true, true, true, true, true, true, true, true, true, true, true, true, true, true, true, true, true, true, true, false] rfl rfl (by kernel_rfl) (by decide) (fun K hK => ?_)
 obtain ⟨⟨r0, r1, r2, r3, r4, r5, r6⟩, f0, f1, f2, f3, f4, f5, f6⟩ := np_res HR
 refine skip_ (w1 := ?_) (by rfl) rfl ?_ ?_
 rotate_left
 ·go_simp
  rfl
 have HN := (hHeld.2.2.2.2.2.2.2.2.2.2).stored
 have HZ := np_stored (A := A) (c := c) (l := l) (a0 := a0) (a1 := a1) (a3 := a3) (a4 := a4) HR
 clear HR r0 r1 r2 r3 r4 r5 r6 f0 f1 f2 f3 f4 f5 f6
 refine hK.out _ _ ⟨HN.x0, HN.x1, HN.x2, HN.x3, HN.x4, HN.x5, HN.x6, HN.p2, HN.p3, HN.p4, HN⟩ (fun hHeld => ?_)
 clear hK K
 refine pure_ (i := 23) (N := some 3) (v := ?_) (a' := ?_) #[true, true, true, true, true, true, true, true, true, true, true, true, true, true, true, true, true, true, true, true, true, true, true, true] rfl rfl (by kernel_rfl) (fun _ _ _ h => h) (Or.inl ⟨by rfl, ?_⟩) ?_ ?_
 rotate_left
 ·intro w'
  go_simp
  with_reducible rfl
 rotate_left
 ·simp only [Act.put, List.setIfInBounds_toArray, List.set_cons_zero, List.set_cons_succ, i64_w, i32_w]
  rfl
 refine done_ (by kernel_rfl) ?_
 refine hK1 _ _ ?_
 have z0 := blk_cell HZ 0
 have z1 := blk_cell HZ 1
 have z2 := blk_cell HZ 2
 have z3 := blk_cell HZ 3
 have z4 := blk_cell HZ 4
 have z5 := blk_cell HZ 5
 have z6 := blk_cell HZ 6
 have hbel := HN.hb
 clear HZ HN hHeld
 generalize World.setCell (World.setCell (World.setCell (World.setCell (World.setCell (World.setCell (World.setCell _ ⟨w.heap.size + 1, 0, none⟩ (.int .i64 a0)) ⟨w.heap.size + 1, 1, none⟩ (.int .i64 a1)) ⟨w.heap.size + 1, 2, none⟩ (.int .i64 a0)) ⟨w.heap.size + 1, 3, none⟩ (.int .i64 a1)) ⟨w.heap.size + 1, 4, none⟩ (.slice A l.length c)) ⟨w.heap.size + 1, 5, none⟩ (.int .i64 a3)) ⟨w.heap.size + 1, 6, none⟩ (.int .i64 a4) = W3 at z0 z1 z2 z3 z4 z5 z6 hbel ⊢
 simp only [List.getElem?_toArray, List.getElem?_cons_zero, List.getElem?_cons_succ] at z0 z1 z2 z3 z4 z5 z6
 go_wp2
 refine ⟨rfl, .tuple #[.agg #[.int .i64 a0, .int .i64 a1, .int .i64 a0, .int .i64 a1, .slice A l.length c, .int .i64 a3, .int .i64 a4], .bool false], ?_, rfl, hbel⟩
 simp [results, Try.f97, go_sem, z0, z1, z2, z3, z4, z5, z6]
set_option maxHeartbeats 4000000 in
set_option maxRecDepth 100000 in
theorem newPlumbing_full (A : Option Addr) (c : Nat) (l : List Int) (a0 a1 a3 a4 : Int) (b5 : Bool) (w : World) (hr : Kd.C (Kd.int .i64) w A l.length l) (hc : l.length ≤ c)
  (h1 : inR 1 9 a0 = true) (h2 : inR 1 9 a1 = true) (h3 : wrap64 (a0 * a1) ≤ 9) (h4 : (l.length : Int) = wrap64 (a0 * a1))
  (H3 : Aside0 (puzzles_grid_cell.f a0 a1 a3 = some true)) (H4 : Aside0 (puzzles_grid_cell.f a0 a1 a4 = some true)) (H5 : Aside0 (cf136.f l = some b5)) :
  Calls Try.prog 97 #[.agg #[.int .i64 a0, .int .i64 a1, .slice A l.length c, .int .i64 a3, .int .i64 a4]] w fun e w' => e = .returned (.tuple #[.agg #[.int .i64 a0, .int .i64 a1, .int .i64 a0, .int .i64 a1, .slice A l.length c, .int .i64 a3, .int .i64 a4], .bool (!b5)]) ∧ Below w.heap.size w w' := by
 have hu50 := Try.underlying50
 have hu115 := Try.underlying115
 have hu97 := Try.underlying97
 have e4 : ((l.length : Int) == wrap64 (a0 * a1)) = true := beq_iff_eq.mpr h4
 have e3 : decide (wrap64 (a0 * a1) ≤ 9) = true := decide_eq_true h3
 have hA : ∀ ad, A = some ad → 0 < l.length → ad.block < w.heap.size := fun ad e hp => by
  obtain ⟨ad', e', hcc⟩ := Kd.at_int hr 0 (by omega) (by omega)
  rw [e] at e'
  cases e'
  have := World.block_lt_of_cell? w _ hcc
  simpa [Addr.add] using this
 go_enter Try.func97, Try.ntmps97
 go_wp2_with (first | (go_at_call 67; refine (within_calls _ _ _ _).mono ?_; rintro e w' ⟨rfl, ⟨q, rfl⟩⟩))
 rename_i Q1 K1 hK1
 obtain ⟨n1, HR, n3⟩ := np_new w (.cells #[.int .i64 a0, .int .i64 a1, .slice A l.length c, .int .i64 a3, .int .i64 a4] 50) (.cells #[.int .i64 0, .int .i64 0, .int .i64 0, .int .i64 0, .slice none 0 0, .int .i64 0, .int .i64 0] 115) (.cells #[.int .i64 a0, .int .i64 a1, .int .i64 a0, .int .i64 a1, .slice A l.length c, .int .i64 a3, .int .i64 a4] 115)
 generalize hW : ((w.alloc (.cells #[.int .i64 a0, .int .i64 a1, .slice A l.length c, .int .i64 a3, .int .i64 a4] 50)).alloc (.cells #[.int .i64 0, .int .i64 0, .int .i64 0, .int .i64 0, .slice none 0 0, .int .i64 0, .int .i64 0] 115)).alloc (.cells #[.int .i64 a0, .int .i64 a1, .int .i64 a0, .int .i64 a1, .slice A l.length c, .int .i64 a3, .int .i64 a4] 115) = W at n1 HR n3 ⊢
 have hbW : Below w.heap.size w W := by rw [← hW]; exact ((Same.refl (fun _ => True) w).alloc _ |>.alloc _ |>.alloc _).below (Nat.le_refl _) (fun _ _ => trivial)
 have HN0 : NpS w A c l a0 a1 a3 a4 W.drew := ⟨n1, n3, Kd.C_drewN (Kd.C_below hr hbW) 1, hbW.drew, hA⟩
 have HC := Aside0.mk hc
 clear hr hc hbW hW n1 n3 h1 h2 e3 e4 h3 h4 hA
 replace HR := np_drew HR
 refine start_ (n := 24) (S := fun w' => w'.cell? ⟨w.heap.size + 1 + 1, 0, none⟩ = some (.int .i64 a0) ∧ w'.cell? ⟨w.heap.size + 1 + 1, 1, none⟩ = some (.int .i64 a1) ∧ w'.cell? ⟨w.heap.size + 1 + 1, 2, none⟩ = some (.int .i64 a0) ∧ w'.cell? ⟨w.heap.size + 1 + 1, 3, none⟩ = some (.int .i64 a1) ∧ w'.cell? ⟨w.heap.size + 1 + 1, 4, none⟩ = some (.slice A l.length c) ∧ w'.cell? ⟨w.heap.size + 1 + 1, 5, none⟩ = some (.int .i64 a3) ∧ w'.cell? ⟨w.heap.size + 1 + 1, 6, none⟩ = some (.int .i64 a4) ∧ w'.cell? ⟨w.heap.size, 2, none⟩ = some (.slice A l.length c) ∧ w'.cell? ⟨w.heap.size, 3, none⟩ = some (.int .i64 a3) ∧ w'.cell? ⟨w.heap.size, 4, none⟩ = some (.int .i64 a4) ∧ NpS w A c l a0 a1 a3 a4 w') (ds := []) #[false, false, false, false, false, false, false, false, false, false, false, false, false, false, false, false, false, false, false, false, false, false, false, false] (by kernel_rfl) rfl rfl ⟨HN0.x0, HN0.x1, HN0.x2, HN0.x3, HN0.x4, HN0.x5, HN0.x6, HN0.p2, HN0.p3, HN0.p4, HN0⟩ (fun hHeld => ?_)
 generalize hV_ : W.drew = V at hHeld HR HN0 ⊢
 refine pure_ (i := 1) (N := some 41) (v := ?_) (a' := ?_) #[false, true, false, false, false, false, false, false, false, false, false, false, false, false, false, false, false, false, false, false, false, false, false, false] rfl rfl (by kernel_rfl) (fun _ _ _ h => h) (Or.inl ⟨by rfl, ?_⟩) ?_ ?_
 rotate_left
 ·intro w'
  go_simp
  with_reducible rfl
 rotate_left
 ·simp only [Act.put, List.setIfInBounds_toArray, List.set_cons_zero, List.set_cons_succ, i64_w, i32_w]
  rfl
 refine pure_ (i := 2) (N := some 42) (v := ?_) (a' := ?_) #[false, true, true, false, false, false, false, false, false, false, false, false, false, false, false, false, false, false, false, false, false, false, false, false] rfl rfl (by kernel_rfl) (fun _ _ _ h => h) (Or.inl ⟨by rfl, ?_⟩) ?_ ?_
 rotate_left
 ·intro w'
  go_simp
  with_reducible rfl
 rotate_left
 ·simp only [Act.put, List.setIfInBounds_toArray, List.set_cons_zero, List.set_cons_succ, i64_w, i32_w]
  rfl
 refine pure_ (i := 3) (N := some 43) (v := ?_) (a' := ?_) #[false, true, true, true, false, false, false, false, false, false, false, false, false, false, false, false, false, false, false, false, false, false, false, false] rfl rfl (by kernel_rfl) (fun _ _ _ h => h) (Or.inl ⟨by rfl, ?_⟩) ?_ ?_
 rotate_left
 ·intro w'
  go_simp
  with_reducible rfl
 rotate_left
 ·simp only [Act.put, List.setIfInBounds_toArray, List.set_cons_zero, List.set_cons_succ, i64_w, i32_w]
  rfl
 refine pure_ (i := 5) (N := some 45) (v := ?_) (a' := ?_) #[false, true, true, true, false, true, false, false, false, false, false, false, false, false, false, false, false, false, false, false, false, false, false, false] rfl rfl (by kernel_rfl) (fun _ _ _ h => h) (Or.inl ⟨by rfl, ?_⟩) ?_ ?_
 rotate_left
 ·intro w'
  go_simp
  with_reducible rfl
 rotate_left
 ·simp only [Act.put, List.setIfInBounds_toArray, List.set_cons_zero, List.set_cons_succ, i64_w, i32_w]
  rfl
 refine take_ (i := 0) (N := some 40) (v := ?_) (a' := ?_) #[true, true, true, true, false, true, false, false, false, false, false, false, false, false, false, false, false, false, false, false, false, false, false, false] rfl rfl (by kernel_rfl) (fun _ _ _ h => h) (Or.inl ⟨by rfl, ?_⟩) hHeld ?_ ?_
 rotate_left
 ·rintro w' ⟨s0, s1, s2, s3, s4, s5, s6, s7, s8, s9, s10⟩
  go_simp
  with_reducible rfl
 rotate_left
 ·simp only [Act.put, List.setIfInBounds_toArray, List.set_cons_zero, List.set_cons_succ, i64_w, i32_w]
  rfl
 refine take_ (i := 4) (N := some 44) (v := ?_) (a' := ?_) #[true, true, true, true, true, true, false, false, false, false, false, false, false, false, false, false, false, false, false, false, false, false, false, false] rfl rfl (by kernel_rfl) (fun _ _ _ h => h) (Or.inl ⟨by rfl, ?_⟩) hHeld ?_ ?_
 rotate_left
 ·rintro w' ⟨s0, s1, s2, s3, s4, s5, s6, s7, s8, s9, s10⟩
  go_simp
  with_reducible rfl
 rotate_left
 ·simp only [Act.put, List.setIfInBounds_toArray, List.set_cons_zero, List.set_cons_succ, i64_w, i32_w]
  rfl
 refine take_ (i := 6) (N := some 46) (v := ?_) (a' := ?_) #[true, true, true, true, true, true, true, false, false, false, false, false, false, false, false, false, false, false, false, false, false, false, false, false] rfl rfl (by kernel_rfl) (fun _ _ _ h => h) (Or.inl ⟨by rfl, ?_⟩) hHeld ?_ ?_
 rotate_left
 ·rintro w' ⟨s0, s1, s2, s3, s4, s5, s6, s7, s8, s9, s10⟩
  go_simp
  with_reducible rfl
 rotate_left
 ·simp only [Act.put, List.setIfInBounds_toArray, List.set_cons_zero, List.set_cons_succ, i64_w, i32_w]
  rfl
 refine one_ (i := 7) (N := some 47) #[true, true, true, true, true, true, true, true, false, false, false, false, false, false, false, false, false, false, false, false, false, false, false, false] rfl rfl (by kernel_rfl) (by decide) (fun K hK => ?_)
 refine goes_ Try.func129 (by kernel_rfl) rfl #[.agg #[.int .i64 a0, .int .i64 a1], .int .i64 a3] (by rfl) rfl rfl (by simp only [List.map_toArray, List.map_cons, List.map_nil]; rfl) ?_
 with_reducible refine (puzzles_grid_cell.calls a0 a1 a3 true _ H3.out).mono ?_
 rintro e w1 ⟨rfl, hb⟩
 refine ⟨_, rfl, ?_⟩
 have HN := (hHeld.2.2.2.2.2.2.2.2.2.2).below hb
 have HR := np_keep HR hb
 clear hb
 refine hK.out _ _ ⟨HN.x0, HN.x1, HN.x2, HN.x3, HN.x4, HN.x5, HN.x6, HN.p2, HN.p3, HN.p4, HN⟩ (fun hHeld => ?_)
 clear hK K
 refine norm_ (a' := ?_) ?_ ?_
 rotate_left
 ·show Act.put _ (some 47) _ = _
  simp only [Act.put, List.setIfInBounds_toArray, List.set_cons_zero, List.set_cons_succ, i64_w, i32_w]
  rfl
 refine pure_ (i := 8) (N := some 48) (v := ?_) (a' := ?_) #[true, true, true, true, true, true, true, true, true, false, false, false, false, false, false, false, false, false, false, false, false, false, false, false] rfl rfl (by kernel_rfl) (fun _ _ _ h => h) (Or.inl ⟨by rfl, ?_⟩) ?_ ?_
 rotate_left
 ·intro w'
  go_simp
  with_reducible rfl
 rotate_left
 ·simp only [Act.put, List.setIfInBounds_toArray, List.set_cons_zero, List.set_cons_succ, i64_w, i32_w]
  rfl
 refine pure_ (i := 9) (N := some 49) (v := ?_) (a' := ?_) #[true, true, true, true, true, true, true, true, true, true, false, false, false, false, false, false, false, false, false, false, false, false, false, false] rfl rfl (by kernel_rfl) (fun _ _ _ h => h) (Or.inl ⟨by rfl, ?_⟩) ?_ ?_
 rotate_left
 ·intro w'
  go_simp
  with_reducible rfl
 rotate_left
 ·simp only [Act.put, List.setIfInBounds_toArray, List.set_cons_zero, List.set_cons_succ, i64_w, i32_w]
  rfl
 refine pure_ (i := 10) (N := some 50) (v := ?_) (a' := ?_) #[true, true, true, true, true, true, true, true, true, true, true, false, false, false, false, false, false, false, false, false, false, false, false, false] rfl rfl (by kernel_rfl) (fun _ _ _ h => h) (Or.inl ⟨by rfl, ?_⟩) ?_ ?_
 rotate_left
 ·intro w'
  go_simp
  with_reducible rfl
 rotate_left
 ·simp only [Act.put, List.setIfInBounds_toArray, List.set_cons_zero, List.set_cons_succ, i64_w, i32_w]
  rfl
 refine pure_ (i := 12) (N := some 52) (v := ?_) (a' := ?_) #[true, true, true, true, true, true, true, true, true, true, true, false, true, false, false, false, false, false, false, false, false, false, false, false] rfl rfl (by kernel_rfl) (fun _ _ _ h => h) (Or.inl ⟨by rfl, ?_⟩) ?_ ?_
 rotate_left
 ·intro w'
  go_simp
  with_reducible rfl
 rotate_left
 ·simp only [Act.put, List.setIfInBounds_toArray, List.set_cons_zero, List.set_cons_succ, i64_w, i32_w]
  rfl
 refine take_ (i := 11) (N := some 51) (v := ?_) (a' := ?_) #[true, true, true, true, true, true, true, true, true, true, true, true, true, false, false, false, false, false, false, false, false, false, false, false] rfl rfl (by kernel_rfl) (fun _ _ _ h => h) (Or.inl ⟨by rfl, ?_⟩) hHeld ?_ ?_
 rotate_left
 ·rintro w' ⟨s0, s1, s2, s3, s4, s5, s6, s7, s8, s9, s10⟩
  go_simp
  with_reducible rfl
 rotate_left
 ·simp only [Act.put, List.setIfInBounds_toArray, List.set_cons_zero, List.set_cons_succ, i64_w, i32_w]
  rfl
 refine take_ (i := 13) (N := some 53) (v := ?_) (a' := ?_) #[true, true, true, true, true, true, true, true, true, true, true, true, true, true, false, false, false, false, false, false, false, false, false, false] rfl rfl (by kernel_rfl) (fun _ _ _ h => h) (Or.inl ⟨by rfl, ?_⟩) hHeld ?_ ?_
 rotate_left
 ·rintro w' ⟨s0, s1, s2, s3, s4, s5, s6, s7, s8, s9, s10⟩
  go_simp
  with_reducible rfl
 rotate_left
 ·simp only [Act.put, List.setIfInBounds_toArray, List.set_cons_zero, List.set_cons_succ, i64_w, i32_w]
  rfl
 refine one_ (i := 14) (N := some 54) #[true, true, true, true, true, true, true, true, true, true, true, true, true, true, true, false, false, false, false, false, false, false, false, false] rfl rfl (by kernel_rfl) (by decide) (fun K hK => ?_)
 refine goes_ Try.func129 (by kernel_rfl) rfl #[.agg #[.int .i64 a0, .int .i64 a1], .int .i64 a4] (by rfl) rfl rfl (by simp only [List.map_toArray, List.map_cons, List.map_nil]; rfl) ?_
 with_reducible refine (puzzles_grid_cell.calls a0 a1 a4 true _ H4.out).mono ?_
 rintro e w1 ⟨rfl, hb⟩
 refine ⟨_, rfl, ?_⟩
 have HN := (hHeld.2.2.2.2.2.2.2.2.2.2).below hb
 have HR := np_keep HR hb
 clear hb
 refine hK.out _ _ ⟨HN.x0, HN.x1, HN.x2, HN.x3, HN.x4, HN.x5, HN.x6, HN.p2, HN.p3, HN.p4, HN⟩ (fun hHeld => ?_)
 clear hK K
 refine norm_ (a' := ?_) ?_ ?_
 rotate_left
 ·show Act.put _ (some 54) _ = _
  simp only [Act.put, List.setIfInBounds_toArray, List.set_cons_zero, List.set_cons_succ, i64_w, i32_w]
  rfl
 refine pure_ (i := 15) (N := some 55) (v := ?_) (a' := ?_) #[true, true, true, true, true, true, true, true, true, true, true, true, true, true, true, true, false, false, false, false, false, false, false, false] rfl rfl (by kernel_rfl) (fun _ _ _ h => h) (Or.inl ⟨by rfl, ?_⟩) ?_ ?_
 rotate_left
 ·intro w'
  go_simp
  with_reducible rfl
 rotate_left
 ·simp only [Act.put, List.setIfInBounds_toArray, List.set_cons_zero, List.set_cons_succ, i64_w, i32_w]
  rfl
 refine pure_ (i := 16) (N := some 56) (v := ?_) (a' := ?_) #[true, true, true, true, true, true, true, true, true, true, true, true, true, true, true, true, true, false, false, false, false, false, false, false] rfl rfl (by kernel_rfl) (fun _ _ _ h => h) (Or.inl ⟨by rfl, ?_⟩) ?_ ?_
 rotate_left
 ·intro w'
  go_simp
  with_reducible rfl
 rotate_left
 ·simp only [Act.put, List.setIfInBounds_toArray, List.set_cons_zero, List.set_cons_succ, i64_w, i32_w]
  rfl
 refine pure_ (i := 17) (N := some 57) (v := ?_) (a' := ?_) #[true, true, true, true, true, true, true, true, true, true, true, true, true, true, true, true, true, true, false, false, false, false, false, false] rfl rfl (by kernel_rfl) (fun _ _ _ h => h) (Or.inl ⟨by rfl, ?_⟩) ?_ ?_
 rotate_left
 ·intro w'
  go_simp
  with_reducible rfl
 rotate_left
 ·simp only [Act.put, List.setIfInBounds_toArray, List.set_cons_zero, List.set_cons_succ, i64_w, i32_w]
  rfl
 refine take_ (i := 18) (N := some 58) (v := ?_) (a' := ?_) #[true, true, true, true, true, true, true, true, true, true, true, true, true, true, true, true, true, true, true, false, false, false, false, false] rfl rfl (by kernel_rfl) (fun _ _ _ h => h) (Or.inl ⟨by rfl, ?_⟩) hHeld ?_ ?_
 rotate_left
 ·rintro w' ⟨s0, s1, s2, s3, s4, s5, s6, s7, s8, s9, s10⟩
  go_simp
  with_reducible rfl
 rotate_left
 ·simp only [Act.put, List.setIfInBounds_toArray, List.set_cons_zero, List.set_cons_succ, i64_w, i32_w]
  rfl
 refine one_ (i := 19) (N := some 59) #[true, true, true, true, true, true, true, true, true, true, true, true, true, true, true, true, true, true, true, true, false, false, false, false] rfl rfl (by kernel_rfl) (by decide) (fun K hK => ?_)
 refine goes_ Try.func68 (by kernel_rfl) rfl #[.slice A l.length c, .func (.func 136) #[] #[]] (by rfl) rfl rfl (by simp only [List.map_toArray, List.map_cons, List.map_nil]; rfl) ?_
 with_reducible refine (cf136.calls A c l b5 _ (hHeld.2.2.2.2.2.2.2.2.2.2).hr HC.out H5.out).mono ?_
 rintro e w1 ⟨rfl, ⟨q, rfl⟩⟩
 refine ⟨_, rfl, ?_⟩
 have HN := (hHeld.2.2.2.2.2.2.2.2.2.2).drewN q
 have HR := np_draw HR q
 refine hK.out _ _ ⟨HN.x0, HN.x1, HN.x2, HN.x3, HN.x4, HN.x5, HN.x6, HN.p2, HN.p3, HN.p4, HN⟩ (fun hHeld => ?_)
 clear hK K
 refine norm_ (a' := ?_) ?_ ?_
 rotate_left
 ·show Act.put _ (some 59) _ = _
  simp only [Act.put, List.setIfInBounds_toArray, List.set_cons_zero, List.set_cons_succ, i64_w, i32_w]
  rfl
 refine pure_ (i := 20) (N := some 60) (v := ?_) (a' := ?_) #[true, true, true, true, true, true, true, true, true, true, true, true, true, true, true, true, true, true, true, true, true, false, false, false] rfl rfl (by kernel_rfl) (fun _ _ _ h => h) (Or.inl ⟨by rfl, ?_⟩) ?_ ?_
 rotate_left
 ·intro w'
  go_simp
  with_reducible rfl
 rotate_left
 ·simp only [Act.put, List.setIfInBounds_toArray, List.set_cons_zero, List.set_cons_succ, i64_w, i32_w]
  rfl
 refine pure_ (i := 21) (N := some 61) (v := ?_) (a' := ?_) #[true, true, true, true, true, true, true, true, true, true, true, true, true, true, true, true, true, true, true, true, true, true, false, false] rfl rfl (by kernel_rfl) (fun _ _ _ h => h) (Or.inl ⟨by rfl, ?_⟩) ?_ ?_
 rotate_left
 ·intro w'
  go_simp
  with_reducible rfl
 rotate_left
 ·simp only [Act.put, List.setIfInBounds_toArray, List.set_cons_zero, List.set_cons_succ, i64_w, i32_w]
  rfl
 refine one_ (i := 22) (N := none) #[true, true, true, true, true, true, true, true, true, true, true, true, true, true, true, true, true, true, true, true, true, true, true, false] rfl rfl (by kernel_rfl) (by decide) (fun K hK => ?_)
 obtain ⟨⟨r0, r1, r2, r3, r4, r5, r6⟩, f0, f1, f2, f3, f4, f5, f6⟩ := np_res HR
 refine skip_ (w1 := ?_) (by rfl) rfl ?_ ?_
 rotate_left
 ·go_simp
  rfl
 have HN := (hHeld.2.2.2.2.2.2.2.2.2.2).stored
 have HZ := np_stored (A := A) (c := c) (l := l) (a0 := a0) (a1 := a1) (a3 := a3) (a4 := a4) HR
 clear HR r0 r1 r2 r3 r4 r5 r6 f0 f1 f2 f3 f4 f5 f6
 refine hK.out _ _ ⟨HN.x0, HN.x1, HN.x2, HN.x3, HN.x4, HN.x5, HN.x6, HN.p2, HN.p3, HN.p4, HN⟩ (fun hHeld => ?_)
 clear hK K
 refine pure_ (i := 23) (N := some 3) (v := ?_) (a' := ?_) #[true, true, true, true, true, true, true, true, true, true, true, true, true, true, true, true, true, true, true, true, true, true, true, true] rfl rfl (by kernel_rfl) (fun _ _ _ h => h) (Or.inl ⟨by rfl, ?_⟩) ?_ ?_
 rotate_left
 ·intro w'
  go_simp
  with_reducible rfl
 rotate_left
 ·simp only [Act.put, List.setIfInBounds_toArray, List.set_cons_zero, List.set_cons_succ, i64_w, i32_w]
  rfl
 refine done_ (by kernel_rfl) ?_
 refine hK1 _ _ ?_
 have z0 := blk_cell HZ 0
 have z1 := blk_cell HZ 1
 have z2 := blk_cell HZ 2
 have z3 := blk_cell HZ 3
 have z4 := blk_cell HZ 4
 have z5 := blk_cell HZ 5
 have z6 := blk_cell HZ 6
 have hbel := HN.hb
 clear HZ HN hHeld
 generalize World.setCell (World.setCell (World.setCell (World.setCell (World.setCell (World.setCell (World.setCell _ ⟨w.heap.size + 1, 0, none⟩ (.int .i64 a0)) ⟨w.heap.size + 1, 1, none⟩ (.int .i64 a1)) ⟨w.heap.size + 1, 2, none⟩ (.int .i64 a0)) ⟨w.heap.size + 1, 3, none⟩ (.int .i64 a1)) ⟨w.heap.size + 1, 4, none⟩ (.slice A l.length c)) ⟨w.heap.size + 1, 5, none⟩ (.int .i64 a3)) ⟨w.heap.size + 1, 6, none⟩ (.int .i64 a4) = W3 at z0 z1 z2 z3 z4 z5 z6 hbel ⊢
 simp only [List.getElem?_toArray, List.getElem?_cons_zero, List.getElem?_cons_succ] at z0 z1 z2 z3 z4 z5 z6
 go_wp2
 refine ⟨rfl, .tuple #[.agg #[.int .i64 a0, .int .i64 a1, .int .i64 a0, .int .i64 a1, .slice A l.length c, .int .i64 a3, .int .i64 a4], .bool (!b5)], ?_, rfl, hbel⟩
 simp [results, Try.f97, go_sem, z0, z1, z2, z3, z4, z5, z6]
set_option maxHeartbeats 8000000 in
set_option maxRecDepth 100000 in
theorem newPlumbing_no (A : Option Addr) (c : Nat) (l : List Int) (a0 a1 a3 a4 : Int) (b5 : Bool) (w : World) (hr : Kd.C (Kd.int .i64) w A l.length l) (hc : l.length ≤ c)
  (hno : inR 1 9 a0 = false ∨ (inR 1 9 a0 = true ∧ inR 1 9 a1 = false) ∨ (inR 1 9 a0 = true ∧ inR 1 9 a1 = true ∧ decide (wrap64 (a0 * a1) ≤ 9) = false) ∨ (inR 1 9 a0 = true ∧ inR 1 9 a1 = true ∧ decide (wrap64 (a0 * a1) ≤ 9) = true ∧ ((l.length : Int) == wrap64 (a0 * a1)) = false)) :
  Calls Try.prog 97 #[.agg #[.int .i64 a0, .int .i64 a1, .slice A l.length c, .int .i64 a3, .int .i64 a4]] w fun e w' => e = .returned (.tuple #[.agg #[.int .i64 a0, .int .i64 a1, .int .i64 a0, .int .i64 a1, .slice A l.length c, .int .i64 a3, .int .i64 a4], .bool false]) ∧ Below w.heap.size w w' := by
 have hu50 := Try.underlying50
 have hu115 := Try.underlying115
 have hu97 := Try.underlying97
 have hA : ∀ ad, A = some ad → 0 < l.length → ad.block < w.heap.size := fun ad e hp => by
  obtain ⟨ad', e', hcc⟩ := Kd.at_int hr 0 (by omega) (by omega)
  rw [e] at e'
  cases e'
  have := World.block_lt_of_cell? w _ hcc
  simpa [Addr.add] using this
 rcases hno with h1 | ⟨h1, h2⟩ | ⟨h1, h2, h3⟩ | ⟨h1, h2, h3, h4⟩
 all_goals
  go_enter Try.func97, Try.ntmps97
  go_wp2_with (first | (go_at_call 67; refine (within_calls _ _ _ _).mono ?_; rintro e w' ⟨rfl, ⟨q, rfl⟩⟩))
  rename_i Q1 K1 hK1
  obtain ⟨n1, HR, n3⟩ := np_new w (.cells #[.int .i64 a0, .int .i64 a1, .slice A l.length c, .int .i64 a3, .int .i64 a4] 50) (.cells #[.int .i64 0, .int .i64 0, .int .i64 0, .int .i64 0, .slice none 0 0, .int .i64 0, .int .i64 0] 115) (.cells #[.int .i64 a0, .int .i64 a1, .int .i64 a0, .int .i64 a1, .slice A l.length c, .int .i64 a3, .int .i64 a4] 115)
  generalize hW : ((w.alloc (.cells #[.int .i64 a0, .int .i64 a1, .slice A l.length c, .int .i64 a3, .int .i64 a4] 50)).alloc (.cells #[.int .i64 0, .int .i64 0, .int .i64 0, .int .i64 0, .slice none 0 0, .int .i64 0, .int .i64 0] 115)).alloc (.cells #[.int .i64 a0, .int .i64 a1, .int .i64 a0, .int .i64 a1, .slice A l.length c, .int .i64 a3, .int .i64 a4] 115) = W at n1 HR n3 ⊢
  have hbW : Below w.heap.size w W := by rw [← hW]; exact ((Same.refl (fun _ => True) w).alloc _ |>.alloc _ |>.alloc _).below (Nat.le_refl _) (fun _ _ => trivial)
  have HN0 : NpS w A c l a0 a1 a3 a4 W.drew := ⟨n1, n3, Kd.C_drewN (Kd.C_below hr hbW) 1, hbW.drew, hA⟩
  have HC := Aside0.mk hc
  clear hr hc hbW hW n1 n3 hA
  replace HR := np_drew HR
  refine start_ (n := 24) (S := fun w' => w'.cell? ⟨w.heap.size + 1 + 1, 0, none⟩ = some (.int .i64 a0) ∧ w'.cell? ⟨w.heap.size + 1 + 1, 1, none⟩ = some (.int .i64 a1) ∧ w'.cell? ⟨w.heap.size + 1 + 1, 2, none⟩ = some (.int .i64 a0) ∧ w'.cell? ⟨w.heap.size + 1 + 1, 3, none⟩ = some (.int .i64 a1) ∧ w'.cell? ⟨w.heap.size + 1 + 1, 4, none⟩ = some (.slice A l.length c) ∧ w'.cell? ⟨w.heap.size + 1 + 1, 5, none⟩ = some (.int .i64 a3) ∧ w'.cell? ⟨w.heap.size + 1 + 1, 6, none⟩ = some (.int .i64 a4) ∧ w'.cell? ⟨w.heap.size, 2, none⟩ = some (.slice A l.length c) ∧ w'.cell? ⟨w.heap.size, 3, none⟩ = some (.int .i64 a3) ∧ w'.cell? ⟨w.heap.size, 4, none⟩ = some (.int .i64 a4) ∧ NpS w A c l a0 a1 a3 a4 w') (ds := []) #[false, false, false, false, false, false, false, false, false, false, false, false, false, false, false, false, false, false, false, false, false, false, false, false] (by kernel_rfl) rfl rfl ⟨HN0.x0, HN0.x1, HN0.x2, HN0.x3, HN0.x4, HN0.x5, HN0.x6, HN0.p2, HN0.p3, HN0.p4, HN0⟩ (fun hHeld => ?_)
  generalize hV_ : W.drew = V at hHeld HR HN0 ⊢
  refine pure_ (i := 1) (N := some 41) (v := ?_) (a' := ?_) #[false, true, false, false, false, false, false, false, false, false, false, false, false, false, false, false, false, false, false, false, false, false, false, false] rfl rfl (by kernel_rfl) (fun _ _ _ h => h) (Or.inl ⟨by rfl, ?_⟩) ?_ ?_
  rotate_left
  ·intro w'
   go_simp
   with_reducible rfl
  rotate_left
  ·simp only [Act.put, List.setIfInBounds_toArray, List.set_cons_zero, List.set_cons_succ, i64_w, i32_w]
   rfl
  refine pure_ (i := 2) (N := some 42) (v := ?_) (a' := ?_) #[false, true, true, false, false, false, false, false, false, false, false, false, false, false, false, false, false, false, false, false, false, false, false, false] rfl rfl (by kernel_rfl) (fun _ _ _ h => h) (Or.inl ⟨by rfl, ?_⟩) ?_ ?_
  rotate_left
  ·intro w'
   go_simp
   with_reducible rfl
  rotate_left
  ·simp only [Act.put, List.setIfInBounds_toArray, List.set_cons_zero, List.set_cons_succ, i64_w, i32_w]
   rfl
  refine pure_ (i := 3) (N := some 43) (v := undef) (a' := ?_) #[false, true, true, true, false, false, false, false, false, false, false, false, false, false, false, false, false, false, false, false, false, false, false, false] rfl rfl (by kernel_rfl) (fun _ _ _ h => h) (Or.inr ⟨by rfl, rfl⟩) ?_ ?_
  rotate_left
  ·simp only [Act.put, List.setIfInBounds_toArray, List.set_cons_zero, List.set_cons_succ, i64_w, i32_w]
   rfl
  refine pure_ (i := 4) (N := some 44) (v := undef) (a' := ?_) #[false, true, true, true, true, false, false, false, false, false, false, false, false, false, false, false, false, false, false, false, false, false, false, false] rfl rfl (by kernel_rfl) (fun _ _ _ h => h) (Or.inr ⟨by rfl, rfl⟩) ?_ ?_
  rotate_left
  ·simp only [Act.put, List.setIfInBounds_toArray, List.set_cons_zero, List.set_cons_succ, i64_w, i32_w]
   rfl
  refine pure_ (i := 5) (N := some 45) (v := undef) (a' := ?_) #[false, true, true, true, true, true, false, false, false, false, false, false, false, false, false, false, false, false, false, false, false, false, false, false] rfl rfl (by kernel_rfl) (fun _ _ _ h => h) (Or.inr ⟨by rfl, rfl⟩) ?_ ?_
  rotate_left
  ·simp only [Act.put, List.setIfInBounds_toArray, List.set_cons_zero, List.set_cons_succ, i64_w, i32_w]
   rfl
  refine pure_ (i := 6) (N := some 46) (v := undef) (a' := ?_) #[false, true, true, true, true, true, true, false, false, false, false, false, false, false, false, false, false, false, false, false, false, false, false, false] rfl rfl (by kernel_rfl) (fun _ _ _ h => h) (Or.inr ⟨by rfl, rfl⟩) ?_ ?_
  rotate_left
  ·simp only [Act.put, List.setIfInBounds_toArray, List.set_cons_zero, List.set_cons_succ, i64_w, i32_w]
   rfl
  refine pure_ (i := 7) (N := some 47) (v := undef) (a' := ?_) #[false, true, true, true, true, true, true, true, false, false, false, false, false, false, false, false, false, false, false, false, false, false, false, false] rfl rfl (by kernel_rfl) (fun _ _ _ h => h) (Or.inr ⟨by rfl, rfl⟩) ?_ ?_
  rotate_left
  ·simp only [Act.put, List.setIfInBounds_toArray, List.set_cons_zero, List.set_cons_succ, i64_w, i32_w]
   rfl
  refine pure_ (i := 8) (N := some 48) (v := ?_) (a' := ?_) #[false, true, true, true, true, true, true, true, true, false, false, false, false, false, false, false, false, false, false, false, false, false, false, false] rfl rfl (by kernel_rfl) (fun _ _ _ h => h) (Or.inl ⟨by rfl, ?_⟩) ?_ ?_
  rotate_left
  ·intro w'
   go_simp
   with_reducible rfl
  rotate_left
  ·simp only [Act.put, List.setIfInBounds_toArray, List.set_cons_zero, List.set_cons_succ, i64_w, i32_w]
   rfl
  refine pure_ (i := 9) (N := some 49) (v := ?_) (a' := ?_) #[false, true, true, true, true, true, true, true, true, true, false, false, false, false, false, false, false, false, false, false, false, false, false, false] rfl rfl (by kernel_rfl) (fun _ _ _ h => h) (Or.inl ⟨by rfl, ?_⟩) ?_ ?_
  rotate_left
  ·intro w'
   go_simp
   with_reducible rfl
  rotate_left
  ·simp only [Act.put, List.setIfInBounds_toArray, List.set_cons_zero, List.set_cons_succ, i64_w, i32_w]
   rfl
  refine pure_ (i := 10) (N := some 50) (v := undef) (a' := ?_) #[false, true, true, true, true, true, true, true, true, true, true, false, false, false, false, false, false, false, false, false, false, false, false, false] rfl rfl (by kernel_rfl) (fun _ _ _ h => h) (Or.inr ⟨by rfl, rfl⟩) ?_ ?_
  rotate_left
  ·simp only [Act.put, List.setIfInBounds_toArray, List.set_cons_zero, List.set_cons_succ, i64_w, i32_w]
   rfl
  refine pure_ (i := 11) (N := some 51) (v := undef) (a' := ?_) #[false, true, true, true, true, true, true, true, true, true, true, true, false, false, false, false, false, false, false, false, false, false, false, false] rfl rfl (by kernel_rfl) (fun _ _ _ h => h) (Or.inr ⟨by rfl, rfl⟩) ?_ ?_
  rotate_left
  ·simp only [Act.put, List.setIfInBounds_toArray, List.set_cons_zero, List.set_cons_succ, i64_w, i32_w]
   rfl
  refine pure_ (i := 12) (N := some 52) (v := undef) (a' := ?_) #[false, true, true, true, true, true, true, true, true, true, true, true, true, false, false, false, false, false, false, false, false, false, false, false] rfl rfl (by kernel_rfl) (fun _ _ _ h => h) (Or.inr ⟨by rfl, rfl⟩) ?_ ?_
  rotate_left
  ·simp only [Act.put, List.setIfInBounds_toArray, List.set_cons_zero, List.set_cons_succ, i64_w, i32_w]
   rfl
  refine pure_ (i := 13) (N := some 53) (v := undef) (a' := ?_) #[false, true, true, true, true, true, true, true, true, true, true, true, true, true, false, false, false, false, false, false, false, false, false, false] rfl rfl (by kernel_rfl) (fun _ _ _ h => h) (Or.inr ⟨by rfl, rfl⟩) ?_ ?_
  rotate_left
  ·simp only [Act.put, List.setIfInBounds_toArray, List.set_cons_zero, List.set_cons_succ, i64_w, i32_w]
   rfl
  refine pure_ (i := 14) (N := some 54) (v := undef) (a' := ?_) #[false, true, true, true, true, true, true, true, true, true, true, true, true, true, true, false, false, false, false, false, false, false, false, false] rfl rfl (by kernel_rfl) (fun _ _ _ h => h) (Or.inr ⟨by rfl, rfl⟩) ?_ ?_
  rotate_left
  ·simp only [Act.put, List.setIfInBounds_toArray, List.set_cons_zero, List.set_cons_succ, i64_w, i32_w]
   rfl
  refine pure_ (i := 15) (N := some 55) (v := ?_) (a' := ?_) #[false, true, true, true, true, true, true, true, true, true, true, true, true, true, true, true, false, false, false, false, false, false, false, false] rfl rfl (by kernel_rfl) (fun _ _ _ h => h) (Or.inl ⟨by rfl, ?_⟩) ?_ ?_
  rotate_left
  ·intro w'
   go_simp
   with_reducible rfl
  rotate_left
  ·simp only [Act.put, List.setIfInBounds_toArray, List.set_cons_zero, List.set_cons_succ, i64_w, i32_w]
   rfl
  refine pure_ (i := 16) (N := some 56) (v := ?_) (a' := ?_) #[false, true, true, true, true, true, true, true, true, true, true, true, true, true, true, true, true, false, false, false, false, false, false, false] rfl rfl (by kernel_rfl) (fun _ _ _ h => h) (Or.inl ⟨by rfl, ?_⟩) ?_ ?_
  rotate_left
  ·intro w'
   go_simp
   with_reducible rfl
  rotate_left
  ·simp only [Act.put, List.setIfInBounds_toArray, List.set_cons_zero, List.set_cons_succ, i64_w, i32_w]
   rfl
  refine pure_ (i := 17) (N := some 57) (v := undef) (a' := ?_) #[false, true, true, true, true, true, true, true, true, true, true, true, true, true, true, true, true, true, false, false, false, false, false, false] rfl rfl (by kernel_rfl) (fun _ _ _ h => h) (Or.inr ⟨by rfl, rfl⟩) ?_ ?_
  rotate_left
  ·simp only [Act.put, List.setIfInBounds_toArray, List.set_cons_zero, List.set_cons_succ, i64_w, i32_w]
   rfl
  refine pure_ (i := 18) (N := some 58) (v := undef) (a' := ?_) #[false, true, true, true, true, true, true, true, true, true, true, true, true, true, true, true, true, true, true, false, false, false, false, false] rfl rfl (by kernel_rfl) (fun _ _ _ h => h) (Or.inr ⟨by rfl, rfl⟩) ?_ ?_
  rotate_left
  ·simp only [Act.put, List.setIfInBounds_toArray, List.set_cons_zero, List.set_cons_succ, i64_w, i32_w]
   rfl
  refine pure_ (i := 19) (N := some 59) (v := undef) (a' := ?_) #[false, true, true, true, true, true, true, true, true, true, true, true, true, true, true, true, true, true, true, true, false, false, false, false] rfl rfl (by kernel_rfl) (fun _ _ _ h => h) (Or.inr ⟨by rfl, rfl⟩) ?_ ?_
  rotate_left
  ·simp only [Act.put, List.setIfInBounds_toArray, List.set_cons_zero, List.set_cons_succ, i64_w, i32_w]
   rfl
  refine pure_ (i := 20) (N := some 60) (v := undef) (a' := ?_) #[false, true, true, true, true, true, true, true, true, true, true, true, true, true, true, true, true, true, true, true, true, false, false, false] rfl rfl (by kernel_rfl) (fun _ _ _ h => h) (Or.inr ⟨by rfl, rfl⟩) ?_ ?_
  rotate_left
  ·simp only [Act.put, List.setIfInBounds_toArray, List.set_cons_zero, List.set_cons_succ, i64_w, i32_w]
   rfl
  refine pure_ (i := 21) (N := some 61) (v := ?_) (a' := ?_) #[false, true, true, true, true, true, true, true, true, true, true, true, true, true, true, true, true, true, true, true, true, true, false, false] rfl rfl (by kernel_rfl) (fun _ _ _ h => h) (Or.inl ⟨by rfl, ?_⟩) ?_ ?_
  rotate_left
  ·intro w'
   go_simp
   with_reducible rfl
  rotate_left
  ·simp only [Act.put, List.setIfInBounds_toArray, List.set_cons_zero, List.set_cons_succ, i64_w, i32_w]
   rfl
  refine take_ (i := 0) (N := some 40) (v := ?_) (a' := ?_) #[true, true, true, true, true, true, true, true, true, true, true, true, true, true, true, true, true, true, true, true, true, true, false, false] rfl rfl (by kernel_rfl) (fun _ _ _ h => h) (Or.inl ⟨by rfl, ?_⟩) hHeld ?_ ?_
  rotate_left
  ·rintro w' ⟨s0, s1, s2, s3, s4, s5, s6, s7, s8, s9, s10⟩
   go_simp
   with_reducible rfl
  rotate_left
  ·simp only [Act.put, List.setIfInBounds_toArray, List.set_cons_zero, List.set_cons_succ, i64_w, i32_w]
   rfl
  refine one_ (i := 22) (N := none) #[true, true, true, true, true, true, true, true, true, true, true, true, true, true, true, true, true, true, true, true, true, true, true, false] rfl rfl (by kernel_rfl) (by decide) (fun K hK => ?_)
  obtain ⟨⟨r0, r1, r2, r3, r4, r5, r6⟩, f0, f1, f2, f3, f4, f5, f6⟩ := np_res HR
  refine skip_ (w1 := ?_) (by rfl) rfl ?_ ?_
  rotate_left
  ·go_simp
   rfl
  have HN := (hHeld.2.2.2.2.2.2.2.2.2.2).stored
  have HZ := np_stored (A := A) (c := c) (l := l) (a0 := a0) (a1 := a1) (a3 := a3) (a4 := a4) HR
  clear HR r0 r1 r2 r3 r4 r5 r6 f0 f1 f2 f3 f4 f5 f6
  refine hK.out _ _ ⟨HN.x0, HN.x1, HN.x2, HN.x3, HN.x4, HN.x5, HN.x6, HN.p2, HN.p3, HN.p4, HN⟩ (fun hHeld => ?_)
  clear hK K
  refine pure_ (i := 23) (N := some 3) (v := ?_) (a' := ?_) #[true, true, true, true, true, true, true, true, true, true, true, true, true, true, true, true, true, true, true, true, true, true, true, true] rfl rfl (by kernel_rfl) (fun _ _ _ h => h) (Or.inl ⟨by rfl, ?_⟩) ?_ ?_
  rotate_left
  ·intro w'
   go_simp
   with_reducible rfl
  rotate_left
  ·simp only [Act.put, List.setIfInBounds_toArray, List.set_cons_zero, List.set_cons_succ, i64_w, i32_w]
   rfl
  refine done_ (by kernel_rfl) ?_
  refine hK1 _ _ ?_
  have z0 := blk_cell HZ 0
  have z1 := blk_cell HZ 1
  have z2 := blk_cell HZ 2
  have z3 := blk_cell HZ 3
  have z4 := blk_cell HZ 4
  have z5 := blk_cell HZ 5
  have z6 := blk_cell HZ 6
  have hbel := HN.hb
  clear HZ HN hHeld
  generalize World.setCell (World.setCell (World.setCell (World.setCell (World.setCell (World.setCell (World.setCell _ ⟨w.heap.size + 1, 0, none⟩ (.int .i64 a0)) ⟨w.heap.size + 1, 1, none⟩ (.int .i64 a1)) ⟨w.heap.size + 1, 2, none⟩ (.int .i64 a0)) ⟨w.heap.size + 1, 3, none⟩ (.int .i64 a1)) ⟨w.heap.size + 1, 4, none⟩ (.slice A l.length c)) ⟨w.heap.size + 1, 5, none⟩ (.int .i64 a3)) ⟨w.heap.size + 1, 6, none⟩ (.int .i64 a4) = W3 at z0 z1 z2 z3 z4 z5 z6 hbel ⊢
  simp only [List.getElem?_toArray, List.getElem?_cons_zero, List.getElem?_cons_succ] at z0 z1 z2 z3 z4 z5 z6
  go_wp2
  refine ⟨rfl, .tuple #[.agg #[.int .i64 a0, .int .i64 a1, .int .i64 a0, .int .i64 a1, .slice A l.length c, .int .i64 a3, .int .i64 a4], .bool false], ?_, rfl, hbel⟩
  simp [results, Try.f97, go_sem, z0, z1, z2, z3, z4, z5, z6]
def cellB (a0 a1 n : Int) : Bool := inR 0 (wrap64 (wrap64 (a0 * a1) - 1)) n
theorem cell_val (a0 a1 n : Int) : puzzles_grid_cell.f a0 a1 n = some (cellB a0 a1 n) := by
 unfold puzzles_grid_cell.f puzzles_within.f cellB inR
 by_cases h : n ≥ 0
 ·simp [h]
 ·simp [h]
/-- Are pipes valid? -/
def plumbB (a0 a1 : Int) (l : List Int) (a3 a4 : Int) : Bool :=
 inR 1 9 a0 && (inR 1 9 a1 && (decide (wrap64 (a0 * a1) ≤ 9) && (((l.length : Int) == wrap64 (a0 * a1)) && (cellB a0 a1 a3 && (cellB a0 a1 a4 && !(l.any fun x => !inR 0 15 x))))))
theorem newPlumbing_calls (A : Option Addr) (c : Nat) (l : List Int) (a0 a1 a3 a4 : Int) (w : World) (hr : Kd.C (Kd.int .i64) w A l.length l) (hc : l.length ≤ c) :
  Calls Try.prog 97 #[.agg #[.int .i64 a0, .int .i64 a1, .slice A l.length c, .int .i64 a3, .int .i64 a4]] w fun e w' => e = .returned (.tuple #[.agg #[.int .i64 a0, .int .i64 a1, .int .i64 a0, .int .i64 a1, .slice A l.length c, .int .i64 a3, .int .i64 a4], .bool (plumbB a0 a1 l a3 a4)]) ∧ Below w.heap.size w w' := by
 unfold plumbB
 have g3 := cell_val a0 a1 a3
 have g4 := cell_val a0 a1 a4
 cases h1 : inR 1 9 a0 with
 | false => exact newPlumbing_no A c l a0 a1 a3 a4 false w hr hc (.inl h1)
 | true =>
  cases h2 : inR 1 9 a1 with
  | false => exact newPlumbing_no A c l a0 a1 a3 a4 false w hr hc (.inr (.inl ⟨h1, h2⟩))
  | true =>
   cases h3 : decide (wrap64 (a0 * a1) ≤ 9) with
   | false => exact newPlumbing_no A c l a0 a1 a3 a4 false w hr hc (.inr (.inr (.inl ⟨h1, h2, h3⟩)))
   | true =>
    cases h4 : ((l.length : Int) == wrap64 (a0 * a1)) with
    | false => exact newPlumbing_no A c l a0 a1 a3 a4 false w hr hc (.inr (.inr (.inr ⟨h1, h2, h3, h4⟩)))
    | true =>
     cases h5 : cellB a0 a1 a3 with
     | false => exact newPlumbing_from A c l a0 a1 a3 a4 false w hr hc h1 h2 (of_decide_eq_true h3) (beq_iff_eq.1 h4) ⟨by rw [g3, h5]⟩
     | true =>
      cases h6 : cellB a0 a1 a4 with
      | false => exact newPlumbing_to A c l a0 a1 a3 a4 false w hr hc h1 h2 (of_decide_eq_true h3) (beq_iff_eq.1 h4) ⟨by rw [g3, h5]⟩ ⟨by rw [g4, h6]⟩
      | true => exact newPlumbing_full A c l a0 a1 a3 a4 (l.any fun x => !inR 0 15 x) w hr hc h1 h2 (of_decide_eq_true h3) (beq_iff_eq.1 h4) ⟨by rw [g3, h5]⟩ ⟨by rw [g4, h6]⟩ ⟨rfl⟩

end Go.Proofs.Ytdhiijleafcfcaa.T
