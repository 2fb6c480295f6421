/- The iterator of all hangings: what comes, in which order. -/
import Derived.Test.YtdhiijleafcfcaaT0
import Derived.Test.YtdhiijleafcfcaaHp
import Derived.Test.YtdhiijleafcfcaaHr
import Derived.Test.YtdhiijleafcfcaaWe
namespace Go.Proofs.Ytdhiijleafcfcaa.T
open Go.RowKit Go.Proofs.YtdhiijleafcfcaaW.PrintWords Go.Proofs.YtdhiijleafcfcaaW.PrintLast Go.Proofs.YtdhiijleafcfcaaW.PrintMore
attribute [local go_sem] max2_int min2_int max_two min_two max_three min_three max_four min_four
set_option linter.unusedVariables false
set_option linter.unusedSimpArgs false

abbrev HX := Nat × Nat × List Int
def hY (x : HX) : Array Value := #[.slice (some ⟨x.1, 0, none⟩) x.2.2.length x.2.1]
def hRd (x : HX) (W : World) : Prop := (∃ cur : Array Value, W.heap[x.1]? = some (.cells cur 3 (0, 0))) ∧ Kd.C (Kd.int .i64) W (some ⟨x.1, 0, none⟩) x.2.2.length x.2.2 ∧ x.2.2.length ≤ x.2.1 ∧ x.2.2.length ≤ 6
structure HEnv (N : Nat) (l : List S76) (A : Option Addr) (c Bn Bl Bh By Bp Bx g lp base : Nat) (D : Nat → Prop) (v : Value) (W : World) (pl p : List Int) : Prop where
 hn : W.cell? ⟨Bn, 0, none⟩ = some (.int .i64 (N : Int))
 hl : W.cell? ⟨Bl, 0, none⟩ = some (.slice A l.length c)
 hr : Kd.C k76 W A l.length l
 hy : W.cell? ⟨By, 0, none⟩ = some (.func (.yield lp) #[] #[])
 hx : W.cell? ⟨Bx, 0, none⟩ = some (.func (.func 152) #[] #[.pointer (some ⟨Bh, 0, none⟩), .pointer (some ⟨Bn, 0, none⟩), .pointer (some ⟨Bl, 0, none⟩), .pointer (some ⟨Bp, 0, none⟩), .pointer (some ⟨By, 0, none⟩), .pointer (some ⟨Bx, 0, none⟩)])
 hp : W.cell? ⟨Bp, 0, none⟩ = some (.slice (some ⟨g, 0, none⟩) N N)
 hg : W.heap[g]? = some (.cells (pl.map (Value.int .i64)).toArray 3 (0, 0))
 hh : W.heap[Bh]? = some (.cells #[v] 22 (0, 0))
 hv : Kd.R (Kd.int .i64) 3 W base (fun k => some k = v.ownBlock) v p
 vo : ∀ k, v.ownBlock = some k → D k ∧ k ≠ g ∧ k ≠ Bh ∧ k ≠ By ∧ k ≠ Bp ∧ k ≠ Bx
 dh : D Bh
 dy : D By
 dp : D Bp
 dx : D Bx
 dg : D g
 db : ∀ k, D k → base ≤ k ∧ k < W.heap.size
structure HApart (l : List S76) (A : Option Addr) (Bn Bl Bh By Bp Bx g base : Nat) (K : Nat → Prop) : Prop where
 kn : K Bn ∧ Bn < base
 kl : K Bl ∧ Bl < base
 kA : ∀ ad, A = some ad → 0 < l.length → K ad.block ∧ ad.block < base
 hg : Bh ≠ g ∧ By ≠ g ∧ Bp ≠ g ∧ Bx ≠ g
 hh : By ≠ Bh ∧ Bp ≠ Bh ∧ Bx ≠ Bh
section
variable {N : Nat} {l : List S76} {A : Option Addr} {c Bn Bl Bh By Bp Bx g lp base : Nat} {D K : Nat → Prop} {v : Value} {W W' : World} {pl p : List Int}
theorem readsS {K : Nat → Prop} {a b : World} (h : Same K a b) {A : Option Addr} {n : Nat} {xs : List S76} (hr : Kd.C k76 a A n xs) (hK : ∀ ad, A = some ad → 0 < n → K ad.block) : Kd.C k76 b A n xs := by
 refine ⟨hr.1, hr.2.1, fun hn => ?_⟩
 obtain ⟨ad, e, hc⟩ := hr.2.2 hn
 refine ⟨ad, e, fun j p hj => ?_⟩
 obtain ⟨cs, h1, h2, h3⟩ := hc j p hj
 obtain rfl := k76_open h2
 exact ⟨_, h1, k76_mk _ _, fun i u hu => h.cell (by rw [show (ad.add (j * k76.sz + i)).block = ad.block from by unfold Addr.add; split <;> rfl]; exact hK ad e hn) (h3 i u hu)⟩
/-- Whatever keeps what the iterator owns and what it was given. -/
theorem HEnv.same (h : HEnv N l A c Bn Bl Bh By Bp Bx g lp base D v W pl p) (hA : HApart l A Bn Bl Bh By Bp Bx g base K) (hS : Same (fun k => D k ∨ K k) W W') : HEnv N l A c Bn Bl Bh By Bp Bx g lp base D v W' pl p :=
 ⟨hS.cell (.inr hA.kn.1) h.hn, hS.cell (.inr hA.kl.1) h.hl, readsS hS h.hr (fun ad e hn => .inr (hA.kA ad e hn).1), hS.cell (.inl h.dy) h.hy, hS.cell (.inl h.dx) h.hx, hS.cell (.inl h.dp) h.hp, hS.at_ (.inl h.dg) h.hg, hS.at_ (.inl h.dh) h.hh,
  Kd.R_step h.hv (fun k hk hlt => hS.block k hlt (.inl (h.vo k hk.symm).1)), h.vo, h.dh, h.dy, h.dp, h.dx, h.dg, fun k hk => ⟨(h.db k hk).1, Nat.lt_of_lt_of_le (h.db k hk).2 hS.size⟩⟩
theorem HEnv.below (h : HEnv N l A c Bn Bl Bh By Bp Bx g lp base D v W pl p) (hA : HApart l A Bn Bl Bh By Bp Bx g base K) (hb : Below W.heap.size W W') : HEnv N l A c Bn Bl Bh By Bp Bx g lp base D v W' pl p :=
 h.same hA (Same.of_below hb (fun k hk _ => hk))
/-- A portrait is hung up, or taken down: the row of places is written. -/
theorem HEnv.place (h : HEnv N l A c Bn Bl Bh By Bp Bx g lp base D v W pl p) (hA : HApart l A Bn Bl Bh By Bp Bx g base K) (i : Nat) (z : Int) : HEnv N l A c Bn Bl Bh By Bp Bx g lp base D v (W.setCell ⟨g, i, none⟩ (.int .i64 z)) (pl.set i z) p := by
 have hb := (h.db g h.dg).1
 have hS : Same (fun k => k ≠ g) W (W.setCell ⟨g, i, none⟩ (.int .i64 z)) := (Same.refl _ W).setCell ⟨g, i, none⟩ (by simp) _
 refine ⟨hS.cell (by have := hA.kn.2; show Bn ≠ g; omega) h.hn, hS.cell (by have := hA.kl.2; show Bl ≠ g; omega) h.hl, readsS hS h.hr (fun ad e hn => by have := (hA.kA ad e hn).2; omega), hS.cell hA.hg.2.1 h.hy, hS.cell hA.hg.2.2.2 h.hx, hS.cell hA.hg.2.2.1 h.hp, ?_, hS.at_ hA.hg.1 h.hh,
  Kd.R_step h.hv (fun k hk hlt => hS.block k hlt (h.vo k hk.symm).2.1), h.vo, h.dh, h.dy, h.dp, h.dx, h.dg, fun k hk => ⟨(h.db k hk).1, Nat.lt_of_lt_of_le (h.db k hk).2 hS.size⟩⟩
 rw [blk_set h.hg]
 simp [List.map_set]
theorem HEnv.v_base (h : HEnv N l A c Bn Bl Bh By Bp Bx g lp base D v W pl p) (k : Nat) (hk : v.ownBlock = some k) : base ≤ k ∧ k < W.heap.size := h.db k (h.vo k hk).1
/-- The hanging is written down again. -/
theorem HEnv.store {D1 : Nat → Prop} {v1 : Value} {q : List Int} (h : HEnv N l A c Bn Bl Bh By Bp Bx g lp base D v W pl p) (hA : HApart l A Bn Bl Bh By Bp Bx g base K) (hS : Same (fun k => some k ≠ v.ownBlock) W W') (hR : Kd.R (Kd.int .i64) 3 W' base (fun _ => True) v1 q)
  (hv1 : v1.ownBlock = v.ownBlock ∨ ∃ b, v1.ownBlock = some b ∧ W.heap.size ≤ b) (hD1 : ∀ k, D1 k ↔ D k ∨ v1.ownBlock = some k) : HEnv N l A c Bn Bl Bh By Bp Bx g lp base D1 v1 (W'.setCell ⟨Bh, 0, none⟩ v1) pl q := by
 have hbh := (h.db Bh h.dh)
 have hS2 : Same (fun k => k ≠ Bh) W' (W'.setCell ⟨Bh, 0, none⟩ v1) := (Same.refl _ W').setCell ⟨Bh, 0, none⟩ (by simp) _
 have hS3 : Same (fun k => k ≠ Bh ∧ some k ≠ v.ownBlock) W (W'.setCell ⟨Bh, 0, none⟩ v1) := (hS.mono (fun _ _ hk => hk.2)).trans (hS2.mono (fun _ _ hk => hk.1))
 have lo : ∀ k, k < base → k ≠ Bh ∧ some k ≠ v.ownBlock := fun k hk => ⟨by omega, fun e => by have := (h.v_base k e.symm).1; omega⟩
 have ne : ∀ k, (D k → k ≠ g → k ≠ Bh → k ≠ By → k ≠ Bp → k ≠ Bx → False) → some k ≠ v.ownBlock := fun k hk e => by
  obtain ⟨h1, h2, h3, h4, h5, h6⟩ := h.vo k e.symm
  exact hk h1 h2 h3 h4 h5 h6
 have vo1 : ∀ k, v1.ownBlock = some k → k ≠ g ∧ k ≠ Bh ∧ k ≠ By ∧ k ≠ Bp ∧ k ≠ Bx := fun k hk => by
  rcases hv1 with e | ⟨b, e, hb⟩
  ·exact (h.vo k (by rw [← e]; exact hk)).2
  ·rw [e] at hk
   obtain rfl := Option.some.inj hk
   have a1 := (h.db g h.dg).2
   have a2 := (h.db By h.dy).2
   have a3 := (h.db Bp h.dp).2
   have a4 := (h.db Bx h.dx).2
   exact ⟨by omega, by omega, by omega, by omega, by omega⟩
 have hRb := Kd.R_base hR
 have hRl := Kd.R_lt hR
 have hz : (W'.setCell ⟨Bh, 0, none⟩ v1).heap.size = W'.heap.size := by simp [World.setCell]
 have hhW' : W'.heap[Bh]? = some (.cells #[v] 22 (0, 0)) := hS.at_ (ne Bh (fun _ _ h2 => absurd rfl h2)) h.hh
 refine ⟨hS3.cell (lo Bn hA.kn.2) h.hn, hS3.cell (lo Bl hA.kl.2) h.hl, readsS hS3 h.hr (fun ad e hn => lo _ (hA.kA ad e hn).2), hS3.cell ⟨hA.hh.1, ne By (fun _ _ _ h3 => absurd rfl h3)⟩ h.hy, hS3.cell ⟨hA.hh.2.2, ne Bx (fun _ _ _ _ _ h5 => absurd rfl h5)⟩ h.hx,
  hS3.cell ⟨hA.hh.2.1, ne Bp (fun _ _ _ _ h4 => absurd rfl h4)⟩ h.hp, hS3.at_ ⟨hA.hg.1.symm, ne g (fun _ h1 => absurd rfl h1)⟩ h.hg, ?_, ?_, fun k hk => ⟨(hD1 k).2 (.inr hk), vo1 k hk⟩, (hD1 _).2 (.inl h.dh), (hD1 _).2 (.inl h.dy), (hD1 _).2 (.inl h.dp), (hD1 _).2 (.inl h.dx), (hD1 _).2 (.inl h.dg), fun k hk => ?_⟩
 ·simpa using blk_set (u := v1) (i := 0) hhW'
 ·exact Kd.R_step (Kd.R_tight rfl hR) (fun k hk hlt => hS2.block k hlt (vo1 k hk.symm).2.1)
 ·rw [hz]
  rcases (hD1 k).1 hk with hk | hk
  ·exact ⟨(h.db k hk).1, Nat.lt_of_lt_of_le (h.db k hk).2 hS.size⟩
  ·exact ⟨hRb k hk, hRl k hk⟩
/-- One is taken down from the end of the hanging. -/
theorem HEnv.cut {Ah : Option Addr} {ch : Nat} {x : Int} (h : HEnv N l A c Bn Bl Bh By Bp Bx g lp base D (.slice Ah (p.length + 1) ch) W pl (p ++ [x])) (hA : HApart l A Bn Bl Bh By Bp Bx g base K) : HEnv N l A c Bn Bl Bh By Bp Bx g lp base D (.slice Ah p.length ch) (W.setCell ⟨Bh, 0, none⟩ (.slice Ah p.length ch)) pl p := by
 have e : (Value.slice Ah p.length ch).ownBlock = (Value.slice Ah (p.length + 1) ch).ownBlock := by cases Ah <;> rfl
 have hR := Kd.R_take (m := p.length) h.hv (by simp)
 rw [List.take_left] at hR
 exact h.store hA (Same.refl _ W) (Kd.R_mono hR (fun _ _ => trivial)) (.inl e) (fun k => ⟨.inl, fun hk => by
  rcases hk with hk | hk
  ·exact hk
  ·rw [e] at hk; exact (h.vo k hk).1⟩)
theorem HEnv.C (h : HEnv N l A c Bn Bl Bh By Bp Bx g lp base D v W pl p) (hl : pl.length ≤ 10) : Kd.C (Kd.int .i64) W (some ⟨g, 0, none⟩) pl.length pl := wRd_C (g, pl, 0) W ⟨h.hg, hl⟩
end
set_option maxRecDepth 100000 in
theorem clos153 (Bp g : Nat) (pl : List Int) (l : List S76) (w : World) (hc : w.cell? ⟨Bp, 0, none⟩ = some (.slice (some ⟨g, 0, none⟩) pl.length pl.length)) (hr : Kd.C (Kd.int .i64) w (some ⟨g, 0, none⟩) pl.length pl) (hl : ∀ s ∈ l, saidB s (pl.length : Int) = true) :
  PredB 153 #[.pointer (some ⟨Bp, 0, none⟩)] (fun s => !holdsB s pl) l w := fun x hx V hb => by
 show Calls Try.prog 153 #[.agg #[.int .i64 x.f0, .int .i64 x.f1, .int .i64 x.f2, .int .i64 x.f3, .bool x.f4], .pointer (some ⟨Bp, 0, none⟩)] V fun e w' => e = .returned (.bool (!holdsB x pl)) ∧ Below V.heap.size V w'
 have hu76 := Try.underlying76
 have hv := holds_val x pl (pl.length : Int) rfl (hl x hx)
 have hlt := World.block_lt_of_cell? w _ hc
 have hcV := (hb.cell hlt).trans hc
 have hltV := World.block_lt_of_cell? V _ hcV
 generalize holdsB x pl = r at hv ⊢
 have HV := Aside0.mk hv
 have HR := Aside0.mk (Kd.C_alloc (Kd.C_below hr hb) (.cells #[.int .i64 x.f0, .int .i64 x.f1, .int .i64 x.f2, .int .i64 x.f3, .bool x.f4] 76))
 have hcA : (V.alloc (.cells #[.int .i64 x.f0, .int .i64 x.f1, .int .i64 x.f2, .int .i64 x.f3, .bool x.f4] 76)).cell? ⟨Bp, 0, none⟩ = some (.slice (some ⟨g, 0, none⟩) pl.length pl.length) := (World.cell?_of_block (Below.heap_alloc V _ Bp hltV)).trans hcV
 clear hv hb hc hcV hr hl hx
 go_enter Try.func153, Try.ntmps153
 go_wp2_with (go_at_call 154; refine (puzzles_holds.calls x.f0 x.f1 x.f2 x.f3 x.f4 (some ⟨g, 0, none⟩) pl.length pl r _ HR.out (Nat.le_refl _) HV.out).mono ?_; rintro e w' ⟨rfl, hb⟩; have HB := Aside0.mk hb; clear hb)
 go_ret
 exact ⟨rfl, Below.trans (below_alloc (Below.refl _ _) _) (HB.out.mono (by simp))⟩
/-- What the rounds promise. -/
def HYields (lp : Nat) (J Jx : List HX → (Nat → Prop) → World → Prop) (K : Nat → Prop) (base : Nat) : Prop :=
 ∀ (n : Nat) pre x D W1, J pre D W1 → hRd x W1 → (∀ k, D k → base ≤ k ∧ k < W1.heap.size) → YieldAt Fence.wide n Try.prog lp (hY x) W1 fun e W' =>
   (e = .returned (.bool true) ∧ J (pre ++ [x]) D W' ∧ Same (fun k => D k ∨ K k) W1 W') ∨ (e = .returned (.bool false) ∧ Jx (pre ++ [x]) D W')
/-- What a call of next leaves. -/
structure HPost (J Jx : List HX → (Nat → Prop) → World → Prop) (Env : (Nat → Prop) → World → Prop) (pre : List HX) (outs : List (List Int)) (b : Bool) (W' : World) : Prop where
 yes : b = true → ∃ D' xs, xs.map (fun x => x.2.2) = outs ∧ J (pre ++ xs) D' W' ∧ Env D' W'
 no : b = false → ∃ D' q, q.map (fun x => x.2.2) <+: outs ∧ Jx (pre ++ q) D' W'
section
variable {N : Nat} {l : List S76} {A : Option Addr} {c Bn Bl Bh By Bp Bx g lp base : Nat} {K : Nat → Prop} {J Jx : List HX → (Nat → Prop) → World → Prop}
set_option maxHeartbeats 4000000 in
set_option maxRecDepth 100000 in
theorem hnext_end (hA : HApart l A Bn Bl Bh By Bp Bx g base K) (hJ' : Jlaw J) (hY' : HYields lp J Jx K base) (hc : l.length ≤ c) (h1 : 1 ≤ N) (h6 : N ≤ 6) (hs : ∀ s ∈ l, saidB s (N : Int) = true)
  (p : List Int) (hpN : p.length = N) (pre : List HX) (D : Nat → Prop) (v : Value) (W : World) (hJ : J pre D W) (hE : HEnv N l A c Bn Bl Bh By Bp Bx g lp base D v W (plOf N p) p) :
  Calls Try.prog 152 #[.pointer (some ⟨Bh, 0, none⟩), .pointer (some ⟨Bn, 0, none⟩), .pointer (some ⟨Bl, 0, none⟩), .pointer (some ⟨Bp, 0, none⟩), .pointer (some ⟨By, 0, none⟩), .pointer (some ⟨Bx, 0, none⟩)] W
   (RetB (HPost J Jx (fun D' W' => ∃ v', HEnv N l A c Bn Bl Bh By Bp Bx g lp base D' v' W' (plOf N p) p) pre (hOuts N (okH N l) 0 p))) := by
 obtain ⟨Av, cv, rfl⟩ := Kd.R_slice hE.hv
 obtain ⟨_, hcv, hRC⟩ := Kd.R_reads' hE.hv
 obtain ⟨g', rfl⟩ : ∃ g', Av = some ⟨g', 0, none⟩ := by
  cases Av with
  | none => exact absurd (hRC.2.2 (by omega)) (by rintro ⟨ad, e, _⟩; cases e)
  | some ad => obtain ⟨g', rfl⟩ := Kd.R_head hE.hv; exact ⟨g', rfl⟩
 have hcells := Kd.R_typed hE.hv g' rfl
 have hlenp : (plOf N p).length = N := plOf_len N p
 have hcont := containsS_calls 153 #[.pointer (some ⟨Bp, 0, none⟩)] (fun s => !holdsB s (plOf N p)) (enters_of Try.func153 (by kernel_rfl) rfl) A c l W
  (clos153 Bp g (plOf N p) l W (by rw [hlenp]; exact hE.hp) (hE.C (by omega)) (by rw [hlenp]; exact hs)) hE.hr hc
 have hEl := hE.hl
 have hEn := hE.hn
 have hEh := blk_cell hE.hh 0
 have hEy := hE.hy
 simp only [List.getElem?_toArray, List.getElem?_cons_zero] at hEh
 have HH := Aside0.mk hEh
 have HY0 := Aside0.mk hEy
 have hBh : Bh < W.heap.size := blk_lt hE.hh
 have hBy : By < W.heap.size := World.block_lt_of_cell? W _ hEy
 have HE := Aside0.mk hE
 have HJ := Aside0.mk hJ
 have HY := Aside0.mk hY'
 have HJM := Aside0.mk (fun (w1 : World) (hb : Below W.heap.size W w1) => hJ' pre D D W w1 hJ (Same.of_below hb (fun k hk _ => hk)) (fun _ h => .inl h))
 have e0 : ((p.length : Int) == (N : Int)) = true := by simp [hpN]
 cases q1 : (l.any fun s => !holdsB s (plOf N p)) with
 | true =>
  rw [q1] at hcont
  have HT := Aside0.mk hcont
  have ho : hOuts N (okH N l) 0 p = [] := by unfold hOuts okH; rw [q1]; rfl
  rw [ho]
  clear hcont hE hJ hJ' hY' hRC hcells hs q1 hEy
  go_enter Try.func152, Try.ntmps152
  go_wp2_with (go_at_call 147; refine HT.out.mono ?_; rintro e w1 ⟨rfl, hb⟩; have HB := Aside0.mk hb; clear hb)
  go_ret
  exact ⟨true, rfl, fun _ => ⟨D, [], rfl, by rw [List.append_nil]; exact HJM.out _ HB.out, _, HE.out.below hA HB.out⟩, fun h => by cases h⟩
 | false =>
  rw [q1] at hcont
  have HT := Aside0.mk hcont
  have ho : hOuts N (okH N l) 0 p = [p] := by unfold hOuts okH; rw [q1]; rfl
  rw [ho]
  have hYA := Aside0.mk (fun (w1 : World) (hb : Below W.heap.size W w1) => HY.out 0 pre (g', cv, p) D w1 (HJM.out w1 hb) ⟨by
   obtain ⟨cur, hcur⟩ := hcells
   exact ⟨cur, (hb.block g' (blk_lt hcur)).trans hcur⟩, Kd.C_below hRC hb, hcv, by show p.length ≤ 6; omega⟩ (fun k hk => by
    have := hb.size
    have := HE.out.db k hk
    omega))
  simp only [hY] at hYA
  clear hcont hE hJ hJ' hY' hRC hcells hs q1 hEy hpN hlenp
  refine callsIn_wide.1 (callsIn_of_wp (F := Fence.wide) (n := 1) Try.func152 rfl trivial ?_ rfl)
  simp only [Try.ntmps152, List.size_toArray, List.length_cons, List.length_nil, Nat.reduceAdd, Nat.reduceSub, Array.replicate_succ, Array.replicate_zero, List.push_toArray, List.append_toArray, List.nil_append, List.cons_append]
  gi_wp2_with (first | (refine ⟨trivial, ?_⟩; gi_at_call 147; refine (callsIn_wide.2 HT.out).mono ?_; rintro e w1 ⟨rfl, hb⟩; have hEh := (hb.cell (p := ⟨Bh, 0, none⟩) hBh).trans HH.out; have hy := (hb.cell (p := ⟨By, 0, none⟩) hBy).trans HY0.out; have HB := Aside0.mk hb; obtain ⟨fn, tmps, assign, body, hy5, hR5⟩ := hYA.out w1 hb; have HR5 := Aside0.mk hR5; clear hb hR5) | (refine (roundIn_any HR5.out).mono ?_; clear HR5; rintro e W' (⟨rfl, hJ3, hk3⟩ | ⟨rfl, hJx3⟩)))
  ·go_ret
   exact ⟨true, rfl, fun _ => ⟨D, [(g', cv, p)], rfl, hJ3, _, (HE.out.below hA HB.out).same hA hk3⟩, fun h => by cases h⟩
  ·go_ret
   exact ⟨false, rfl, (fun h => by cases h), fun _ => ⟨D, [(g', cv, p)], List.prefix_rfl, hJx3⟩⟩
end

end Go.Proofs.Ytdhiijleafcfcaa.T
