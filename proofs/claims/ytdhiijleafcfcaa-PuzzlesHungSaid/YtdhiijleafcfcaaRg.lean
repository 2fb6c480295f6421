/- A range over a function whose iterator writes memory of its own between the rounds. -/
import Derived.Test.YtdhiijleafcfcaaT0
import Derived.RangeFuncNested
import Derived.RangeFuncBound
import Derived.RangeFuncCalls
import Derived.RangeFuncLeaves
import Derived.Shelf.Abstract
import Derived.OwnWalkIn
import Derived.TacticsInMore
import Derived.LoopNIn
import Derived.LoopIn
namespace Go.Proofs.Ytdhiijleafcfcaa.T
open Go.RowKit Go.Proofs.YtdhiijleafcfcaaW.PrintWords Go.Proofs.YtdhiijleafcfcaaW.PrintLast Go.Proofs.YtdhiijleafcfcaaW.PrintMore
attribute [local go_sem] max2_int min2_int max_two min_two max_three min_three max_four min_four
set_option linter.unusedVariables false
set_option linter.unusedSimpArgs false

/-- What is named by K lies as it lay. -/
structure Same (K : Nat → Prop) (A B : World) : Prop where
 os : B.os = A.os
 tape : B.tape = A.tape
 output : B.output = A.output
 size : A.heap.size ≤ B.heap.size
 block : ∀ k, k < A.heap.size → K k → B.heap[k]? = A.heap[k]?
theorem Same.refl (K : Nat → Prop) (A : World) : Same K A A := ⟨rfl, rfl, rfl, Nat.le_refl _, fun _ _ _ => rfl⟩
theorem Same.trans {K : Nat → Prop} {A B C : World} (h : Same K A B) (k : Same K B C) : Same K A C :=
 ⟨k.os.trans h.os, k.tape.trans h.tape, k.output.trans h.output, Nat.le_trans h.size k.size, fun i hi hk => (k.block i (Nat.lt_of_lt_of_le hi h.size) hk).trans (h.block i hi hk)⟩
theorem Same.mono {K K' : Nat → Prop} {A B : World} (h : Same K A B) (hk : ∀ k, k < A.heap.size → K' k → K k) : Same K' A B := ⟨h.os, h.tape, h.output, h.size, fun i hi h' => h.block i hi (hk i hi h')⟩
theorem Same.below {K : Nat → Prop} {B : Nat} {a b : World} (h : Same K a b) (hB : B ≤ a.heap.size) (hk : ∀ k, k < B → K k) : Below B a b :=
 ⟨h.os, h.tape, h.output, h.size, fun i hi => h.block i (by omega) (hk i hi)⟩
theorem Same.of_below {K : Nat → Prop} {B : Nat} {a b : World} (h : Below B a b) (hk : ∀ k, k < a.heap.size → K k → k < B) : Same K a b :=
 ⟨h.os, h.tape, h.output, h.size, fun i hi hK => h.block i (hk i hi hK)⟩
theorem Same.of_grown {K : Nat → Prop} {a b : World} {row : Option Nat} (h : a.grownBy b row) (hk : ∀ k, K k → some k ≠ row) : Same K a b :=
 ⟨h.os, h.tape, h.output, h.size, fun i hi hK => h.block i hi (hk i hK)⟩
theorem Same.drewN {K : Nat → Prop} {a b : World} (h : Same K a b) (n : Nat) : Same K a (b.drewN n) := ⟨h.os, h.tape, h.output, h.size, h.block⟩
theorem Same.alloc {K : Nat → Prop} {a b : World} (h : Same K a b) (o : Obj) : Same K a (b.alloc o) :=
 h.trans (Same.of_grown (World.grownBy_alloc b o none) (fun _ _ => by simp))
theorem Same.setCell {K : Nat → Prop} {a b : World} (h : Same K a b) (p : Addr) (hp : ¬ K p.block) (v : Value) : Same K a (b.setCell p v) :=
 ⟨h.os, h.tape, h.output, by simpa [World.setCell] using h.size, fun i hi hK => (Below.heap_setCell b p v i (fun e => hp (e ▸ hK))).trans (h.block i hi hK)⟩
theorem Same.putObj {K : Nat → Prop} {a b : World} (h : Same K a b) {l : Nat} (hl : ¬ K l) (o : Obj) : Same K a (b.putObj l o) :=
 ⟨h.os, h.tape, h.output, by simpa using h.size, fun i hi hK => (World.putObj_heap_other (fun e => hl (by rw [← e]; exact hK))).trans (h.block i hi hK)⟩
theorem Same.cell {K : Nat → Prop} {a b : World} (h : Same K a b) {p : Addr} {v : Value} (hK : K p.block) (hc : a.cell? p = some v) : b.cell? p = some v :=
 (World.cell?_of_block (h.block p.block (World.block_lt_of_cell? a p hc) hK)).trans hc
theorem Same.at_ {K : Nat → Prop} {a b : World} (h : Same K a b) {k : Nat} {o : Obj} (hK : K k) (hc : a.heap[k]? = some o) : b.heap[k]? = some o :=
 (h.block k (blk_lt hc) hK).trans hc
/-- A row that came in, all of whose block is named. -/
theorem Same.reads {K : Nat → Prop} {a b : World} (h : Same K a b) {A : Option Addr} {n : Nat} {xs : List Int} (hr : Kd.C (Kd.int .i64) a A n xs) (hK : ∀ ad, A = some ad → 0 < n → K ad.block) : Kd.C (Kd.int .i64) b A n xs := by
 refine ⟨hr.1, hr.2.1, fun hn => ?_⟩
 obtain ⟨ad, e, hc⟩ := hr.2.2 hn
 refine ⟨ad, e, fun j p hj => ?_⟩
 obtain ⟨c, h1, h2, h3⟩ := hc j p hj
 exact ⟨c, h1, h2, fun i u hu => h.cell (by rw [show (ad.add (j * (Kd.int IntKind.i64).sz + i)).block = ad.block from by unfold Addr.add; split <;> rfl]; exact hK ad e hn) (h3 i u hu)⟩

theorem room_any (k : Nat) : Fence.wide.room k := room_wide k
theorem roundIn_any {m m' : Nat} {P : Program} {l : Nat} {f : FuncId} {tmps : Array Value} {assign body : Code} {w : World} {R : Ending → World → Prop}
  (h : RoundIn Fence.wide m P l f tmps assign body w R) : RoundIn Fence.wide m' P l f tmps assign body w R := ⟨h.1, fun c cs _ => h.2 c cs (room_wide _)⟩
theorem yieldAt_any {m : Nat} (m' : Nat) {P : Program} {l : Nat} {args : Array Value} {W : World} {R : Ending → World → Prop} (h : YieldAt Fence.wide m P l args W R) : YieldAt Fence.wide m' P l args W R := by
 obtain ⟨fn, tmps, assign, body, hy, hR⟩ := h
 exact ⟨fn, tmps, assign, body, hy, roundIn_any hR⟩

/-- The caller's word on its own invariant: what the iterator owns (D) may turn; D grows by new blocks. -/
def Jlaw {α : Type} (J : List α → (Nat → Prop) → World → Prop) : Prop :=
 ∀ s D D' A B, J s D A → Same (fun k => ¬ D k) A B → (∀ k, D' k → D k ∨ A.heap.size ≤ k) → J s D' B
/-- The same, and two blocks of the statement's own may turn. -/
def Ilaw {α : Type} (x y : Nat) (J : List α → (Nat → Prop) → World → Prop) : Prop :=
 ∀ s D D' A B, J s D A → Same (fun k => ¬ D k ∧ k ≠ x ∧ k ≠ y) A B → (∀ k, D' k → D k ∨ A.heap.size ≤ k) → J s D' B

/-- An iterator's contract. K0: what the rounds keep besides what the iterator owns. -/
def SeqC {α : Type} (P : Program) (g : Nat) (fb lb : Array Value) (K0 : Nat → Prop) (yargs : α → Array Value) (Rd : α → World → Prop) (S Sp : List α → Prop) (w : World) : Prop :=
 ∀ (m l : Nat) (J Jx : List α → (Nat → Prop) → World → Prop) (W : World), Below w.heap.size w W → Jlaw J → Jlaw Jx →
  (∀ (n : Nat) pre x D W1, J pre D W1 → Rd x W1 → (∀ k, D k → W.heap.size ≤ k ∧ k < W1.heap.size) → YieldAt Fence.wide n P l (yargs x) W1 fun e W' =>
   (e = .returned (.bool true) ∧ J (pre ++ [x]) D W' ∧ Same (fun k => D k ∨ K0 k) W1 W') ∨ (e = .returned (.bool false) ∧ Jx (pre ++ [x]) D W')) →
  J [] (fun _ => False) W →
  CallsIn Fence.wide m P g (fb ++ #[.func (.yield l) #[] #[]] ++ lb) W fun e W' => (∃ v, e = .returned v) ∧ ((∃ D xs, S xs ∧ J xs D W') ∨ (∃ D pre, Sp pre ∧ Jx pre D W'))

/-- How a round's body may be left. -/
def bodyP {α : Type} (Kp : World → World → Prop) (I : List α → (Nat → Prop) → World → Prop) (Ix : Code → List α → (Nat → Prop) → World → Prop) (xs : List α) (D : Nat → Prop) (W : World) : Exit → Act → World → Prop
 | .normal, _, W' => Kp W W' ∧ I xs D W'
 | .ret, _, W' => Kp W W' ∧ Ix .ret xs D W'
 | .exit id, _, W' => Kp W W' ∧ Ix (.exit id) xs D W'
 | .goto t, _, W' => Kp W W' ∧ Ix (.goto t) xs D W'
 | .panic _, _, _ => False
 | .outgrown, _, _ => False

set_option maxHeartbeats 1000000 in
theorem wpIn_rangeT {α : Type} {P : Program} {n : Nat} {g : Operand} {ps : Array Tmp} {assign body : Code} {Q : Exit → Act → World → Prop} {a : Act} {w : World}
  {gf : Nat} {fb lb : Array Value} (hg : a.eval g = .func (.func gf) fb lb) (eg : ∀ args w, (callFunc gf args).run P w = .ok (.enter gf args) w)
  {K0 : Nat → Prop} {yargs : α → Array Value} {Rd : α → World → Prop} {S Sp : List α → Prop} (hseq : SeqC P gf fb lb (fun k => k < w.heap.size ∧ K0 k) yargs Rd S Sp w) (hps : ∀ x, (yargs x).size = ps.size)
  (hRd : ∀ x A B (o : Obj), Rd x A → A.heap[w.heap.size + 1]? = some o → o.isCells = false → Same (fun k => k ≠ w.heap.size + 1) A B → Rd x B)
  (I : List α → (Nat → Prop) → World → Prop) (Ix : Code → List α → (Nat → Prop) → World → Prop) (hI : Ilaw w.heap.size (w.heap.size + 1) I) (hIx : ∀ c, Ilaw w.heap.size (w.heap.size + 1) (Ix c)) (h0 : I [] (fun _ => False) w) (a₁ : α → Act)
  (hassign : ∀ (l : Nat) (x : α) (W : World) (K : Act → World → Prop), K (a₁ x) W →
   assign.wpIn (Fence.wide.inRound l) (n - 1 - 1) P (Exit.then K (fun _ _ _ => False)) { tmps := (ps.zip (yargs x)).foldl (fun t (p, v) => t.setIfInBounds p v) a.tmps, defers := [] } W)
  (hbody : ∀ (l : Nat) (pre : List α) (x : α) (D : Nat → Prop) (W : World), I pre D W → Rd x W → (∀ k, D k → w.heap.size + 2 ≤ k ∧ k < W.heap.size) → w.heap.size + 1 < W.heap.size →
   body.wpIn (Fence.wide.inRound l) (n - 1 - 1) P (bodyP (Same fun k => D k ∨ k = w.heap.size ∨ k = w.heap.size + 1 ∨ (k < w.heap.size ∧ K0 k)) I Ix (pre ++ [x]) D W) (a₁ x) W)
  (hdone : ∀ (D : Nat → Prop) (xs : List α) (W : World), S xs → I xs D W → W.heap[w.heap.size]? = some (.deferred (some [])) → Q .normal { a with defers := { target := .collected w.heap.size, args := #[] } :: a.defers } W)
  (hstop : ∀ (D : Nat → Prop) (c : Code) (pre : List α) (W : World), Sp pre → Ix c pre D W → W.heap[w.heap.size]? = some (.deferred (some [])) → c.wpIn Fence.wide n P Q { a with defers := { target := .collected w.heap.size, args := #[] } :: a.defers } W) :
  (Code.rangeFunc g ps assign body).wpIn Fence.wide n P Q a w := by
 refine wpIn_rangeFunc ?_
 intro fn hfn
 obtain ⟨rec, hrec⟩ : ∃ rec : LoopState → Option Code → Loop, rec = fun st pe => { state := st, pending := pe, fn, tmps := a.tmps, params := ps, assign, body, defers := w.heap.size } := ⟨_, rfl⟩
 obtain ⟨W1, hW1⟩ : ∃ W1, (w.alloc (.deferred (some []))).alloc (.loop (rec .ready none)) = W1 := ⟨_, rfl⟩
 have hL1 : W1.heap[w.heap.size + 1]? = some (.loop (rec .ready none)) := by
  rw [← hW1]; have := World.alloc_heap_new (w.alloc (.deferred (some []))) (.loop (rec .ready none)); rwa [World.size_alloc] at this
 have hK1 : W1.heap[w.heap.size]? = some (.deferred (some [])) := by
  rw [← hW1]; exact (Below.heap_alloc _ _ _ (by simp)).trans (World.alloc_heap_new w _)
 have hS1 : Same (fun k => ¬ False ∧ k ≠ w.heap.size ∧ k ≠ w.heap.size + 1) w W1 := by rw [← hW1]; exact ((Same.refl _ w).alloc _).alloc _
 have hz1 : W1.heap.size = w.heap.size + 2 := by rw [← hW1]; simp
 have hI1 : I [] (fun _ => False) W1 := hI _ _ _ _ _ h0 hS1 (fun _ h => h.elim)
 have hb1 : Below w.heap.size w W1 := hS1.below (Nat.le_refl _) (fun k hk => ⟨id, by omega, by omega⟩)
 -- the statement's own two blocks, kept by whoever keeps them
 refine ⟨w.heap.size + 1, [{ target := .collected w.heap.size, args := #[] }], W1, { target := .fn (.func gf) lb, args := fb ++ #[.func (.yield (w.heap.size + 1)) #[] #[]] }, W1, gf,
  fb ++ #[.func (.yield (w.heap.size + 1)) #[] #[]] ++ lb, W1, ?_, ?_, ?_, ?_, (fun h => by cases h), ?_⟩
 ·rw [← hW1, hrec]; exact run_enterLoop_outer _ _ _ _ _
 ·simp only [resolve, hg]
  simp [go_sem]
 ·intro f' hf'; trivial
 ·simp [invoke, go_sem, eg]
 ·refine (hseq (n - 1) (w.heap.size + 1)
   (fun pre D W => I pre D W ∧ W.heap[w.heap.size + 1]? = some (.loop (rec .ready none)) ∧ W.heap[w.heap.size]? = some (.deferred (some [])) ∧ ¬ D w.heap.size ∧ ¬ D (w.heap.size + 1))
   (fun pre D W => ∃ c, Ix c pre D W ∧ W.heap[w.heap.size + 1]? = some (.loop (rec .done (some c))) ∧ W.heap[w.heap.size]? = some (.deferred (some [])) ∧ ¬ D w.heap.size ∧ ¬ D (w.heap.size + 1))
   W1 hb1
   (fun s D D' A B hs hAB hD => by
    obtain ⟨h1, h2, h3, h4, h5⟩ := hs
    have hlt1 := blk_lt h2
    have hlt2 := blk_lt h3
    exact ⟨hI _ _ _ _ _ h1 (hAB.mono (fun k _ hk => hk.1)) hD, hAB.at_ h5 h2, hAB.at_ h4 h3, fun h => by rcases hD _ h with h | h; exact h4 h; omega, fun h => by rcases hD _ h with h | h; exact h5 h; omega⟩)
   (fun s D D' A B hs hAB hD => by
    obtain ⟨c, h1, h2, h3, h4, h5⟩ := hs
    have hlt1 := blk_lt h2
    have hlt2 := blk_lt h3
    exact ⟨c, hIx c _ _ _ _ _ h1 (hAB.mono (fun k _ hk => hk.1)) hD, hAB.at_ h5 h2, hAB.at_ h4 h3, fun h => by rcases hD _ h with h | h; exact h4 h; omega, fun h => by rcases hD _ h with h | h; exact h5 h; omega⟩)
   ?_ ⟨hI1, hL1, hK1, id, id⟩).mono ?_
  ·-- one round
   rintro m pre x D W ⟨hi, hl, hk, hd1, hd2⟩ hrd hDW
   rw [hz1] at hDW
   have hlt : w.heap.size + 1 < W.heap.size := blk_lt hl
   have hy := run_yield (P := P) (args := yargs x) hl (by rw [hrec]; exact hps x)
   rw [hrec] at hy
   refine ⟨fn, _, assign, body, hy, roundIn_any (m := n - 1 - 1) (roundIn_of_wpIn hfn (hassign _ x W _ ⟨_, run_beginRound hl (by rw [hrec]), ?_⟩))⟩
   have hl2 : (W.putObj (w.heap.size + 1) (.loop { rec .ready none with state := .busy })).heap[w.heap.size + 1]? = some (.loop { rec .ready none with state := .busy }) := World.putObj_heap_same hlt
   have hk2 : (W.putObj (w.heap.size + 1) (.loop { rec .ready none with state := .busy })).heap[w.heap.size]? = some (.deferred (some [])) := (World.putObj_heap_other (by omega)).trans hk
   obtain ⟨W2, hW2⟩ : ∃ W2, W.putObj (w.heap.size + 1) (.loop { rec .ready none with state := .busy }) = W2 := ⟨_, rfl⟩
   have hS2 : Same (fun k => k ≠ w.heap.size + 1) W W2 := by rw [← hW2]; exact (Same.refl _ W).putObj (by simp) _
   rw [hW2] at hl2 hk2 ⊢
   have hi2 : I pre D W2 := hI _ _ _ _ _ hi (hS2.mono (fun k _ hk => hk.2.2)) (fun k h => .inl h)
   have hz2 : W2.heap.size = W.heap.size := by rw [← hW2]; simp
   refine wpIn_mono (hbody _ pre x D W2 hi2 (hRd x W W2 _ hrd hl rfl hS2) (fun k hk => by rw [hz2]; exact hDW k hk) (by rw [hz2]; exact hlt)) ?_
   have fin : ∀ (jump : Option Code) (W3 : World), Same (fun k => D k ∨ k = w.heap.size ∨ k = w.heap.size + 1 ∨ (k < w.heap.size ∧ K0 k)) W2 W3 →
     (Instr.endRound (w.heap.size + 1) jump).run P W3 = .ok (.bool jump.isNone) (W3.putObj (w.heap.size + 1) (.loop (rec (if jump.isNone then .ready else .done) jump))) ∧
     (W3.putObj (w.heap.size + 1) (.loop (rec (if jump.isNone then .ready else .done) jump))).heap[w.heap.size + 1]? = some (.loop (rec (if jump.isNone then .ready else .done) jump)) ∧
     (W3.putObj (w.heap.size + 1) (.loop (rec (if jump.isNone then .ready else .done) jump))).heap[w.heap.size]? = some (.deferred (some [])) ∧
     Same (fun k => k ≠ w.heap.size + 1) W3 (W3.putObj (w.heap.size + 1) (.loop (rec (if jump.isNone then .ready else .done) jump))) := fun jump W3 hk3 => by
    have hl3 := hk3.at_ (.inr (.inr (.inl rfl))) hl2
    have := run_endRound (P := P) jump hl3
    rw [hrec] at this ⊢
    exact ⟨this, World.putObj_heap_same (blk_lt hl3), (World.putObj_heap_other (by omega)).trans (hk3.at_ (.inr (.inl rfl)) hk2), (Same.refl _ W3).putObj (by simp) _⟩
   have move : ∀ {J : List α → (Nat → Prop) → World → Prop} {A B : World}, Ilaw w.heap.size (w.heap.size + 1) J → J (pre ++ [x]) D A → Same (fun k => k ≠ w.heap.size + 1) A B → J (pre ++ [x]) D B :=
    fun hJ hj hAB => hJ _ _ _ _ _ hj (hAB.mono (fun k _ hk => hk.2.2)) (fun k h => .inl h)
   rintro e a3 W3 hp
   cases e with
   | normal =>
    obtain ⟨hk3, hi3⟩ := hp
    obtain ⟨hr, hl4, hk4, hs4⟩ := fin none W3 hk3
    refine ⟨_, _, hr, .inl ⟨rfl, ⟨move hI hi3 hs4, hl4, hk4, hd1, hd2⟩, ?_⟩⟩
    refine ((hS2.mono fun k _ hk => ?_).trans (hk3.mono fun k _ hk => ?_)).trans (hs4.mono fun k _ hk => ?_)
    ·rcases hk with hk | hk
     ·exact fun e => hd2 (e ▸ hk)
     ·omega
    ·rcases hk with hk | hk
     ·exact .inl hk
     ·exact .inr (.inr (.inr hk))
    ·rcases hk with hk | hk
     ·exact fun e => hd2 (e ▸ hk)
     ·omega
   | ret =>
    obtain ⟨hk3, hi3⟩ := hp
    obtain ⟨hr, hl4, hk4, hs4⟩ := fin (some .ret) W3 hk3
    exact ⟨_, _, hr, .inr ⟨rfl, .ret, move (hIx _) hi3 hs4, hl4, hk4, hd1, hd2⟩⟩
   | exit id =>
    obtain ⟨hk3, hi3⟩ := hp
    obtain ⟨hr, hl4, hk4, hs4⟩ := fin (some (.exit id)) W3 hk3
    exact ⟨_, _, hr, .inr ⟨rfl, .exit id, move (hIx _) hi3 hs4, hl4, hk4, hd1, hd2⟩⟩
   | goto t =>
    obtain ⟨hk3, hi3⟩ := hp
    obtain ⟨hr, hl4, hk4, hs4⟩ := fin (some (.goto t)) W3 hk3
    exact ⟨_, _, hr, .inr ⟨rfl, .goto t, move (hIx _) hi3 hs4, hl4, hk4, hd1, hd2⟩⟩
   | panic ch => exact hp.elim
   | outgrown => exact hp.elim
  ·-- behind the iterator
   rintro e W2 ⟨⟨v, rfl⟩, (⟨D, xs, hS, hi, hl, hk, _, _⟩ | ⟨D, pre, hSp, c, hi, hl, hk, _, _⟩)⟩
   ·exact ⟨none, _, by have := run_endLoop (P := P) hl (by rw [hrec]; simp); rw [hrec] at this; exact this, hdone D xs _ hS (hI _ _ _ _ _ hi ((Same.refl _ W2).putObj (by simp) _) (fun k h => .inl h)) ((World.putObj_heap_other (by omega)).trans hk)⟩
   ·exact ⟨some c, _, by have := run_endLoop (P := P) hl (by rw [hrec]; simp); rw [hrec] at this; exact this, hstop D c pre _ hSp (hIx c _ _ _ _ _ hi ((Same.refl _ W2).putObj (by simp) _) (fun k h => .inl h)) ((World.putObj_heap_other (by omega)).trans hk)⟩

end Go.Proofs.Ytdhiijleafcfcaa.T
