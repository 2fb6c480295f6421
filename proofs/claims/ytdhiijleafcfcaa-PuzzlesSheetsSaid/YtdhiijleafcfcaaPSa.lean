/- Sheets in plain lists: the look at a sheet, on both sides. -/
import Derived.Test.YtdhiijleafcfcaaT0
import Derived.Test.YtdhiijleafcfcaaP0
import Derived.Test.YtdhiijleafcfcaaTs
import Derived.Test.YtdhiijleafcfcaaTsr
import Derived.Test.YtdhiijleafcfcaaSw
import Derived.Test.YtdhiijleafcfcaaPCi
namespace Go.Proofs.Ytdhiijleafcfcaa.T
open Go.RowKit Go.Proofs.YtdhiijleafcfcaaW.PrintWords Go.Proofs.YtdhiijleafcfcaaW.PrintLast Go.Proofs.YtdhiijleafcfcaaW.PrintMore
attribute [local go_sem] max2_int min2_int max_two min_two max_three min_three max_four min_four
set_option linter.unusedVariables false
set_option linter.unusedSimpArgs false

/-- A row of a sheet whose rows are n bytes long. -/
def rowOk (n : Nat) (r : ByteArray) : Bool := decide (r.size = n) && !(r.data.toList.any fun b => notCellR b.toNat)
def w0 (l : List ByteArray) : Nat := (rdOf ByteArray.empty l 0).size
/-- A valid sheet. -/
def shB (l : List ByteArray) : Bool := decide (1 ≤ l.length) && (decide (l.length ≤ 8) && (decide (1 ≤ w0 l) && (decide (w0 l ≤ 8) && l.all (rowOk (w0 l)))))
theorem rdS_lt (l : List ByteArray) (i : Nat) (h : i < l.length) : rdOf ByteArray.empty l (i : Int) = l[i] := by
 unfold rdOf
 rw [Int.toNat_natCast, List.getD_eq_getElem?_getD, List.getElem?_eq_getElem h]
 rfl
theorem shB_ok {l : List ByteArray} (h : shB l = true) : OkSh l := by
 unfold shB w0 at h
 simp only [Bool.and_eq_true, decide_eq_true_eq] at h
 obtain ⟨h1, h2, h3, h4, h5⟩ := h
 refine ⟨h1, h2, h3, h4, fun i h0 h1 => ?_⟩
 obtain ⟨j, rfl⟩ : ∃ j : Nat, i = (j : Int) := ⟨i.toNat, by omega⟩
 have := List.all_eq_true.1 h5 l[j] (List.getElem_mem _)
 rw [rdS_lt l j (by omega)]
 unfold rowOk at this
 simp only [Bool.and_eq_true, decide_eq_true_eq] at this
 exact this.1
theorem laid_l0 (l : List ByteArray) (h8 : l.length ≤ 8) : ∀ (m i : Nat), i + m = l.length → Ev (fun k => puzzles_laid.l0 k l l (l.length : Int) (i : Int)) ((l.drop i).all (rowOk (w0 l))) := by
 intro m
 induction m with
 | zero =>
  intro i hi
  refine Ev.step (f := fun _ => some true) (fun k => ?_) (Ev.eq (Ev.now _) ?_)
  ·rw [puzzles_laid.l0, if_neg (by omega)]
  ·rw [List.drop_of_length_le (by omega)]
   rfl
 | succ m ih =>
  intro i hi
  have hlt : i < l.length := by omega
  have e1 : wrap64 ((i : Int) + 1) = ((i + 1 : Nat) : Int) := by rw [w64 _ (by omega) (by omega)]; omega
  rw [List.drop_eq_getElem_cons hlt, List.all_cons]
  by_cases q1 : l[i].size = w0 l
  ·have q1' : ((rdOf ByteArray.empty l (i : Int)).size : Int) = ((rdOf ByteArray.empty l 0).size : Int) := by
    rw [rdS_lt l i hlt]
    unfold w0 at q1
    omega
   refine Ev.step (f := fun k => (sf141.f l[i]).bind fun t589 => (if t589 = true then (some false) else (puzzles_laid.l0 k l l (l.length : Int) ((i + 1 : Nat) : Int)))) (fun k => ?_) ?_
   ·rw [puzzles_laid.l0, if_pos (by omega), if_pos (by omega), if_pos (by omega), if_pos (by omega), if_pos q1', rdS_lt l i hlt, e1]
   ·unfold sf141.f rowOk
    rw [decide_eq_true q1, Bool.true_and]
    cases q : l[i].data.toList.any fun b => notCellR b.toNat with
    | true =>
     refine Ev.congr (fun k => ?_) (Ev.eq (Ev.now false) (by rfl))
     rw [Option.bind_some, if_pos rfl]
    | false =>
     refine Ev.congr (fun k => ?_) (Ev.eq (ih (i + 1) (by omega)) (by rw [Bool.not_false, Bool.true_and]; rfl))
     rw [Option.bind_some, if_neg (by decide)]
  ·have q1' : ¬ ((rdOf ByteArray.empty l (i : Int)).size : Int) = ((rdOf ByteArray.empty l 0).size : Int) := by
    rw [rdS_lt l i hlt]
    unfold w0 at q1
    omega
   refine Ev.step (f := fun _ => some false) (fun k => ?_) (Ev.eq (Ev.now _) (by unfold rowOk; rw [decide_eq_false q1, Bool.false_and, Bool.false_and]))
   rw [puzzles_laid.l0, if_pos (by omega), if_pos (by omega), if_pos (by omega), if_pos (by omega), if_neg q1']
theorem laid_ev (l : List ByteArray) : Ev (fun k => puzzles_laid.f k l) (shB l) := by
 have no : Ev (fun k => puzzles_laid.j0 k l true) false := Ev.step (f := fun _ => some false) (fun k => by rw [puzzles_laid.j0, if_pos rfl]) (Ev.now _)
 unfold shB
 by_cases h : 1 ≤ l.length ∧ l.length ≤ 8
 ·rw [decide_eq_true h.1, decide_eq_true h.2, Bool.true_and, Bool.true_and]
  have e0 : puzzles_within.f (l.length : Int) 1 8 = some true := by rw [within_val, decide_eq_true (show (1 : Int) ≤ (l.length : Int) by omega), decide_eq_true (show (l.length : Int) ≤ 8 by omega)]; rfl
  by_cases h2 : 1 ≤ w0 l ∧ w0 l ≤ 8
  ·rw [decide_eq_true h2.1, decide_eq_true h2.2, Bool.true_and, Bool.true_and]
   have e2 : puzzles_within.f ((rdOf ByteArray.empty l 0).size : Int) 1 8 = some true := by
    obtain ⟨a, b⟩ := h2
    unfold w0 at a b
    rw [within_val, decide_eq_true (show (1 : Int) ≤ ((rdOf ByteArray.empty l 0).size : Int) by omega), decide_eq_true (show ((rdOf ByteArray.empty l 0).size : Int) ≤ 8 by omega)]
    rfl
   refine Ev.congr (fun k => ?_) (Ev.step (g := fun k => puzzles_laid.j0 k l false) (fun k => ?_) (Ev.eq (laid_l0 l h.2 l.length 0 (by omega)) (by rw [List.drop_zero])))
   ·unfold puzzles_laid.f
    rw [e0, Option.bind_some, if_pos rfl, if_pos (by omega), e2, Option.bind_some]
    rfl
   ·rw [puzzles_laid.j0, if_neg (by decide)]
    rfl
  ·have e2 : puzzles_within.f ((rdOf ByteArray.empty l 0).size : Int) 1 8 = some false := by
    unfold w0 at h2
    rw [within_val]
    congr 1
    rw [Bool.eq_false_iff]
    simp
    omega
   refine Ev.eq (Ev.congr (fun k => ?_) no) ?_
   ·unfold puzzles_laid.f
    rw [e0, Option.bind_some, if_pos rfl, if_pos (by omega), e2, Option.bind_some]
    rfl
   ·by_cases a : 1 ≤ w0 l
    ·rw [decide_eq_true a, decide_eq_false (fun b => h2 ⟨a, b⟩), Bool.false_and, Bool.and_false]
    ·rw [decide_eq_false a, Bool.false_and]
 ·have e0 : puzzles_within.f (l.length : Int) 1 8 = some false := by
   rw [within_val]
   congr 1
   rw [Bool.eq_false_iff]
   simp
   omega
  refine Ev.eq (Ev.congr (fun k => ?_) no) ?_
  ·unfold puzzles_laid.f
   rw [e0, Option.bind_some, if_neg (by decide)]
  ·by_cases a : 1 ≤ l.length
   ·rw [decide_eq_true a, decide_eq_false (fun b => h ⟨a, b⟩), Bool.false_and, Bool.and_false]
   ·rw [decide_eq_false a, Bool.false_and]
theorem notCell_bt (s : ByteArray) (i : Nat) (h : i < s.data.toList.length) : notCellR (s.data.toList[i]).toNat = !(isL (bt s (i : Int)) || decide (bt s (i : Int) = 46)) := by
 rw [bt_data s i h]
 unfold isL notCellR
 rw [Bool.eq_iff_iff]
 simp
 omega
theorem sheet_l1 (l : List ByteArray) (i : Nat) (hi : i < l.length) (hs : l[i].size ≤ 8) {r : Int} (next : l[i].data.toList.any (fun b => notCellR b.toNat) = false → Ev (fun k => padlockref03_CheckSheet.l0 k l (wrap64 ((i : Int) + 1))) r) (bad : l[i].data.toList.any (fun b => notCellR b.toNat) = true → r = 30) :
  ∀ (m j : Nat), j + m = l[i].size → (l[i].data.toList.take j).any (fun b => notCellR b.toNat) = false → Ev (fun k => padlockref03_CheckSheet.l1 k l (i : Int) (j : Int)) r := by
 have hrd := rdS_lt l i hi
 intro m
 induction m with
 | zero =>
  intro j hj ht
  rw [List.take_of_length_le (by rw [data_length]; omega)] at ht
  refine Ev.step (fun k => ?_) (next ht)
  rw [padlockref03_CheckSheet.l1, if_pos (by omega), if_pos (by omega), hrd, if_neg (by omega)]
 | succ m ih =>
  intro j hj ht
  have hlt : j < l[i].data.toList.length := by rw [data_length]; omega
  have e1 : wrap64 ((j : Int) + 1) = ((j + 1 : Nat) : Int) := by rw [w64 _ (by omega) (by omega)]; omega
  have hq := notCell_bt l[i] j hlt
  cases q : notCellR (l[i].data.toList[j]).toNat with
  | true =>
   rw [q] at hq
   have hr : r = 30 := bad (List.any_eq_true.2 ⟨_, List.getElem_mem hlt, q⟩)
   subst hr
   refine Ev.step (f := fun _ => some 30) (fun k => ?_) (Ev.now _)
   have hq' : isL (bt l[i] (j : Int)) = false ∧ ¬ bt l[i] (j : Int) = 46 := by
    simpa using hq
   rw [padlockref03_CheckSheet.l1, if_pos (by omega), if_pos (by omega), hrd, if_pos (by omega), if_pos (by omega), refletter_val, Option.bind_some, hq'.1, if_neg (by decide), if_neg hq'.2]
  | false =>
   rw [q] at hq
   refine Ev.step (fun k => ?_) (ih (j + 1) (by omega) (by rw [List.take_succ_eq_append_getElem hlt, List.any_append, ht, Bool.false_or, List.any_cons, List.any_nil, q]; rfl))
   rw [padlockref03_CheckSheet.l1, if_pos (by omega), if_pos (by omega), hrd, if_pos (by omega), if_pos (by omega), refletter_val, Option.bind_some, e1]
   cases q2 : isL (bt l[i] (j : Int)) with
   | true => rw [if_pos rfl]
   | false =>
    rw [q2] at hq
    rw [if_neg (by decide), if_pos (by simpa using hq)]
/-- A row, as the document looks at it. -/
def rowOk2 (n : Nat) (r : ByteArray) : Bool := decide (1 ≤ r.size) && (decide (r.size ≤ 8) && rowOk n r)
theorem sheet_l0 (l : List ByteArray) (h8 : l.length ≤ 8) : ∀ (m i : Nat), i + m = l.length → Ev (fun k => padlockref03_CheckSheet.l0 k l (i : Int)) (if (l.drop i).all (rowOk2 (w0 l)) = true then 0 else 30) := by
 intro m
 induction m with
 | zero =>
  intro i hi
  refine Ev.step (f := fun _ => some 0) (fun k => ?_) (Ev.eq (Ev.now _) ?_)
  ·rw [padlockref03_CheckSheet.l0, if_neg (by omega)]
  ·rw [List.drop_of_length_le (by omega)]
   rfl
 | succ m ih =>
  intro i hi
  have hlt : i < l.length := by omega
  have hrd := rdS_lt l i hlt
  have e1 : wrap64 ((i : Int) + 1) = ((i + 1 : Nat) : Int) := by rw [w64 _ (by omega) (by omega)]; omega
  have j30 : Ev (fun k => padlockref03_CheckSheet.j1 k l (i : Int) true) 30 := Ev.step (f := fun _ => some 30) (fun k => by rw [padlockref03_CheckSheet.j1, if_pos rfl]) (Ev.now _)
  rw [List.drop_eq_getElem_cons hlt, List.all_cons]
  by_cases q1 : l[i].size = w0 l
  ·have q1' : ((rdOf ByteArray.empty l (i : Int)).size : Int) = ((rdOf ByteArray.empty l 0).size : Int) := by
    rw [hrd]
    unfold w0 at q1
    omega
   by_cases q2 : 1 ≤ l[i].size ∧ l[i].size ≤ 8
   ·have ew : padlockref03_Within.f (l[i].size : Int) 1 8 = some true := by rw [refwithin_val, decide_eq_true (show (1 : Int) ≤ (l[i].size : Int) by omega), decide_eq_true (show (l[i].size : Int) ≤ 8 by omega)]; rfl
    refine Ev.step (f := fun k => padlockref03_CheckSheet.j1 k l (i : Int) false) (fun k => ?_) (Ev.step (f := fun k => padlockref03_CheckSheet.l1 k l (i : Int) ((0 : Nat) : Int)) (fun k => ?_) (sheet_l1 l i hlt q2.2 (fun ha => ?_) (fun ha => ?_) l[i].size 0 (by omega) (by simp)))
    ·rw [padlockref03_CheckSheet.l0, if_pos (by omega), if_pos (by omega), if_pos (by omega), if_pos q1', hrd, ew, Option.bind_some]
     rfl
    ·rw [padlockref03_CheckSheet.j1, if_neg (by decide)]
     rfl
    ·rw [e1]
     refine Ev.eq (ih (i + 1) (by omega)) ?_
     have : rowOk2 (w0 l) l[i] = true := by
      unfold rowOk2 rowOk
      rw [decide_eq_true q2.1, decide_eq_true q2.2, decide_eq_true q1, ha]
      rfl
     rw [this, Bool.true_and]
    ·have : rowOk2 (w0 l) l[i] = false := by
      unfold rowOk2 rowOk
      rw [ha]
      simp
     rw [this, Bool.false_and, if_neg (by decide)]
   ·have ew : padlockref03_Within.f (l[i].size : Int) 1 8 = some false := by
     rw [refwithin_val]
     congr 1
     rw [Bool.eq_false_iff]
     simp
     omega
    have : rowOk2 (w0 l) l[i] = false := by
     unfold rowOk2
     by_cases a : 1 ≤ l[i].size
     ·rw [decide_eq_true a, decide_eq_false (fun b => q2 ⟨a, b⟩), Bool.false_and, Bool.and_false]
     ·rw [decide_eq_false a, Bool.false_and]
    rw [this, Bool.false_and, if_neg (by decide)]
    refine Ev.step (fun k => ?_) j30
    rw [padlockref03_CheckSheet.l0, if_pos (by omega), if_pos (by omega), if_pos (by omega), if_pos q1', hrd, ew, Option.bind_some]
    rfl
  ·have q1' : ¬ ((rdOf ByteArray.empty l (i : Int)).size : Int) = ((rdOf ByteArray.empty l 0).size : Int) := by
    rw [hrd]
    unfold w0 at q1
    omega
   have : rowOk2 (w0 l) l[i] = false := by
    unfold rowOk2 rowOk
    rw [decide_eq_false q1]
    simp
   rw [this, Bool.false_and, if_neg (by decide)]
   refine Ev.step (fun k => ?_) j30
   rw [padlockref03_CheckSheet.l0, if_pos (by omega), if_pos (by omega), if_pos (by omega), if_neg q1']
theorem all_rows (l : List ByteArray) (h1 : 1 ≤ l.length) : l.all (rowOk2 (w0 l)) = (decide (1 ≤ w0 l) && (decide (w0 l ≤ 8) && l.all (rowOk (w0 l)))) := by
 rw [Bool.eq_iff_iff]
 simp only [Bool.and_eq_true, decide_eq_true_eq, List.all_eq_true, rowOk2, rowOk]
 constructor
 ·intro h
  have h0 := h l[0] (List.getElem_mem _)
  obtain ⟨a, b, c, d⟩ := h0
  exact ⟨by omega, by omega, fun x hx => (h x hx).2.2⟩
 ·rintro ⟨a, b, c⟩ x hx
  have := c x hx
  exact ⟨by omega, by omega, this⟩
theorem checksheet_ev (l : List ByteArray) : Ev (fun k => padlockref03_CheckSheet.f k l) (if shB l = true then 0 else 30) := by
 unfold shB
 by_cases h : 1 ≤ l.length ∧ l.length ≤ 8
 ·rw [decide_eq_true h.1, decide_eq_true h.2, Bool.true_and, Bool.true_and, ← all_rows l h.1]
  have e0 : padlockref03_Within.f (l.length : Int) 1 8 = some true := by rw [refwithin_val, decide_eq_true (show (1 : Int) ≤ (l.length : Int) by omega), decide_eq_true (show (l.length : Int) ≤ 8 by omega)]; rfl
  have := sheet_l0 l h.2 l.length 0 (by omega)
  rw [List.drop_zero] at this
  refine Ev.congr (fun k => ?_) this
  unfold padlockref03_CheckSheet.f
  rw [e0, Option.bind_some, if_pos rfl]
  rfl
 ·have e0 : padlockref03_Within.f (l.length : Int) 1 8 = some false := by
   rw [refwithin_val]
   congr 1
   rw [Bool.eq_false_iff]
   simp
   omega
  refine Ev.eq (Ev.congr (fun k => ?_) (Ev.now 30)) ?_
  ·unfold padlockref03_CheckSheet.f
   rw [e0, Option.bind_some, if_neg (by decide)]
  ·by_cases a : 1 ≤ l.length
   ·rw [decide_eq_true a, decide_eq_false (fun b => h ⟨a, b⟩), Bool.false_and, Bool.and_false, if_neg (by decide)]
   ·rw [decide_eq_false a, Bool.false_and, if_neg (by decide)]
theorem checksheets_ev (u l : List ByteArray) : Ev (fun k => padlockref03_checkSheets.f k u l) (if shB u = true ∧ shB l = true then 0 else 30) := by
 unfold padlockref03_checkSheets.f
 refine Ev.bind (checksheet_ev u) ?_
 by_cases hu : shB u = true
 ·simp only [if_pos hu, if_true]
  refine Ev.bind (checksheet_ev l) ?_
  by_cases hl : shB l = true
  ·rw [if_pos hl, if_pos ⟨hu, hl⟩]
   exact Ev.now _
  ·rw [if_neg hl, if_neg (fun h => hl h.2)]
   exact Ev.now _
 ·simp only [if_neg hu]
  rw [if_neg (fun h => hu h.1)]
  exact Ev.congr (fun k => if_neg (by decide)) (Ev.now _)
/-! The turn by a quarter. -/
/-- A byte of a sheet. -/
def chS (l : List ByteArray) (r c : Int) : Int := bt (rdOf ByteArray.empty l r) c
/-- The column c, from below; the first k bytes. -/
def colS (l : List ByteArray) (c : Nat) (k : Nat) : List Int := (List.range k).map fun (j : Nat) => chS l ((l.length : Int) - 1 - (j : Int)) (c : Int)
/-- The turned sheet's first k rows. -/
def turnK (l : List ByteArray) (k : Nat) : List ByteArray := (List.range k).map fun c => strOfNums (colS l c l.length)
/-- The turned sheet. -/
def turnT (l : List ByteArray) : List ByteArray := turnK l (w0 l)
theorem turnK_snoc (l : List ByteArray) (k : Nat) : turnK l (k + 1) = turnK l k ++ [strOfNums (colS l k l.length)] := by
 unfold turnK
 rw [List.range_succ, List.map_append]
 rfl
theorem colS_snoc (l : List ByteArray) (c k : Nat) : colS l c (k + 1) = colS l c k ++ [chS l ((l.length : Int) - 1 - (k : Int)) (c : Int)] := by
 unfold colS
 rw [List.range_succ, List.map_append]
 rfl
theorem colS_len (l : List ByteArray) (c k : Nat) : (colS l c k).length = k := by simp [colS]
theorem turnK_len (l : List ByteArray) (k : Nat) : (turnK l k).length = k := by simp [turnK]
theorem w0_row {l : List ByteArray} (O : OkSh l) {i : Int} (h0 : 0 ≤ i) (h1 : i < l.length) : (rdOf ByteArray.empty l i).size = w0 l := O.all i h0 h1
theorem turned_ev {l : List ByteArray} (O : OkSh l) : Ev (fun k => puzzles_turned.f k l) (turnT l) := by
 have n1 := O.n1
 have n8 := O.n8
 have m8 : w0 l ≤ 8 := O.m8
 have col : ∀ (c : Nat), c < w0 l → (Ev (fun k => puzzles_turned.l0 k l (turnK l (c + 1)) ((w0 l : Nat) : Int) ((c + 1 : Nat) : Int)) (turnT l)) → ∀ (m j : Nat), j + m = l.length → Ev (fun k => puzzles_turned.l1 k l (turnK l c) (c : Int) (colS l c j) ((l.length : Int) - 1 - (j : Int)) ((w0 l : Nat) : Int) (c : Int)) (turnT l) := by
  intro c hc next m
  have ec : wrap64 ((c : Int) + 1) = ((c + 1 : Nat) : Int) := by rw [w64 _ (by omega) (by omega)]; omega
  induction m with
  | zero =>
   intro j hj
   obtain rfl : j = l.length := by omega
   refine Ev.step (fun k => ?_) next
   rw [puzzles_turned.l1, if_neg (by omega), if_pos (by rw [turnK_len]; omega), ec, turnK_snoc]
  | succ m ih =>
   intro j hj
   have hr := w0_row O (i := (l.length : Int) - 1 - (j : Int)) (by omega) (by omega)
   have e1 : wrap64 ((l.length : Int) - 1 - (j : Int) - 1) = (l.length : Int) - 1 - ((j + 1 : Nat) : Int) := by rw [w64 _ (by omega) (by omega)]; omega
   refine Ev.step (fun k => ?_) (ih (j + 1) (by omega))
   rw [puzzles_turned.l1, if_pos (by omega), if_pos (by omega), if_pos (by omega), if_pos (by omega), if_pos (by omega), if_pos (by rw [colS_len]; omega), e1, colS_snoc]
   rfl
 have rows : ∀ (m c : Nat), c + m = w0 l → Ev (fun k => puzzles_turned.l0 k l (turnK l c) ((w0 l : Nat) : Int) (c : Int)) (turnT l) := by
  intro m
  induction m with
  | zero =>
   intro c hc
   obtain rfl : c = w0 l := by omega
   refine Ev.step (f := fun _ => some (turnT l)) (fun k => ?_) (Ev.now _)
   rw [puzzles_turned.l0, if_neg (by omega)]
   rfl
  | succ m ih =>
   intro c hc
   have := col c (by omega) (ih (c + 1) (by omega)) l.length 0 (by omega)
   refine Ev.step (fun k => ?_) this
   rw [puzzles_turned.l0, if_pos (by omega), w64 _ (by omega) (by omega)]
   rw [show (l.length : Int) - 1 - ((0 : Nat) : Int) = (l.length : Int) - 1 from by omega]
   rfl
 refine Ev.congr (fun k => ?_) (rows (w0 l) 0 (by omega))
 unfold puzzles_turned.f
 rw [if_pos (by omega)]
 rfl
theorem append_one (xs : List Int) (s : ByteArray) (i : Nat) (h : i < s.size) : strOfNums xs ++ s.extract i (i + 1) = strOfNums (xs ++ [bt s (i : Int)]) := by
 have h2 : i < s.data.toList.length := by rw [data_length]; exact h
 apply Go.WideShapes.bytes_inj
 have e : (s.extract i (i + 1)).data.toList = [s.data.toList[i]] := by
  rw [ByteArray.data_extract, Array.toList_extract]
  unfold List.extract
  rw [List.drop_eq_getElem_cons h2, Nat.add_sub_cancel_left]
  rfl
 have e2 : (strOfNums xs ++ s.extract i (i + 1)).data.toList = (strOfNums xs).data.toList ++ (s.extract i (i + 1)).data.toList := by
  rw [ByteArray.data_append, Array.toList_append]
 rw [e2, e, strOfNums_data, strOfNums_data, List.map_append, bt_data s i h2]
 simp
theorem quarter_ev {l : List ByteArray} (O : OkSh l) : Ev (fun k => padlockref03_quarter.f k l) (turnT l) := by
 have n1 := O.n1
 have n8 := O.n8
 have m8 : w0 l ≤ 8 := O.m8
 have col : ∀ (c : Nat), c < w0 l → (Ev (fun k => padlockref03_quarter.l0 k l (turnK l (c + 1)) ((c + 1 : Nat) : Int)) (turnT l)) → ∀ (m j : Nat), j + m = l.length → Ev (fun k => padlockref03_quarter.l1 k l (turnK l c) (c : Int) (strOfNums (colS l c j)) ((l.length : Int) - 1 - (j : Int))) (turnT l) := by
  intro c hc next m
  have ec : wrap64 ((c : Int) + 1) = ((c + 1 : Nat) : Int) := by rw [w64 _ (by omega) (by omega)]; omega
  induction m with
  | zero =>
   intro j hj
   obtain rfl : j = l.length := by omega
   refine Ev.step (fun k => ?_) next
   rw [padlockref03_quarter.l1, if_neg (by omega), if_pos (by rw [turnK_len]; omega), ec, turnK_snoc]
  | succ m ih =>
   intro j hj
   have hr := w0_row O (i := (l.length : Int) - 1 - (j : Int)) (by omega) (by omega)
   have e1 : wrap64 ((l.length : Int) - 1 - (j : Int) - 1) = (l.length : Int) - 1 - ((j + 1 : Nat) : Int) := by rw [w64 _ (by omega) (by omega)]; omega
   have ha := append_one (colS l c j) (rdOf ByteArray.empty l ((l.length : Int) - 1 - (j : Int))) c (by omega)
   have hsz : (strOfNums (colS l c j)).size + ((rdOf ByteArray.empty l ((l.length : Int) - 1 - (j : Int))).extract c (c + 1)).size ≤ 9223372036854775807 := by
    rw [strOfNums_size, colS_len, ByteArray.size_extract]
    omega
   refine Ev.step (fun k => ?_) (ih (j + 1) (by omega))
   rw [padlockref03_quarter.l1, if_pos (by omega), if_pos (by omega), if_pos (by omega), if_pos (by omega), ec, if_pos (by omega), if_pos (by omega), Int.toNat_natCast, Int.toNat_natCast, if_pos hsz, ha, e1, colS_snoc]
   rfl
 have rows : ∀ (m c : Nat), c + m = w0 l → Ev (fun k => padlockref03_quarter.l0 k l (turnK l c) (c : Int)) (turnT l) := by
  intro m
  induction m with
  | zero =>
   intro c hc
   obtain rfl : c = w0 l := by omega
   refine Ev.step (f := fun _ => some (turnT l)) (fun k => ?_) (Ev.now _)
   rw [padlockref03_quarter.l0, if_pos (by omega), if_neg (by unfold w0; omega)]
   rfl
  | succ m ih =>
   intro c hc
   have := col c (by omega) (ih (c + 1) (by omega)) l.length 0 (by omega)
   refine Ev.step (fun k => ?_) this
   rw [padlockref03_quarter.l0, if_pos (by omega), if_pos (by unfold w0 at hc; omega), w64 _ (by omega) (by omega)]
   rw [show (l.length : Int) - 1 - ((0 : Nat) : Int) = (l.length : Int) - 1 from by omega]
   rfl
 refine Ev.congr (fun k => ?_) (rows (w0 l) 0 (by omega))
 unfold padlockref03_quarter.f
 rfl
theorem turn_row (l : List ByteArray) {c : Int} (h0 : 0 ≤ c) (h1 : c < w0 l) : rdOf ByteArray.empty (turnT l) c = strOfNums (colS l c.toNat l.length) := by
 obtain ⟨j, rfl⟩ : ∃ j : Nat, c = (j : Int) := ⟨c.toNat, by omega⟩
 have hl : j < (turnT l).length := by unfold turnT; rw [turnK_len]; omega
 rw [rdS_lt _ j hl, Int.toNat_natCast]
 simp [turnT, turnK]
theorem turn_ok {l : List ByteArray} (O : OkSh l) : OkSh (turnT l) := by
 have n1 := O.n1
 have n8 := O.n8
 have m1 : 1 ≤ w0 l := O.m1
 have m8 : w0 l ≤ 8 := O.m8
 have hl : (turnT l).length = w0 l := by unfold turnT; rw [turnK_len]
 have hr : ∀ i : Int, 0 ≤ i → i < (turnT l).length → (rdOf ByteArray.empty (turnT l) i).size = l.length := fun i h0 h1 => by
  rw [turn_row l h0 (by omega), strOfNums_size, colS_len]
 have h0 := hr 0 (by omega) (by omega)
 exact ⟨by omega, by omega, by omega, by omega, fun i a b => by rw [hr i a b, h0]⟩

end Go.Proofs.Ytdhiijleafcfcaa.T
