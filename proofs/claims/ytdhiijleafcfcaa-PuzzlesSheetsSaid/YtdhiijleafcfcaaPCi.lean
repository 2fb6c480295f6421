/- Ciphers in plain lists: what the document says of them. -/
import Derived.Test.YtdhiijleafcfcaaT0
import Derived.Test.YtdhiijleafcfcaaP0
import Derived.Test.YtdhiijleafcfcaaCk
import Derived.Test.YtdhiijleafcfcaaMx
import Derived.Test.YtdhiijleafcfcaaTxr
import Derived.Test.YtdhiijleafcfcaaTxc
import Derived.Test.YtdhiijleafcfcaaTk
namespace Go.Proofs.Ytdhiijleafcfcaa.T
open Go.RowKit Go.Proofs.YtdhiijleafcfcaaW.PrintWords Go.Proofs.YtdhiijleafcfcaaW.PrintLast Go.Proofs.YtdhiijleafcfcaaW.PrintMore
attribute [local go_sem] max2_int min2_int max_two min_two max_three min_three max_four min_four
set_option linter.unusedVariables false
set_option linter.unusedSimpArgs false

theorem bt_get (s : ByteArray) (i : Nat) (h : i < s.size) : bt s (i : Int) = (bytesOf s).getD i 0 := by
 have h2 : i < s.data.toList.length := by rw [data_length]; exact h
 unfold bt bytesOf
 rw [dif_pos (by rw [Int.toNat_natCast]; exact h), List.getD_eq_getElem?_getD, List.getElem?_map, List.getElem?_eq_getElem h2]
 rfl
theorem bt_data (s : ByteArray) (i : Nat) (h : i < s.data.toList.length) : bt s (i : Int) = ((s.data.toList[i]).toNat : Int) := by
 rw [data_length] at h
 unfold bt
 rw [dif_pos (by rw [Int.toNat_natCast]; exact h)]
 rfl
theorem refletter_val (c : Int) : padlockref03_letter.f c = some (isL c) := by
 unfold padlockref03_letter.f isL
 by_cases h : c ≥ 97
 ·rw [if_pos h, decide_eq_true (show (97 : Int) ≤ c from h), Bool.true_and]
 ·rw [if_neg h, decide_eq_false (show ¬ (97 : Int) ≤ c from h), Bool.false_and]
theorem moved_val (c n : Int) (h1 : 97 ≤ c) (h2 : c ≤ 122) (h3 : -100000 ≤ n) (h4 : n ≤ 100000) : padlockref03_moved.f c n = some (mvI c n) := by
 unfold padlockref03_moved.f mvI
 rw [tmod26 n]
 have ht : ∃ t, (if 0 ≤ n then n % 26 else -((-n) % 26)) = t ∧ -25 ≤ t ∧ t ≤ 25 ∧ (t - n) % 26 = 0 := ⟨_, rfl, by split <;> omega, by split <;> omega, by split <;> omega⟩
 obtain ⟨t, e, t1, t2, t3⟩ := ht
 rw [e, w64 ((c - 97) % 256 + t) (by omega) (by omega), w64 _ (by omega) (by omega), Int.tmod_eq_emod_of_nonneg (by omega)]
 congr 1
 omega
theorem chg_take (b : Nat → Int) (l : List Int) (i : Nat) (h : i < l.length) : chgI b 0 (l.take (i + 1)) = chgI b 0 (l.take i) ++ [if isL (l.getD i 0) = true then mvI (l.getD i 0) (b (lets (l.take i))) else l.getD i 0] := by
 rw [take_snocI l i h, chgI_append, Nat.zero_add]
 congr 1
 simp only [chgI]
 split <;> rfl
theorem isL_bd {c : Int} (h : isL c = true) : 97 ≤ c ∧ c ≤ 122 := by
 unfold isL at h
 simpa using h
theorem refshift_ev (s : ByteArray) (n : Int) (h200 : s.size ≤ 200) (h3 : -100000 ≤ n) (h4 : n ≤ 100000) : Ev (fun k => padlockref03_shift.f k s n) (strOfNums (chgI (fun _ => n) 0 (bytesOf s))) := by
 have key : ∀ (m i : Nat), i + m = s.size → Ev (fun k => padlockref03_shift.l0 k s n (chgI (fun _ => n) 0 ((bytesOf s).take i)) (i : Int)) (strOfNums (chgI (fun _ => n) 0 (bytesOf s))) := by
  intro m
  induction m with
  | zero =>
   intro i hi
   refine Ev.step (f := fun _ => some (strOfNums (chgI (fun _ => n) 0 (bytesOf s)))) (fun k => ?_) (Ev.now _)
   rw [padlockref03_shift.l0, if_neg (by omega), List.take_of_length_le (by rw [bytesOf_length]; omega)]
  | succ m ih =>
   intro i hi
   have hlt : i < s.size := by omega
   have e1 : wrap64 ((i : Int) + 1) = ((i + 1 : Nat) : Int) := by rw [w64 _ (by omega) (by omega)]; omega
   have hlen : (chgI (fun _ => n) 0 ((bytesOf s).take i)).length < 140737488355328 := by rw [chgI_length, List.length_take]; omega
   have IH := ih (i + 1) (by omega)
   rw [chg_take _ _ i (by rw [bytesOf_length]; exact hlt)] at IH
   obtain ⟨c, hc⟩ : ∃ c, (bytesOf s).getD i 0 = c := ⟨_, rfl⟩
   rw [hc] at IH
   refine Ev.step (fun k => ?_) IH
   rw [padlockref03_shift.l0, if_pos (by omega), if_pos (by omega), bt_get s i hlt, hc, refletter_val, Option.bind_some]
   cases q : isL c with
   | true =>
    obtain ⟨q1, q2⟩ := isL_bd q
    rw [if_pos rfl, moved_val c n q1 q2 h3 h4, Option.bind_some, if_pos hlen, e1, if_pos rfl]
   | false => rw [if_neg (by decide), if_pos hlen, e1, if_neg (by decide)]
 exact Ev.congr (fun k => rfl) (key s.size 0 (by omega))
theorem refletters_ev (s : ByteArray) (h200 : s.size ≤ 1000) : Ev (fun k => padlockref03_letters.f k s) (!(s.data.toList.any fun b => notLetterR b.toNat)) := by
 have key : ∀ (m i : Nat), i + m = s.size → Ev (fun k => padlockref03_letters.l0 k s (i : Int)) (!((s.data.toList.drop i).any fun b => notLetterR b.toNat)) := by
  intro m
  induction m with
  | zero =>
   intro i hi
   refine Ev.step (f := fun _ => some true) (fun k => ?_) (Ev.eq (Ev.now _) ?_)
   ·rw [padlockref03_letters.l0, if_neg (by omega)]
   ·rw [List.drop_of_length_le (by rw [data_length]; omega)]
    rfl
  | succ m ih =>
   intro i hi
   have hlt : i < s.data.toList.length := by rw [data_length]; omega
   have e1 : wrap64 ((i : Int) + 1) = ((i + 1 : Nat) : Int) := by rw [w64 _ (by omega) (by omega)]; omega
   have hq : isL (bt s (i : Int)) = !(notLetterR (s.data.toList[i]).toNat) := by
    rw [bt_data s i hlt]
    unfold isL notLetterR
    rw [Bool.eq_iff_iff]
    simp
    omega
   rw [List.drop_eq_getElem_cons hlt, List.any_cons]
   cases q : notLetterR (s.data.toList[i]).toNat with
   | true =>
    rw [q] at hq
    refine Ev.step (f := fun _ => some false) (fun k => ?_) (Ev.eq (Ev.now _) (by rw [Bool.true_or]; rfl))
    rw [padlockref03_letters.l0, if_pos (by omega), if_pos (by omega), refletter_val, Option.bind_some, hq, if_neg (by decide)]
   | false =>
    rw [q] at hq
    rw [Bool.false_or]
    refine Ev.step (fun k => ?_) (ih (i + 1) (by omega))
    rw [padlockref03_letters.l0, if_pos (by omega), if_pos (by omega), refletter_val, Option.bind_some, hq, if_pos (by decide), e1]
 have := key s.size 0 (by omega)
 rw [List.drop_zero] at this
 exact Ev.congr (fun k => rfl) this
theorem tmod_nat (a b : Nat) : Int.tmod (a : Int) (b : Int) = ((a % b : Nat) : Int) := rfl
set_option maxHeartbeats 1000000 in
theorem mix_loop (s key : ByteArray) (bk : Bool) (h200 : s.size ≤ 200) (hk1 : 1 ≤ key.size) (hk2 : key.size ≤ 12) (hk : key.data.toList.any (fun b => notLetterR b.toNat) = false) :
  ∀ (m i : Nat), i + m = s.size → Ev (fun k => padlockref03_Mix.l0 k s key bk (chgI (mixB key (if bk then -1 else 1)) 0 ((bytesOf s).take i)) ((lets ((bytesOf s).take i) : Nat) : Int) (i : Int)) (strOfNums (chgI (mixB key (if bk then -1 else 1)) 0 (bytesOf s)), 0) := by
 have hsg : (if bk then (-1 : Int) else 1) = 1 ∨ (if bk then (-1 : Int) else 1) = -1 := by cases bk <;> simp
 intro m
 induction m with
 | zero =>
  intro i hi
  refine Ev.step (f := fun _ => some (strOfNums (chgI (mixB key (if bk then -1 else 1)) 0 (bytesOf s)), 0)) (fun k => ?_) (Ev.now _)
  rw [padlockref03_Mix.l0, if_neg (by omega), List.take_of_length_le (by rw [bytesOf_length]; omega)]
 | succ m ih =>
  intro i hi
  have hlt : i < s.size := by omega
  have hltb : i < (bytesOf s).length := by rw [bytesOf_length]; exact hlt
  have e1 : wrap64 ((i : Int) + 1) = ((i + 1 : Nat) : Int) := by rw [w64 _ (by omega) (by omega)]; omega
  have hlets := lets_le ((bytesOf s).take i)
  rw [List.length_take] at hlets
  obtain ⟨L, hL⟩ : ∃ L, lets ((bytesOf s).take i) = L := ⟨_, rfl⟩
  have hmb := mixB_range key (if bk then -1 else 1) hsg hk1 hk L
  have e2 : wrap64 ((L : Int) + 1) = ((L + 1 : Nat) : Int) := by rw [w64 _ (by omega) (by omega)]; omega
  have hlen : (chgI (mixB key (if bk then -1 else 1)) 0 ((bytesOf s).take i)).length < 140737488355328 := by rw [chgI_length, List.length_take]; omega
  have IH := ih (i + 1) (by omega)
  rw [chg_take _ _ i hltb, take_snocI _ i hltb, lets_snoc, hL] at IH
  rw [hL]
  obtain ⟨c, hc⟩ : ∃ c, (bytesOf s).getD i 0 = c := ⟨_, rfl⟩
  rw [hc] at IH
  have hmod := tmod_nat L key.size
  have hml : L % key.size < key.size := Nat.mod_lt _ (by omega)
  obtain ⟨k1, k2⟩ := letter_byte key hk (L % key.size) hml
  refine Ev.step (fun k => ?_) IH
  rw [padlockref03_Mix.l0, if_pos (by omega), if_pos (by omega), bt_get s i hlt, hc, refletter_val, Option.bind_some]
  cases q : isL c with
  | true =>
   obtain ⟨q1, q2⟩ := isL_bd q
   rw [if_pos rfl, if_neg (by omega), hmod, if_pos (by omega), if_pos (by omega)]
   cases bk with
   | true =>
    have em : -((bt key ((L % key.size : Nat) : Int) - 97) % 256) = mixB key (if true then -1 else 1) L := by unfold mixB; rw [if_pos rfl]; omega
    rw [if_pos rfl, em, moved_val c _ q1 q2 hmb.1 hmb.2, Option.bind_some, if_pos hlen, e1, e2]
    rfl
   | false =>
    have em : (bt key ((L % key.size : Nat) : Int) - 97) % 256 = mixB key (if false then -1 else 1) L := by unfold mixB; rw [if_neg (by decide)]; omega
    rw [if_neg (by decide), em, moved_val c _ q1 q2 hmb.1 hmb.2, Option.bind_some, if_pos hlen, e1, e2]
    rfl
  | false =>
   rw [if_neg (show ¬ (false = true) by decide), if_pos hlen, e1]
   rfl
/-- Mix, on both sides. -/
theorem mix_both (s key : ByteArray) (bk : Bool) (h400 : s.size ≤ 400) : ∃ r, puzzles_Mix.f s key bk = some r ∧ Ev (fun k => padlockref03_Mix.f k s key bk) r := by
 have bad : Ev (fun k => padlockref03_Mix.j0 k s key bk true) ((⟨#[]⟩ : ByteArray), 1) := Ev.step (f := fun _ => some (⟨#[]⟩, 1)) (fun k => by rw [padlockref03_Mix.j0, if_pos rfl]) (Ev.now _)
 unfold puzzles_Mix.f
 by_cases h200 : s.size ≤ 200
 ·rw [if_pos h200]
  have head : ∀ {r}, Ev (fun k => (padlockref03_Within.f (key.size : Int) 1 12).bind fun t800 => (if t800 = true then ((padlockref03_letters.f k key).bind fun t801 => (padlockref03_Mix.j0 k s key bk (!t801))) else (padlockref03_Mix.j0 k s key bk true))) r → Ev (fun k => padlockref03_Mix.f k s key bk) r := fun h => by
   refine Ev.congr (fun k => ?_) h
   unfold padlockref03_Mix.f
   rw [if_neg (by omega)]
  by_cases hk : 1 ≤ key.size ∧ key.size ≤ 12
  ·rw [if_pos hk]
   have hw : padlockref03_Within.f (key.size : Int) 1 12 = some true := by
    rw [refwithin_val, decide_eq_true (show (1 : Int) ≤ (key.size : Int) by omega), decide_eq_true (show (key.size : Int) ≤ 12 by omega)]
    rfl
   have hl := refletters_ev key (by omega)
   cases q : key.data.toList.any (fun b => notLetterR b.toNat) with
   | true =>
    rw [q] at hl
    refine ⟨_, rfl, head ?_⟩
    simp only [hw, Option.bind_some, if_true]
    exact Ev.bind hl bad
   | false =>
    rw [q] at hl
    refine ⟨_, rfl, head ?_⟩
    simp only [hw, Option.bind_some, if_true]
    refine Ev.bind hl ?_
    refine Ev.step (fun k => ?_) (mix_loop s key bk h200 hk.1 hk.2 q s.size 0 (by omega))
    rw [Bool.not_false, padlockref03_Mix.j0, if_neg (by decide)]
    rfl
  ·rw [if_neg hk]
   refine ⟨_, rfl, head ?_⟩
   have hw : padlockref03_Within.f (key.size : Int) 1 12 = some false := by
    rw [refwithin_val]
    congr 1
    rw [Bool.eq_false_iff]
    simp
    omega
   simp only [hw, Option.bind_some]
   exact Ev.congr (fun k => if_neg (by decide)) bad
 ·rw [if_neg h200, if_pos (by omega)]
  refine ⟨_, rfl, Ev.congr (fun k => ?_) (Ev.now _)⟩
  unfold padlockref03_Mix.f
  rw [if_pos (by omega)]
theorem shift_val (s : ByteArray) (n : Int) (h : s.size ≤ 400) (h3 : -100000 ≤ n) (h4 : n ≤ 100000) : puzzles_shift.f s n = some (strOfNums (chgI (fun _ => n) 0 (bytesOf s))) := by
 unfold puzzles_shift.f
 rw [if_pos (by omega)]
/-- What Shift comes to. -/
def shiR (s : ByteArray) (n : Int) : ByteArray × Int := if s.size > 200 then (⟨#[]⟩, 2) else if -100 ≤ n ∧ n ≤ 100 then (strOfNums (chgI (fun _ => n) 0 (bytesOf s)), 0) else (⟨#[]⟩, 1)
theorem Shift_val (s : ByteArray) (n : Int) (h400 : s.size ≤ 400) : puzzles_Shift.f s n = some (shiR s n) := by
 unfold puzzles_Shift.f shiR
 by_cases h200 : s.size > 200
 ·rw [if_pos h200, if_pos (by omega)]
 ·rw [if_neg h200, if_neg (by omega), within_val, Option.bind_some]
  by_cases q : -100 ≤ n ∧ n ≤ 100
  ·rw [if_pos (by simp [q.1, q.2]), if_pos q, shift_val s n h400 (by omega) (by omega), Option.bind_some]
  ·rw [if_neg (by simpa using q), if_neg q]
theorem refShift_ev (s : ByteArray) (n : Int) : Ev (fun k => padlockref03_Shift.f k s n) (shiR s n) := by
 unfold padlockref03_Shift.f shiR
 by_cases h200 : s.size > 200
 ·rw [if_pos h200]
  exact Ev.congr (fun k => if_pos (by omega)) (Ev.now _)
 ·rw [if_neg h200]
  refine Ev.congr (fun k => by rw [if_neg (by omega), refwithin_val, Option.bind_some]) ?_ (f := fun k => if (decide (-100 ≤ n) && decide (n ≤ 100)) = true then ((padlockref03_shift.f k s n).bind fun t799 => (some (t799, 0))) else (some ((⟨#[]⟩ : ByteArray), 1)))
  by_cases q : -100 ≤ n ∧ n ≤ 100
  ·rw [if_pos q]
   refine Ev.congr (fun k => by rw [if_pos (by simp [q.1, q.2])]) (Ev.bind (refshift_ev s n (by omega) (by omega) (by omega)) (f := fun _ t799 => some (t799, 0)) (Ev.now _))
  ·rw [if_neg q]
   exact Ev.congr (fun k => by rw [if_neg (by simpa using q)]) (Ev.now _)
/-! A part of a text. -/
theorem contains_iff (T P : List UInt8) : Lib.contains T P = true ↔ ∃ j, j + P.length ≤ T.length ∧ Lib.occAt T P j = true := by
 unfold Lib.contains
 rw [decide_eq_true_eq]
 rcases Lib.index_spec T P with ⟨h1, h2⟩ | ⟨i, h1, h2, h3, h4⟩
 ·rw [h1]
  constructor
  ·intro h; omega
  ·rintro ⟨j, a, b⟩
   rw [h2 j (by omega)] at b
   cases b
 ·rw [h1]
  constructor
  ·intro _
   rcases Lib.occAt_room h3 with q | q
   ·exact ⟨i, q, h3⟩
   ·subst q
    exact ⟨0, by simp, by simp [Lib.occAt]⟩
  ·intro _; omega
theorem extract_occ (s p : ByteArray) (i : Nat) (h : i + p.size ≤ s.size) : ((s.extract i (i + p.size)).toList = p.toList) ↔ Lib.occAt s.data.toList p.data.toList i = true := by
 rw [Lib.occAt_iff_take _ _ _ (by rw [data_length, data_length]; exact h), beq_iff_eq, ByteArray.toList_eq, ByteArray.toList_eq]
 have : (s.extract i (i + p.size)).data.toList = (s.data.toList.drop i).take p.data.toList.length := by
  rw [ByteArray.data_extract, Array.toList_extract, data_length]
  simp [List.extract]
 rw [this]
theorem refcontains_ev (s p : ByteArray) (hs : s.size ≤ 400) (hp : p.size ≤ 400) : Ev (fun k => padlockref03_contains.f k s p) (Lib.contains s.data.toList p.data.toList) := by
 have key : ∀ (m i : Nat), s.size + 1 ≤ i + m → i ≤ s.size + 1 → (∀ j, j < i → j + p.size ≤ s.size → Lib.occAt s.data.toList p.data.toList j = false) → Ev (fun k => padlockref03_contains.l0 k s p (i : Int)) (Lib.contains s.data.toList p.data.toList) := by
  have none_ : ∀ i : Nat, ¬ i + p.size ≤ s.size → (∀ j, j < i → j + p.size ≤ s.size → Lib.occAt s.data.toList p.data.toList j = false) → i ≤ s.size + 1 → Ev (fun k => padlockref03_contains.l0 k s p (i : Int)) (Lib.contains s.data.toList p.data.toList) := by
   intro i hi hn hle
   have hf : Lib.contains s.data.toList p.data.toList = false := by
    rw [Bool.eq_false_iff]
    intro h
    obtain ⟨j, a, b⟩ := (contains_iff _ _).1 h
    rw [data_length, data_length] at a
    rw [hn j (by omega) a] at b
    cases b
   rw [hf]
   refine Ev.step (f := fun _ => some false) (fun k => ?_) (Ev.now _)
   rw [padlockref03_contains.l0, w64 ((i : Int) + (p.size : Int)) (by omega) (by omega), if_neg (by omega)]
  intro m
  induction m with
  | zero => intro i hm hle hn; exact none_ i (by omega) hn hle
  | succ m ih =>
   intro i hm hle hn
   by_cases hi : i + p.size ≤ s.size
   ·have e1 : wrap64 ((i : Int) + 1) = ((i + 1 : Nat) : Int) := by rw [w64 _ (by omega) (by omega)]; omega
    have e2 : wrap64 ((i : Int) + (p.size : Int)) = ((i + p.size : Nat) : Int) := by rw [w64 _ (by omega) (by omega)]; omega
    have hx := extract_occ s p i hi
    by_cases q : Lib.occAt s.data.toList p.data.toList i = true
    ·have ht : Lib.contains s.data.toList p.data.toList = true := (contains_iff _ _).2 ⟨i, by rw [data_length, data_length]; exact hi, q⟩
     rw [ht]
     refine Ev.step (f := fun _ => some true) (fun k => ?_) (Ev.now _)
     rw [padlockref03_contains.l0, e2, if_pos (by omega), if_pos (by omega), if_pos (by omega), Int.toNat_natCast, Int.toNat_natCast, if_pos (hx.2 q)]
    ·refine Ev.step (fun k => ?_) (ih (i + 1) (by omega) (by omega) (fun j hj hjs => by
      by_cases qj : j = i
      ·subst qj; rw [Bool.not_eq_true] at q; exact q
      ·exact hn j (by omega) hjs))
     rw [padlockref03_contains.l0, e2, if_pos (by omega), if_pos (by omega), if_pos (by omega), Int.toNat_natCast, Int.toNat_natCast, if_neg (fun h => q (hx.1 h)), e1]
   ·exact none_ i hi hn hle
 exact Ev.congr (fun k => rfl) (key (s.size + 1) 0 (by omega) (by omega) (fun j hj => by omega))
theorem refcrack_ev (s p : ByteArray) (hs : s.size ≤ 400) (hp : p.size ≤ 400) : ∃ r : List Int × Int, (∀ k, puzzles_Crack.f k s p = some r) ∧ Ev (fun k => padlockref03_Crack.f k s p) r ∧ r.1.length ≤ 26 := by
 have two : Ev (fun k => padlockref03_Crack.j0 k s p true) (([] : List Int), 2) := Ev.step (f := fun _ => some ([], 2)) (fun k => by rw [padlockref03_Crack.j0, if_pos rfl]) (Ev.now _)
 by_cases h1 : 200 < s.size
 ·refine ⟨([], 2), fun k => by unfold puzzles_Crack.f; rw [if_pos (.inl h1)], Ev.congr (fun k => ?_) two, by simp⟩
  unfold padlockref03_Crack.f
  rw [if_pos (by omega)]
 by_cases h2 : 200 < p.size
 ·refine ⟨([], 2), fun k => by unfold puzzles_Crack.f; rw [if_pos (.inr h2)], Ev.congr (fun k => ?_) two, by simp⟩
  unfold padlockref03_Crack.f
  rw [if_neg (by omega), decide_eq_true (by omega)]
 ·have hlen : ∀ m i, (crk (crP s p) m i).length ≤ m := by
   intro m
   induction m with
   | zero => intro i; exact Nat.le_refl _
   | succ m ih =>
    intro i
    have := ih (i + 1)
    rw [crk]
    split
    ·simp only [List.length_cons]; omega
    ·omega
  have loop : ∀ (m i : Nat) (acc : List Int), i + m = 26 → acc.length ≤ i → Ev (fun k => padlockref03_Crack.l0 k s p acc (i : Int)) (acc ++ crk (crP s p) m i, 0) := by
   intro m
   induction m with
   | zero =>
    intro i acc hi ha
    refine Ev.step (f := fun _ => some (acc, 0)) (fun k => ?_) (Ev.eq (Ev.now _) (by rw [crk, List.append_nil]))
    rw [padlockref03_Crack.l0, if_neg (by omega)]
   | succ m ih =>
    intro i acc hi ha
    have e1 : wrap64 ((i : Int) + 1) = ((i + 1 : Nat) : Int) := by rw [w64 _ (by omega) (by omega)]; omega
    have hsh := refshift_ev s (i : Int) (by omega) (by omega) (by omega)
    have hct := refcontains_ev (strOfNums (chgI (fun _ => (i : Int)) 0 (bytesOf s))) p (by rw [chgI_size]; exact hs) hp
    refine Ev.step (fun k => by rw [padlockref03_Crack.l0, if_pos (by omega)]) (Ev.bind hsh (Ev.bind hct ?_))
    rw [crk]
    cases q : crP s p (i : Int) with
    | true =>
     have q' : Lib.contains (strOfNums (chgI (fun _ => (i : Int)) 0 (bytesOf s))).data.toList p.data.toList = true := q
     rw [q', if_pos rfl]
     refine Ev.congr (fun k => ?_) (Ev.eq (ih (i + 1) (acc ++ [(i : Int)]) (by omega) (by simp; omega)) (by rw [List.append_assoc, List.singleton_append]))
     rw [if_pos rfl, if_pos (by omega), e1]
    | false =>
     have q' : Lib.contains (strOfNums (chgI (fun _ => (i : Int)) 0 (bytesOf s))).data.toList p.data.toList = false := q
     rw [q', if_neg (by decide)]
     refine Ev.congr (fun k => ?_) (ih (i + 1) acc (by omega) (by omega))
     rw [if_neg (by decide), e1]
  refine ⟨(crk (crP s p) 26 0, 0), fun k => by unfold puzzles_Crack.f; rw [if_neg (by omega)], ?_, hlen 26 0⟩
  refine Ev.congr (fun k => ?_) (Ev.step (g := fun k => padlockref03_Crack.j0 k s p false) (fun k => ?_) (loop 26 0 [] rfl (by simp)))
  ·unfold padlockref03_Crack.f
   rw [if_neg (by omega), decide_eq_false (by omega)]
  ·rw [padlockref03_Crack.j0, if_neg (by decide)]
   rfl

end Go.Proofs.Ytdhiijleafcfcaa.T
