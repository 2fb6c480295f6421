/- The law Back, in plain lists. -/
import Derived.Test.YtdhiijleafcfcaaT0
import Derived.Test.YtdhiijleafcfcaaPCi
import Derived.Test.YtdhiijleafcfcaaTf18
namespace Go.Proofs.Ytdhiijleafcfcaa.T
open Go.RowKit Go.Proofs.YtdhiijleafcfcaaW.PrintWords Go.Proofs.YtdhiijleafcfcaaW.PrintLast Go.Proofs.YtdhiijleafcfcaaW.PrintMore
attribute [local go_sem] max2_int min2_int max_two min_two max_three min_three max_four min_four
set_option linter.unusedVariables false
set_option linter.unusedSimpArgs false

abbrev mvd (b : Nat → Int) (s : ByteArray) : ByteArray := strOfNums (chgI b 0 (bytesOf s))
theorem strNB (s : ByteArray) : strOfNums (bytesOf s) = s := by
 apply Go.WideShapes.bytes_inj
 rw [strOfNums_data]
 unfold bytesOf
 rw [List.map_map]
 exact (List.map_congr_left (fun x _ => by simp)).trans (List.map_id _)
theorem bytesNS (xs : List Int) (h : ∀ x ∈ xs, 0 ≤ x ∧ x ≤ 255) : bytesOf (strOfNums xs) = xs := by
 unfold bytesOf
 rw [strOfNums_data, List.map_map]
 refine (List.map_congr_left (fun x hx => ?_)).trans (List.map_id _)
 have := h x hx
 simp
 omega
theorem bytes_all (s : ByteArray) : ∀ x ∈ bytesOf s, 0 ≤ x ∧ x ≤ 255 := by
 intro x hx
 unfold bytesOf at hx
 obtain ⟨b, _, rfl⟩ := List.mem_map.1 hx
 have := b.toNat_lt
 omega
theorem mvI_bd (c n : Int) : 97 ≤ mvI c n ∧ mvI c n ≤ 122 := by unfold mvI; omega
theorem mvI_isL (c n : Int) : isL (mvI c n) = true := by
 have := mvI_bd c n
 unfold isL
 rw [decide_eq_true this.1, decide_eq_true this.2]
 rfl
theorem mvI_add (c n m : Int) : mvI (mvI c n) m = mvI c (n + m) := by unfold mvI; omega
theorem mvI_mod (c : Int) {n m : Int} (h : (n - m) % 26 = 0) : mvI c n = mvI c m := by unfold mvI; omega
theorem mvI_id {c n : Int} (hc : isL c = true) (h : n % 26 = 0) : mvI c n = c := by
 have := isL_bd hc
 unfold mvI
 omega
theorem chg_comp (b d : Nat → Int) : ∀ (l : List Int) (i : Nat), chgI d i (chgI b i l) = chgI (fun j => b j + d j) i l
 | [], _ => rfl
 | c :: l, i => by
  by_cases h : isL c = true
  ·simp only [chgI, h, if_true, mvI_isL, mvI_add, chg_comp b d l (i + 1)]
  ·simp only [chgI, h, if_false, chg_comp b d l i, Bool.false_eq_true]
theorem chg_id (b : Nat → Int) (hb : ∀ j, b j % 26 = 0) : ∀ (l : List Int) (i : Nat), chgI b i l = l
 | [], _ => rfl
 | c :: l, i => by
  by_cases h : isL c = true
  ·simp only [chgI, h, if_true, mvI_id h (hb i), chg_id b hb l (i + 1)]
  ·simp only [chgI, h, if_false, chg_id b hb l i, Bool.false_eq_true]
theorem chg_bytes (b : Nat → Int) : ∀ (l : List Int) (i : Nat), (∀ x ∈ l, 0 ≤ x ∧ x ≤ 255) → ∀ x ∈ chgI b i l, 0 ≤ x ∧ x ≤ 255
 | [], _, _ => fun x hx => by simp [chgI] at hx
 | c :: l, i, hl => fun x hx => by
  have hl' : ∀ x ∈ l, 0 ≤ x ∧ x ≤ 255 := fun x hx => hl x (by simp [hx])
  simp only [chgI] at hx
  split at hx
  ·rcases List.mem_cons.1 hx with rfl | hx
   ·have := mvI_bd c (b i); omega
   ·exact chg_bytes b l (i + 1) hl' x hx
  ·rcases List.mem_cons.1 hx with rfl | hx
   ·exact hl _ (by simp)
   ·exact chg_bytes b l i hl' x hx
theorem mvd_comp (b d : Nat → Int) (s : ByteArray) : mvd d (mvd b s) = mvd (fun j => b j + d j) s := by
 unfold mvd
 rw [bytesNS _ (chg_bytes b _ _ (bytes_all s)), chg_comp]
theorem mvd_id (b : Nat → Int) (hb : ∀ j, b j % 26 = 0) (s : ByteArray) : mvd b s = s := by
 unfold mvd
 rw [chg_id b hb, strNB]
theorem mvd_size (b : Nat → Int) (s : ByteArray) : (mvd b s).size = s.size := by
 unfold mvd
 rw [strOfNums_size, chgI_length, bytesOf_length]
theorem Shift_any (s : ByteArray) (n : Int) : puzzles_Shift.f s n = some (shiR s n) := by
 by_cases h : s.size ≤ 400
 ·exact Shift_val s n h
 ·unfold puzzles_Shift.f shiR
  rw [if_pos (by omega), if_pos (by omega)]
theorem crk_mem (p : Int → Bool) : ∀ (m i : Nat) (j : Nat), i ≤ j → j < i + m → p (j : Int) = true → (j : Int) ∈ crk p m i
 | 0, i, j, h1, h2, _ => by omega
 | m + 1, i, j, h1, h2, hp => by
  rw [crk]
  by_cases q : j = i
  ·subst q
   rw [if_pos hp]
   simp
  ·have := crk_mem p m (i + 1) j (by omega) (by omega) hp
   split
   ·exact List.mem_cons_of_mem _ this
   ·exact this
theorem crk_len (p : Int → Bool) : ∀ (m i : Nat), (crk p m i).length ≤ m
 | 0, _ => Nat.le_refl _
 | m + 1, i => by
  have := crk_len p m (i + 1)
  rw [crk]
  split
  ·simp only [List.length_cons]; omega
  ·omega
theorem back_has (l : List Int) (n : Int) (hm : l.length ≤ 1000) : Ev (fun k => padlocklaw03_has.f k l n) (decide (n ∈ l)) := by
 have key : ∀ (m i : Nat), i + m = l.length → Ev (fun k => padlocklaw03_has.l0 k l n (i : Int)) (decide (n ∈ l.drop i)) := by
  intro m
  induction m with
  | zero =>
   intro i hi
   refine Ev.step (f := fun _ => some false) (fun k => ?_) (Ev.eq (Ev.now _) ?_)
   ·rw [padlocklaw03_has.l0, if_neg (by omega)]
   ·rw [List.drop_of_length_le (by omega)]
    simp
  | succ m ih =>
   intro i hi
   have hlt : i < l.length := by omega
   have e1 : wrap64 ((i : Int) + 1) = ((i + 1 : Nat) : Int) := by rw [w64 _ (by omega) (by omega)]; omega
   rw [List.drop_eq_getElem_cons hlt]
   by_cases q : l[i] = n
   ·refine Ev.step (f := fun _ => some true) (fun k => ?_) (Ev.eq (Ev.now _) (by simp [q]))
    rw [padlocklaw03_has.l0, if_pos (by omega), if_pos (by omega), rd_lt l i hlt, if_pos q]
   ·refine Ev.step (fun k => ?_) (Ev.eq (ih (i + 1) (by omega)) ?_)
    ·rw [padlocklaw03_has.l0, if_pos (by omega), if_pos (by omega), rd_lt l i hlt, if_neg q, e1]
    ·rw [decide_eq_decide, List.mem_cons]
     constructor
     ·exact .inr
     ·rintro (h | h)
      ·exact absurd h.symm q
      ·exact h
 have := key l.length 0 (by omega)
 rw [List.drop_zero] at this
 exact Ev.congr (fun k => rfl) this
theorem back_contains (s p : ByteArray) (hs : s.size ≤ 400) (hp : p.size ≤ 400) : Ev (fun k => padlocklaw03_contains.f k s p) (Lib.contains s.data.toList p.data.toList) := by
 have same : ∀ k i, padlocklaw03_contains.l0 k s p i = padlockref03_contains.l0 k s p i := by
  intro k
  induction k with
  | zero => intro i; rfl
  | succ k ih => intro i; rw [padlocklaw03_contains.l0, padlockref03_contains.l0, ih]
 exact Ev.congr (fun k => same k 0) (refcontains_ev s p hs hp)
theorem back_mix (s key : ByteArray) (n : Int) (bk : Bool) (hs : s.size ≤ 9223372036854775807) : Ev (fun k => padlocklaw03_PuzzlesBack.j2 k s n key bk) true := by
 refine Ev.step (fun k => by rw [padlocklaw03_PuzzlesBack.j2]) ?_
 have late : ∀ x : ByteArray, ∀ e : Int, e ≠ 0 → puzzles_Mix.f s key bk = some (x, e) → Ev (fun k => (puzzles_Mix.f s key bk).bind fun bt854 => (if bt854.2 = 0 then ((puzzles_Mix.f bt854.1 key (!bk)).bind fun bt856 => (if bt856.2 = 0 then (if bt856.1.toList = s.toList then ((padlocklaw03_works.f k).bind fun t858 => (some t858)) else (some false)) else (some false))) else ((padlocklaw03_works.f k).bind fun t859 => (some t859)))) true := fun x e he h => by
  rw [h]
  refine Ev.congr (fun k => by rw [Option.bind_some, if_neg he]) (Ev.bind works_ev (Ev.now true))
 by_cases h200 : s.size ≤ 200
 ·by_cases hk : 1 ≤ key.size ∧ key.size ≤ 12
  ·cases q : key.data.toList.any (fun b => notLetterR b.toNat) with
   | true => exact late ⟨#[]⟩ 1 (by decide) (by unfold puzzles_Mix.f; rw [if_pos h200, if_pos hk, if_pos q])
   | false =>
    have h1 : puzzles_Mix.f s key bk = some (mvd (mixB key (if bk then -1 else 1)) s, 0) := by unfold puzzles_Mix.f; rw [if_pos h200, if_pos hk, if_neg (by rw [q]; decide)]
    have h2 : puzzles_Mix.f (mvd (mixB key (if bk then -1 else 1)) s) key (!bk) = some (s, 0) := by
     unfold puzzles_Mix.f
     rw [if_pos (by rw [mvd_size]; exact h200), if_pos hk, if_neg (by rw [q]; decide)]
     have := mvd_comp (mixB key (if bk then -1 else 1)) (mixB key (if (!bk) then -1 else 1)) s
     unfold mvd at this
     rw [this, ← mvd, mvd_id _ (fun j => ?_)]
     unfold mixB
     cases bk
     ·simp
      omega
     ·simp
      omega
    rw [h1]
    refine Ev.congr (fun k => ?_) (Ev.bind works_ev (Ev.now true))
    rw [Option.bind_some, if_pos rfl, h2, Option.bind_some, if_pos rfl, if_pos rfl]
  ·exact late ⟨#[]⟩ 1 (by decide) (by unfold puzzles_Mix.f; rw [if_pos h200, if_neg hk])
 ·exact late ⟨#[]⟩ 2 (by decide) (by unfold puzzles_Mix.f; rw [if_neg h200, if_pos hs])
theorem back_law (a0 : ByteArray) (n : Int) (key : ByteArray) (bk : Bool) (a2 : ByteArray) (hs : a0.size ≤ 9223372036854775807) : Ev (fun k => padlocklaw03_PuzzlesBack.f k a0 n key bk a2) true := by
 have hmix := back_mix a0 key n bk hs
 have out : (shiR a0 n).2 ≠ 0 → Ev (fun k => padlocklaw03_PuzzlesBack.f k a0 n key bk a2) true := fun h => by
  refine Ev.congr (fun k => ?_) hmix
  unfold padlocklaw03_PuzzlesBack.f
  rw [Shift_any, Option.bind_some, if_neg h]
 by_cases h200 : a0.size > 200
 ·exact out (by unfold shiR; rw [if_pos h200]; decide)
 by_cases hn : -100 ≤ n ∧ n ≤ 100
 ·have hx : shiR a0 n = (mvd (fun _ => n) a0, 0) := by unfold shiR; rw [if_neg h200, if_pos hn]
  have back : ∀ m : Int, (m + n) % 26 = 0 → mvd (fun _ => m) (mvd (fun _ => n) a0) = a0 := fun m hm => by
   rw [mvd_comp, mvd_id _ (fun _ => by show (n + m) % 26 = 0; omega)]
  obtain ⟨x, hxe⟩ : ∃ x, mvd (fun _ => n) a0 = x := ⟨_, rfl⟩
  have hxs : x.size = a0.size := by rw [← hxe, mvd_size]
  have sh : ∀ m : Int, -100 ≤ m ∧ m ≤ 100 → shiR x m = (mvd (fun _ => m) x, 0) := fun m hm => by unfold shiR; rw [if_neg (by omega), if_pos hm]
  rw [hxe] at hx back
  -- the last part: what has been cracked
  have j1 : Ev (fun k => padlocklaw03_PuzzlesBack.j1 k a0 a2 x false n key bk) true := by
   refine Ev.step (fun k => by rw [padlocklaw03_PuzzlesBack.j1, if_neg (by decide)]) ?_
   by_cases hb : 200 < x.size ∨ 200 < a2.size
   ·refine Ev.congr (fun k => ?_) hmix
    have : puzzles_Crack.f k x a2 = some ([], 2) := by unfold puzzles_Crack.f; rw [if_pos hb]
    rw [this, Option.bind_some, if_neg (by decide)]
   ·refine Ev.congr (fun k => ?_) (Ev.bind (back_contains a0 a2 (by omega) (by omega)) (f := fun k t852 => if t852 = true then ((padlocklaw03_has.f k (crk (crP x a2) 26 0) (Int.tmod (wrap64 ((Int.tmod (wrap64 (26 - n)) 26) + 26)) 26)).bind fun t853 => (if t853 = true then (padlocklaw03_PuzzlesBack.j2 k a0 n key bk) else (some false))) else (padlocklaw03_PuzzlesBack.j2 k a0 n key bk)) ?_)
    ·have : puzzles_Crack.f k x a2 = some (crk (crP x a2) 26 0, 0) := by unfold puzzles_Crack.f; rw [if_neg hb]
     rw [this, Option.bind_some, if_pos rfl]
    ·cases q : Lib.contains a0.data.toList a2.data.toList with
     | false => exact Ev.congr (fun k => if_neg (by decide)) hmix
     | true =>
      have hn' : ∃ j : Nat, Int.tmod (wrap64 ((Int.tmod (wrap64 (26 - n)) 26) + 26)) 26 = (j : Int) ∧ j < 26 ∧ ((j : Int) + n) % 26 = 0 := by
       have ht : ∃ t, (if 0 ≤ 26 - n then (26 - n) % 26 else -((-(26 - n)) % 26)) = t ∧ -25 ≤ t ∧ t ≤ 25 ∧ (t + n) % 26 = 0 := ⟨_, rfl, by split <;> omega, by split <;> omega, by split <;> omega⟩
       obtain ⟨t, e, t1, t2, t3⟩ := ht
       rw [w64 (26 - n) (by omega) (by omega), tmod26 (26 - n), e, w64 _ (by omega) (by omega), Int.tmod_eq_emod_of_nonneg (by omega)]
       exact ⟨((t + 26) % 26).toNat, by omega, by omega, by omega⟩
      obtain ⟨j, hj, hj26, hjn⟩ := hn'
      have hp : crP x a2 (j : Int) = true := by
       unfold crP
       have := back j hjn
       unfold mvd at this
       rw [this]
       exact q
      have hmem := crk_mem (crP x a2) 26 0 j (by omega) (by omega) hp
      rw [hj]
      refine Ev.congr (fun k => if_pos rfl) (Ev.bind (back_has (crk (crP x a2) 26 0) j (by have := crk_len (crP x a2) 26 0; omega)) ?_)
      rw [decide_eq_true hmem]
      exact Ev.congr (fun k => if_pos rfl) hmix
  have hm : -100 ≤ ((key.size : Int) % 40) - 20 ∧ ((key.size : Int) % 40) - 20 ≤ 100 := by omega
  obtain ⟨m, hme⟩ : ∃ m, ((key.size : Int) % 40) - 20 = m := ⟨_, rfl⟩
  have hmb : -20 ≤ m ∧ m ≤ 20 := by omega
  refine Ev.congr (fun k => ?_) (Ev.step (g := fun k => padlocklaw03_PuzzlesBack.j0 k a0 a2 x false n key bk) (fun k => ?_) j1)
  ·have hb0 := back (-n) (by omega)
   unfold padlocklaw03_PuzzlesBack.f
   rw [Shift_any, hx, Option.bind_some, if_pos rfl, w64 (-n) (by omega) (by omega), Shift_any, sh (-n) (by omega), hb0, Option.bind_some, if_pos rfl, if_pos rfl]
   have : ((x.size : Int) != (a0.size : Int)) = false := by rw [hxs, bne_self_eq_false]
   rw [this]
  ·rw [padlocklaw03_PuzzlesBack.j0, if_neg (by decide), hme, w64 (n + m) (by omega) (by omega), Shift_any, sh m (by omega), Option.bind_some, Shift_any, Option.bind_some, if_pos rfl]
   by_cases q : -100 ≤ n + m ∧ n + m ≤ 100
   ·have hs2 : shiR a0 (n + m) = (mvd (fun _ => n + m) a0, 0) := by unfold shiR; rw [if_neg h200, if_pos q]
    have hc : mvd (fun _ => m) x = mvd (fun _ => n + m) a0 := by rw [← hxe, mvd_comp]
    rw [hs2, hc, if_pos rfl, bne_self_eq_false]
   ·have hs2 : shiR a0 (n + m) = (⟨#[]⟩, 1) := by unfold shiR; rw [if_neg h200, if_neg q]
    rw [hs2, if_neg (by decide)]
 ·exact out (by unfold shiR; rw [if_neg h200, if_neg hn]; decide)

end Go.Proofs.Ytdhiijleafcfcaa.T
