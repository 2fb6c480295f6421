/- change, shift and the closures of ciphers: what they return. -/
import Derived.Test.YtdhiijleafcfcaaT0
import Derived.Test.YtdhiijleafcfcaaTw
import Derived.Test.YtdhiijleafcfcaaT0
import Derived.Shelf.Abstract
import Derived.Lib.OthersKept
namespace Go.Proofs.Ytdhiijleafcfcaa.T
open Go.RowKit Go.Proofs.YtdhiijleafcfcaaW.PrintWords Go.Proofs.YtdhiijleafcfcaaW.PrintLast Go.Proofs.YtdhiijleafcfcaaW.PrintMore
attribute [local go_sem] max2_int min2_int max_two min_two max_three min_three max_four min_four
set_option linter.unusedVariables false
set_option linter.unusedSimpArgs false

/-- A letter moved on by n. -/
def mvI (c n : Int) : Int := 97 + (c - 97 + n) % 26
theorem tmod26 (x : Int) : Int.tmod x 26 = if 0 ≤ x then x % 26 else -((-x) % 26) := by
 split
 ·rename_i h; exact Int.tmod_eq_emod_of_nonneg h
 ·rename_i h
  rw [← Int.tmod_eq_emod_of_nonneg (by omega : 0 ≤ -x), Int.neg_tmod, Int.neg_neg]
theorem move_val (c n : Int) (h1 : 97 ≤ c) (h2 : c ≤ 122) (h3 : -100000 ≤ n) (h4 : n ≤ 100000) : puzzles_move.f c n = some (mvI c n) := by
 unfold puzzles_move.f mvI
 congr 1
 rw [show (c - 97) % 256 = c - 97 from by omega]
 rw [show wrap64 (c - 97 + n) = c - 97 + n from by unfold wrap64; omega]
 rw [tmod26 (c - 97 + n)]
 split
 ·rw [show wrap64 ((c - 97 + n) % 26 + 26) = (c - 97 + n) % 26 + 26 from by unfold wrap64; omega]
  rw [tmod26, if_pos (by omega)]
  omega
 ·rw [show wrap64 (-(-(c - 97 + n) % 26) + 26) = -(-(c - 97 + n) % 26) + 26 from by unfold wrap64; omega]
  rw [tmod26, if_pos (by omega)]
  omega
def isL (c : Int) : Bool := decide (97 ≤ c) && decide (c ≤ 122)
theorem letter_val (c : Int) : puzzles_letter.f c = some (isL c) := by
 unfold puzzles_letter.f isL
 split
 ·rename_i h; simp [show 97 ≤ c from h]
 ·rename_i h; simp [show ¬ 97 ≤ c from h]
/-- The letters changed; i: how many letters came before. -/
def chgI (b : Nat → Int) : Nat → List Int → List Int
 | _, [] => []
 | i, c :: l => if isL c then mvI c (b i) :: chgI b (i + 1) l else c :: chgI b i l
def lets (l : List Int) : Nat := (l.filter isL).length
theorem lets_snoc (l : List Int) (c : Int) : lets (l ++ [c]) = lets l + if isL c then 1 else 0 := by
 unfold lets; rw [List.filter_append]; by_cases h : isL c <;> simp [List.filter_cons, h]
theorem lets_le (l : List Int) : lets l ≤ l.length := List.length_filter_le _ _
theorem chgI_append (b : Nat → Int) (l m : List Int) (i : Nat) : chgI b i (l ++ m) = chgI b i l ++ chgI b (i + lets l) m := by
 induction l generalizing i with
 | nil => simp [chgI, lets]
 | cons c l ih =>
  have hl : lets (c :: l) = (if isL c then 1 else 0) + lets l := by unfold lets; by_cases h : isL c <;> simp [List.filter_cons, h]; omega
  by_cases h : isL c
  ·simp only [List.cons_append, chgI, h, if_true, ih, hl]; rw [Nat.add_assoc]
  ·simp only [List.cons_append, chgI, h, if_false, Bool.false_eq_true, ih, hl, Nat.zero_add]
theorem chgI_length (b : Nat → Int) (l : List Int) (i : Nat) : (chgI b i l).length = l.length := by
 induction l generalizing i with
 | nil => rfl
 | cons c l ih => by_cases h : isL c <;> simp [chgI, h, ih]
/-- The row after k rounds. -/
def chgTo (b : Nat → Int) (l : List Int) (k : Nat) : List Int := chgI b 0 (l.take k) ++ l.drop k
theorem chgTo_zero (b : Nat → Int) (l : List Int) : chgTo b l 0 = l := by simp [chgTo, chgI]
theorem chgTo_all (b : Nat → Int) (l : List Int) : chgTo b l l.length = chgI b 0 l := by simp [chgTo]
theorem chgTo_length (b : Nat → Int) (l : List Int) (k : Nat) (hk : k ≤ l.length) : (chgTo b l k).length = l.length := by
 simp [chgTo, chgI_length]; omega
theorem chgTo_get (b : Nat → Int) (l : List Int) (k : Nat) (hk : k < l.length) : (chgTo b l k).getD k 0 = l.getD k 0 := by
 unfold chgTo
 rw [List.getD_eq_getElem?_getD, List.getElem?_append_right (by simp [chgI_length]; omega), chgI_length, List.length_take, Nat.min_eq_left (by omega), List.getElem?_drop]
 simp
theorem take_snocI (l : List Int) (k : Nat) (hk : k < l.length) : l.take (k + 1) = l.take k ++ [l.getD k 0] := by
 rw [List.take_succ_eq_append_getElem hk, List.getD_eq_getElem?_getD, List.getElem?_eq_getElem hk]; rfl
theorem chgTo_yes (b : Nat → Int) (l : List Int) (k : Nat) (hk : k < l.length) (h : isL (l.getD k 0) = true) : (chgTo b l k).set k (mvI (l.getD k 0) (b (lets (l.take k)))) = chgTo b l (k + 1) := by
 unfold chgTo
 rw [take_snocI l k hk, chgI_append, List.set_append_right _ _ (by simp [chgI_length]; omega)]
 simp only [Nat.zero_add, chgI, h, if_true, chgI_length, List.length_take, List.append_assoc, List.cons_append, List.nil_append]
 rw [Nat.min_eq_left (by omega), Nat.sub_self, List.drop_eq_getElem_cons hk, List.set_cons_zero]
theorem chgTo_no (b : Nat → Int) (l : List Int) (k : Nat) (hk : k < l.length) (h : isL (l.getD k 0) = false) : chgTo b l k = chgTo b l (k + 1) := by
 unfold chgTo
 rw [take_snocI l k hk, chgI_append]
 simp only [Nat.zero_add, chgI, h, if_false, Bool.false_eq_true, List.append_assoc, List.cons_append, List.nil_append]
 rw [List.drop_eq_getElem_cons hk, List.getD_eq_getElem?_getD, List.getElem?_eq_getElem hk]; rfl

/-! A block of bytes, whatever lies behind them. -/
def BRow (W : World) (g n : Nat) (cur : List Int) : Prop :=
 cur.length = n ∧ ∃ (rest : List Value) (fr : Nat × Nat), W.heap[g]? = some (.cells (cur.map (Value.int .u8) ++ rest).toArray 5 fr) ∧ n ≤ fr.1
theorem BRow.lt {W : World} {g n : Nat} {cur : List Int} (h : BRow W g n cur) : g < W.heap.size := by
 obtain ⟨_, rest, fr, hh, _⟩ := h
 exact (Array.getElem?_eq_some_iff.1 hh).1
theorem BRow.cell {W : World} {g n : Nat} {cur : List Int} (h : BRow W g n cur) (k : Nat) (hk : k < n) : W.cell? ⟨g, k, none⟩ = some (.int .u8 (cur.getD k 0)) := by
 obtain ⟨hl, rest, fr, hh, _⟩ := h
 simp only [World.cell?, hh, Option.isSome_none, Bool.false_eq_true, if_false, List.getElem?_toArray]
 rw [List.getElem?_append_left (by simpa [hl] using hk), List.getElem?_map, List.getElem?_eq_getElem (by omega), List.getD_eq_getElem?_getD, List.getElem?_eq_getElem (by omega)]
 rfl
theorem BRow.frozen {W : World} {g n : Nat} {cur : List Int} (h : BRow W g n cur) (k : Nat) (hk : k < n) : W.frozen? ⟨g, k, none⟩ = false := by
 obtain ⟨hl, rest, fr, hh, hf⟩ := h
 simp only [World.frozen?, hh]
 simp; omega
theorem BRow.set_ {W : World} {g n : Nat} {cur : List Int} (h : BRow W g n cur) (k : Nat) (hk : k < n) (v : Int) : BRow (W.setCell ⟨g, k, none⟩ (.int .u8 v)) g n (cur.set k v) := by
 obtain ⟨hl, rest, fr, hh, hf⟩ := h
 refine ⟨by simpa using hl, rest, fr, ?_, hf⟩
 simp only [World.setCell, Array.getElem?_modify, hh, if_true, Option.map_some, Option.isSome_none, Bool.false_eq_true, if_false, List.setIfInBounds_toArray]
 congr 3
 rw [List.set_append_left _ _ (by simpa [hl] using hk), List.map_set]
theorem BRow.drewN {W : World} {g n : Nat} {cur : List Int} (h : BRow W g n cur) (m : Nat) : BRow (W.drewN m) g n cur := h
theorem BRow.new (w : World) (s : ByteArray) : BRow (Lib.bytesWorld w 5 s) w.heap.size s.size (bytesOf s) := by
 refine ⟨bytesOf_length s, List.replicate (grownCap w s.size 0 5 - s.size) (.int .u8 0), ((Lib.bytesCells w 5 s).size, (Lib.bytesCells w 5 s).size + 1), ?_, ?_⟩
 ·rw [Lib.bytesWorld_at_new]
  congr 2
  unfold Lib.bytesCells bytesOf
  apply Array.ext'
  simp
 ·simp [Lib.bytesCells]
theorem BRow.string {w : World} {g n cap : Nat} {cur : List Int} (h : BRow w g n cur) : (convert 138 9 (.slice (some ⟨g, 0, none⟩) n cap)).run Try.prog w = .ok (.string (strOfNums cur)) w :=
 run_convert_bytes_arg w 138 5 Try.underlying138 Try.underlying5 g 0 n cap cur h.1 (fun i hi => by rw [Nat.zero_add]; exact h.cell i hi) 9 Try.underlying9

/-- What the function value tells: at the i-th letter. -/
def ByAt (gq : Nat) (lb : Array Value) (b : Nat → Int) (w : World) : Prop :=
 ∀ (i : Nat) (W : World), (i : Int) ≤ 9223372036854775807 → Below w.heap.size w W → Calls Try.prog gq (#[.int .i64 (i : Int)] ++ lb) W fun e w' => e = .returned (.int .i64 (b i)) ∧ Drawn0 W w'

theorem bytes_range (s : ByteArray) (k : Nat) : 0 ≤ (bytesOf s).getD k 0 ∧ (bytesOf s).getD k 0 ≤ 255 := by
 rw [List.getD_eq_getElem?_getD]
 by_cases h : k < (bytesOf s).length
 ·rw [List.getElem?_eq_getElem h]
  simp only [bytesOf, List.getElem_map, Option.getD_some]
  have := (s.data.toList[k]'(by simpa [bytesOf] using h)).toNat_lt
  omega
 ·rw [List.getElem?_eq_none (by omega)]; simp

set_option maxHeartbeats 4000000 in
set_option maxRecDepth 100000 in
theorem change_calls (gq : Nat) (lb : Array Value) (eg : ∀ args w, (callFunc gq args).run Try.prog w = .ok (.enter gq args) w) (b : Nat → Int) (hb : ∀ i, -100000 ≤ b i ∧ b i ≤ 100000) (s : ByteArray) (w : World)
  (hs : s.size ≤ 9223372036854775807) (hby : ByAt gq lb b w) :
  Calls Try.prog 119 #[.string s, .func (.func gq) #[] lb] w fun e w' => e = .returned (.string (strOfNums (chgI b 0 (bytesOf s)))) ∧ Below w.heap.size w w' := by
 have kb := fun W => print_bytes (P := Try.prog) 9 138 5 Try.underlying9 Try.underlying138 Try.underlying5 s W
 have HBY := Aside0.mk hby
 have HB := Aside0.mk hb
 have hlen := bytesOf_length s
 have HL := Aside0.mk hlen
 clear hby hb hlen
 have hs' : (s.size : Int) ≤ 9223372036854775807 := by omega
 obtain ⟨cap, hcap⟩ : ∃ cap, grownCap w s.size 0 5 = cap := ⟨_, rfl⟩
 have hst := BRow.new w s
 have hbl : Below w.heap.size w (Lib.bytesWorld w 5 s) := bytes_below (Below.refl _ _) (Nat.le_refl _) 5 s
 have kb0 := kb w
 rw [hcap] at kb0
 obtain ⟨W0, hW0⟩ : ∃ W0, Lib.bytesWorld w 5 s = W0 := ⟨_, rfl⟩
 rw [hW0] at kb0 hst hbl
 have HST := Aside0.mk hst
 have HBL := Aside0.mk hbl
 clear hst hbl kb hcap hW0
 generalize hls : bytesOf s = ls at HST HL ⊢
 have HR := Aside0.mk (fun k => (hls ▸ bytes_range s k : 0 ≤ ls.getD k 0 ∧ ls.getD k 0 ≤ 255))
 clear hls
 go_enter Try.func119, Try.ntmps119
 go_wp2
 go_loopg [6, 13] s.size (fun gg v6 v13 wr => ∃ k : Nat, k ≤ s.size ∧ s.size - k ≤ gg ∧ v13 = .int .i64 (k : Int) ∧ v6 = .int .i64 (lets (ls.take k) : Int) ∧ Aside0 (BRow wr w.heap.size s.size (chgTo b ls k)) ∧ Aside0 (Below w.heap.size w wr))
 case atStart => exact ⟨0, Nat.zero_le _, by omega, rfl, rfl, ⟨by rw [chgTo_zero]; exact HST.out⟩, HBL⟩
 case round =>
  obtain ⟨k, hk, hg, rfl, rfl, HRow, HBw⟩ := hrel
  have hlk : lets (ls.take k) ≤ k := Nat.le_trans (lets_le _) (List.length_take_le _ _)
  obtain ⟨j, hj⟩ : ∃ j, lets (ls.take k) = j := ⟨_, rfl⟩
  have HJ := Aside0.mk hj
  rw [hj] at hlk ⊢
  clear hj
  by_cases hlt : k < s.size
  ·have hltz : (k : Int) < (s.size : Int) := by omega
   have hcell := HRow.out.cell k hlt
   have hfr := HRow.out.frozen k hlt
   rw [chgTo_get b ls k (by rw [HL.out]; exact hlt)] at hcell
   obtain ⟨c1, c2⟩ := HR.out k
   obtain ⟨c, hc⟩ : ∃ c, ls.getD k 0 = c := ⟨_, rfl⟩
   rw [hc] at hcell c1 c2
   have HC := Aside0.mk hc
   clear hc
   have hlet := fun W => puzzles_letter.calls c (isL c) W (letter_val c)
   cases hq : isL c with
   | true =>
    rw [hq] at hlet
    have hc3 : 97 ≤ c ∧ c ≤ 122 := by simpa [isL] using hq
    obtain ⟨b1, b2⟩ := HB.out j
    have hmv := fun W => puzzles_move.calls c (b j) _ W (move_val c (b j) hc3.1 hc3.2 b1 b2)
    obtain ⟨bj, hbj⟩ : ∃ bj, b j = bj := ⟨_, rfl⟩
    have hcall := HBY.out j
    rw [hbj] at hmv hcall
    have hm1 : 97 ≤ mvI c bj ∧ mvI c bj ≤ 122 := by unfold mvI; omega
    obtain ⟨mv, hmve⟩ : ∃ mv, mvI c bj = mv := ⟨_, rfl⟩
    rw [hmve] at hmv hm1
    have HQ := Aside0.mk hq
    have HLET := Aside0.mk hlet
    have HMV := Aside0.mk hmv
    have HCALL := Aside0.mk hcall
    have HE1 := Aside0.mk hbj
    have HE2 := Aside0.mk hmve
    clear hq hlet hmv hcall hbj hmve b1 b2 hc3 hm1
    go_wp2_with (first | (go_at_call 156; refine (HLET.out _).mono ?_; rintro e w' ⟨rfl, ⟨q1, rfl⟩⟩) | (go_at_fn gq; refine (HCALL.out _ (by omega) (pw_below_drewN HBw.out _)).mono ?_; rintro e w' ⟨rfl, ⟨q2, rfl⟩⟩) | (go_at_call 157; refine (HMV.out _).mono ?_; rintro e w' ⟨rfl, ⟨q3, rfl⟩⟩))
    go_roundg (s.size - (k + 1))
    case measure => omega
    case rel =>
     refine ⟨k + 1, by omega, by omega, by go_num, ?_, ⟨?_⟩, ⟨?_⟩⟩
     ·rw [take_snocI ls k (by rw [HL.out]; exact hlt), lets_snoc, HC.out, HQ.out, HJ.out]; go_num
     ·have hset := (HRow.out.drewN (q1 + q2 + q3)).set_ k hlt mv
      rw [show mv = mvI (ls.getD k 0) (b (lets (ls.take k))) from by rw [HC.out, HJ.out, HE1.out, HE2.out], chgTo_yes b ls k (by rw [HL.out]; exact hlt) (by rw [HC.out]; exact HQ.out)] at hset
      rw [HC.out, HJ.out, HE1.out, HE2.out] at hset
      exact hset
     ·exact below_set (pw_below_drewN HBw.out _) (Nat.le_refl _)
   | false =>
    rw [hq] at hlet
    have HQ := Aside0.mk hq
    have HLET := Aside0.mk hlet
    clear hq hlet
    go_wp2_with (first | (go_at_call 156; refine (HLET.out _).mono ?_; rintro e w' ⟨rfl, ⟨q1, rfl⟩⟩))
    go_roundg (s.size - (k + 1))
    case measure => omega
    case rel =>
     refine ⟨k + 1, by omega, by omega, by go_num, ?_, ⟨?_⟩, ⟨pw_below_drewN HBw.out _⟩⟩
     ·rw [take_snocI ls k (by rw [HL.out]; exact hlt), lets_snoc, HC.out, HQ.out, HJ.out]; go_num
     ·rw [← chgTo_no b ls k (by rw [HL.out]; exact hlt) (by rw [HC.out]; exact HQ.out)]
      exact HRow.out.drewN q1
  ·have hltz : ¬ (k : Int) < (s.size : Int) := by omega
   have he : k = s.size := by omega
   have hstr := HRow.out.string (cap := cap)
   rw [he, ← HL.out, chgTo_all] at hstr
   generalize hres : chgI b 0 ls = res at hstr ⊢
   rw [HL.out] at hstr
   have HRES := Aside0.mk hres
   clear hres
   go_wp2
   go_ret
   exact ⟨by rw [HRES.out]; rfl, HBw.out⟩

/-! shift -/
set_option maxRecDepth 100000 in
theorem by155 (n : Int) (B : Nat) (w : World) (hB : B < w.heap.size) (hc : w.cell? ⟨B, 0, none⟩ = some (.int .i64 n)) : ByAt 155 #[.pointer (some ⟨B, 0, none⟩)] (fun _ => n) w := fun i W hi hb => by
 have hc' : W.cell? ⟨B, 0, none⟩ = some (.int .i64 n) := (hb.cell (p := ⟨B, 0, none⟩) hB).trans hc
 show Calls Try.prog 155 #[.int .i64 (i : Int), .pointer (some ⟨B, 0, none⟩)] W _
 go_enter Try.func155, Try.ntmps155
 go_wp2
 go_ret
 exact ⟨rfl, Drawn0.refl _⟩
def puzzles_shift.f (a0 : ByteArray) (a1 : Int) : Option ByteArray :=
 if a0.size ≤ 9223372036854775807 ∧ -100000 ≤ a1 ∧ a1 ≤ 100000 then some (strOfNums (chgI (fun _ => a1) 0 (bytesOf a0))) else none
set_option maxHeartbeats 1000000 in
set_option maxRecDepth 100000 in
theorem puzzles_shift.calls (a0 : ByteArray) (a1 : Int) (r : ByteArray) (w : World) (h : puzzles_shift.f a0 a1 = some r) :
  Calls Try.prog 116 #[.string a0, .int .i64 a1] w fun e w' => e = .returned (.string r) ∧ Below w.heap.size w w' := by
 unfold puzzles_shift.f at h
 split at h
 ·rename_i hc
  obtain ⟨h1, h2, h3⟩ := hc
  obtain rfl := Option.some.inj h
  have hch := change_calls 155 #[.pointer (some ⟨w.heap.size, 0, none⟩)] (enters_of Try.func155 (by kernel_rfl) rfl) (fun _ => a1) (fun _ => ⟨h2, h3⟩) a0 (w.alloc (.cells #[.int .i64 a1] 3)) h1
   (by155 a1 w.heap.size _ (by simp) (by simp))
  generalize strOfNums (chgI (fun _ => a1) 0 (bytesOf a0)) = res at hch ⊢
  have HCH := Aside0.mk hch
  clear hch h h1 h2 h3
  go_enter Try.func116, Try.ntmps116
  go_wp2_with (go_at_call 119; refine HCH.out.mono ?_; rintro e w' ⟨rfl, hb⟩)
  go_ret
  exact ⟨rfl, ((Below.refl _ w).alloc (Nat.le_refl _) _).trans (hb.mono (by simp))⟩
 ·cases h

end Go.Proofs.Ytdhiijleafcfcaa.T
