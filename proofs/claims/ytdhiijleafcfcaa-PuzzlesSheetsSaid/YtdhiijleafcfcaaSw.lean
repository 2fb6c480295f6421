/- see: what is seen through a sheet. -/
import Derived.Test.YtdhiijleafcfcaaT0
import Derived.Test.YtdhiijleafcfcaaBd
import Derived.Test.YtdhiijleafcfcaaSb
import Derived.Test.YtdhiijleafcfcaaCf
namespace Go.Proofs.Ytdhiijleafcfcaa.T
open Go.RowKit Go.Proofs.YtdhiijleafcfcaaW.PrintWords Go.Proofs.YtdhiijleafcfcaaW.PrintLast Go.Proofs.YtdhiijleafcfcaaW.PrintMore
attribute [local go_sem] max2_int min2_int max_two min_two max_three min_three max_four min_four
set_option linter.unusedVariables false
set_option linter.unusedSimpArgs false

/-- A valid sheet's shape. -/
def okSh (l : List ByteArray) : Bool := decide (1 ≤ l.length) && (decide (l.length ≤ 8) && (decide (1 ≤ (rdOf ByteArray.empty l 0).size) && (decide ((rdOf ByteArray.empty l 0).size ≤ 8) && l.all fun r => decide (r.size = (rdOf ByteArray.empty l 0).size))))
structure OkSh (l : List ByteArray) : Prop where
 n1 : 1 ≤ l.length
 n8 : l.length ≤ 8
 m1 : 1 ≤ (rdOf ByteArray.empty l 0).size
 m8 : (rdOf ByteArray.empty l 0).size ≤ 8
 all : ∀ i : Int, 0 ≤ i → i < l.length → (rdOf ByteArray.empty l i).size = (rdOf ByteArray.empty l 0).size
theorem okSh_iff {l : List ByteArray} (h : okSh l = true) : OkSh l := by
 unfold okSh at h
 simp only [Bool.and_eq_true, decide_eq_true_eq] at h
 obtain ⟨h1, h2, h3, h4, h5⟩ := h
 refine ⟨h1, h2, h3, h4, fun i h0 h1 => ?_⟩
 have := List.all_eq_true.1 h5 (rdOf ByteArray.empty l i) (by
  unfold rdOf
  rw [List.getD_eq_getElem?_getD, List.getElem?_eq_getElem (by omega : i.toNat < l.length)]
  exact List.getElem_mem _)
 simpa using this
/-- What is seen through one cell. -/
def cellS (u l : List ByteArray) (x y : Int) (r c : Nat) : List Int :=
 if bt (rdOf ByteArray.empty u (r : Int)) (c : Int) = 46 ∧ inR 0 ((l.length : Int) - 1) ((r : Int) + y) = true ∧ inR 0 (((rdOf ByteArray.empty l 0).size : Int) - 1) ((c : Int) + x) = true then
  (if bt (rdOf ByteArray.empty l ((r : Int) + y)) ((c : Int) + x) = 46 then [] else [bt (rdOf ByteArray.empty l ((r : Int) + y)) ((c : Int) + x)]) else []
def rowS (u l : List ByteArray) (x y : Int) (r : Nat) : Nat → List Int
 | 0 => []
 | k + 1 => rowS u l x y r k ++ cellS u l x y r k
def rowsS (u l : List ByteArray) (x y : Int) : Nat → List Int
 | 0 => []
 | k + 1 => rowsS u l x y k ++ rowS u l x y k (rdOf ByteArray.empty u (k : Int)).size
def puzzles_see.f (u l : List ByteArray) (x y : Int) : Option ByteArray :=
 if okSh u = true ∧ okSh l = true ∧ inR (-8) 8 x = true ∧ inR (-8) 8 y = true then some (strOfNums (rowsS u l x y u.length)) else none
theorem cellS_len (u l : List ByteArray) (x y : Int) (r c : Nat) : (cellS u l x y r c).length ≤ 1 := by
 unfold cellS
 split
 ·split <;> simp
 ·simp
theorem rowS_len (u l : List ByteArray) (x y : Int) (r : Nat) : ∀ k, (rowS u l x y r k).length ≤ k
 | 0 => Nat.le_refl _
 | k + 1 => by
  have := rowS_len u l x y r k
  have := cellS_len u l x y r k
  simp only [rowS, List.length_append]
  omega
theorem rowsS_len {u : List ByteArray} (hu : OkSh u) (l : List ByteArray) (x y : Int) : ∀ k, k ≤ u.length → (rowsS u l x y k).length ≤ 8 * k
 | 0, _ => Nat.le_refl _
 | k + 1, hk => by
  have h1 := rowsS_len hu l x y k (by omega)
  have h2 := rowS_len u l x y k (rdOf ByteArray.empty u (k : Int)).size
  have h3 := hu.all k (by omega) (by omega)
  have h4 := hu.m8
  simp only [rowsS, List.length_append]
  omega
theorem bt_rg (s : ByteArray) (i : Int) : 0 ≤ bt s i ∧ bt s i ≤ 255 := by
 unfold bt
 split
 ·rename_i h
  have := (s[i.toNat]'h).toNat_lt
  omega
 ·omega
theorem cellS_bytes (u l : List ByteArray) (x y : Int) (r c : Nat) : ∀ n ∈ cellS u l x y r c, 0 ≤ n ∧ n ≤ 255 := by
 intro n hn
 unfold cellS at hn
 split at hn
 ·split at hn
  ·cases hn
  ·rw [List.mem_singleton] at hn
   subst hn
   exact bt_rg _ _
 ·cases hn
theorem rowS_bytes (u l : List ByteArray) (x y : Int) (r : Nat) : ∀ k, ∀ n ∈ rowS u l x y r k, 0 ≤ n ∧ n ≤ 255
 | 0 => fun n hn => by cases hn
 | k + 1 => fun n hn => by
  rcases List.mem_append.1 hn with h | h
  ·exact rowS_bytes u l x y r k n h
  ·exact cellS_bytes u l x y r k n h
theorem rowsS_bytes (u l : List ByteArray) (x y : Int) : ∀ k, ∀ n ∈ rowsS u l x y k, 0 ≤ n ∧ n ≤ 255
 | 0 => fun n hn => by cases hn
 | k + 1 => fun n hn => by
  rcases List.mem_append.1 hn with h | h
  ·exact rowsS_bytes u l x y k n h
  ·exact rowS_bytes u l x y k _ n h
/-- Bytes as a builder's cells. -/
def bcs (xs : List Int) : List Value := xs.map (Value.int .u8 ·)
theorem bcs_snoc (xs : List Int) (c : Int) : bcs (xs ++ [c]) = bcs xs ++ [.int .u8 c] := by simp [bcs]
theorem bcs_bytes (xs : List Int) (h : ∀ n ∈ xs, 0 ≤ n ∧ n ≤ 255) : bcs xs = Lib.byteCells (xs.map fun n => UInt8.ofNat n.toNat) := by
 unfold bcs Lib.byteCells
 rw [List.map_map]
 refine List.map_congr_left fun n hn => ?_
 have := h n hn
 simp
 omega
/-- What the loops keep. -/
structure SeS (w : World) (xs : List Int) (V : World) : Prop where
 hb : Lib.IsBuilder 151 5 w.heap.size w.heap.size (bcs xs) V
 hB : Below w.heap.size w V
theorem SeS.lt {w V : World} {xs : List Int} (h : SeS w xs V) : w.heap.size < V.heap.size := by
 rcases h.hb with h | h
 ·exact h.lt
 ·exact h.lt
theorem cellS_no {u l : List ByteArray} {x y : Int} {r c : Nat} (h : ¬ (bt (rdOf ByteArray.empty u (r : Int)) (c : Int) = 46 ∧ inR 0 ((l.length : Int) - 1) ((r : Int) + y) = true ∧ inR 0 (((rdOf ByteArray.empty l 0).size : Int) - 1) ((c : Int) + x) = true)) : cellS u l x y r c = [] := if_neg h
theorem SeS.none_ {w V : World} {u l : List ByteArray} {x y : Int} {i j : Nat} (h : SeS w (rowsS u l x y i ++ rowS u l x y i j) V) (hc : cellS u l x y i j = []) : SeS w (rowsS u l x y i ++ rowS u l x y i (j + 1)) V := by
 rw [rowS, hc, List.append_nil]
 exact h
theorem SeS.one {w V : World} {u l : List ByteArray} {x y : Int} {i j : Nat} {s : Int} (h : SeS w ((rowsS u l x y i ++ rowS u l x y i j) ++ [s]) V) (hc : cellS u l x y i j = [s]) : SeS w (rowsS u l x y i ++ rowS u l x y i (j + 1)) V := by
 rw [rowS, hc, ← List.append_assoc]
 exact h
set_option maxHeartbeats 8000000 in
set_option maxRecDepth 100000 in
theorem puzzles_see.calls (A0 : Option Addr) (c0 : Nat) (l0 : List ByteArray) (A1 : Option Addr) (c1 : Nat) (l1 : List ByteArray) (a2 a3 : Int) (r : ByteArray) (w : World) (hr0 : Kd.C Kd.string w A0 l0.length l0) (hc0 : l0.length ≤ c0) (hr1 : Kd.C Kd.string w A1 l1.length l1) (hc1 : l1.length ≤ c1) (h : puzzles_see.f l0 l1 a2 a3 = some r) :
  Calls Try.prog 106 #[.slice A0 l0.length c0, .slice A1 l1.length c1, .int .i64 a2, .int .i64 a3] w fun e w' => e = .returned (.string r) ∧ Below w.heap.size w w' := by
 unfold puzzles_see.f at h
 by_cases hok : okSh l0 = true ∧ okSh l1 = true ∧ inR (-8) 8 a2 = true ∧ inR (-8) 8 a3 = true
 ·rw [if_pos hok] at h
  cases h
  have K0 := okSh_iff hok.1
  have K1 := okSh_iff hok.2.1
  have hx := hok.2.2.1
  have hy := hok.2.2.2
  unfold inR at hx hy
  simp only [Bool.and_eq_true, decide_eq_true_eq] at hx hy
  obtain ⟨ad0, rfl, _⟩ := Kd.at_string hr0 0 (by omega) (by have := K0.n1; omega)
  obtain ⟨ad1, rfl, _⟩ := Kd.at_string hr1 0 (by omega) (by have := K1.n1; omega)
  have RU := Aside0.mk (show ∀ V, Below w.heap.size w V → ∀ i : Int, 0 ≤ i → i < l0.length → V.cell? (ad0.add i.toNat) = some (.string (rdOf ByteArray.empty l0 i)) from fun V hV i h0 h1 => by
   obtain ⟨ad, e, hc⟩ := Kd.at_string hr0 i h0 h1
   cases e
   exact (hV.cell (World.block_lt_of_cell? w _ hc)).trans hc)
  have RL := Aside0.mk (show ∀ V, Below w.heap.size w V → ∀ i : Int, 0 ≤ i → i < l1.length → V.cell? (ad1.add i.toNat) = some (.string (rdOf ByteArray.empty l1 i)) from fun V hV i h0 h1 => by
   obtain ⟨ad, e, hc⟩ := Kd.at_string hr1 i h0 h1
   cases e
   exact (hV.cell (World.block_lt_of_cell? w _ hc)).trans hc)
  have HK0 := Aside0.mk K0
  have HK1 := Aside0.mk K1
  have HX := Aside0.mk hx
  have HY := Aside0.mk hy
  have hu151 := Try.underlying151
  have hu58 := Try.underlying58
  clear hr0 hr1 hok K0 K1 hx hy hc0 hc1
  go_enter Try.func106, Try.ntmps106
  go_wp2
  have hS0 := Aside0.mk (show SeS w [] (w.alloc (.cells #[.pointer none, .slice none 0 0] 151)) from ⟨Lib.fresh_isBuilder 151 5 w, below_alloc (Below.refl _ _) _⟩)
  go_loopg [16] (l0.length + 1) (fun gg v16 wr => ∃ (i : Nat), i ≤ l0.length ∧ l0.length - i < gg ∧ v16 = .int .i64 (i : Int) ∧ Aside0 (SeS w (rowsS l0 l1 a2 a3 i) wr))
  case atStart => exact ⟨0, by omega, by omega, rfl, hS0⟩
  case round =>
   clear hS0
   obtain ⟨i, hi, hg, rfl, HS⟩ := hrel
   by_cases hlt : i < l0.length
   ·have hilt : (i : Int) < (l0.length : Int) := by omega
    have hi0 : (0 : Int) ≤ (i : Int) := by omega
    have hcu := RU.out wr HS.out.hB (i : Int) hi0 hilt
    obtain ⟨row, hrow⟩ : ∃ row, rdOf ByteArray.empty l0 (i : Int) = row := ⟨_, rfl⟩
    have HRS := Aside0.mk (show row.size ≤ 8 by rw [← hrow, HK0.out.all _ hi0 hilt]; exact HK0.out.m8)
    have HROW := Aside0.mk hrow
    rw [hrow, Int.toNat_natCast] at hcu
    have HI1 := Aside0.mk (show i + 1 ≤ l0.length by omega)
    obtain ⟨gn, hg1, hg2⟩ : ∃ gn, l0.length - (i + 1) < gn ∧ gn < gk := ⟨gk - 1, by omega, by omega⟩
    have HCA := Aside0.mk (show ((i + 1 : Nat) : Int) = (i : Int) + 1 by omega)
    have HI8 := Aside0.mk (show i < 8 by have := HK0.out.n8; omega)
    have w1' : IntKind.i64.wrap ((i : Int) + 1) = (i : Int) + 1 := IntWalk.i64_in _ (by have := HK0.out.n8; omega)
    clear hrow hg hi hlt
    go_wp2
    go_loopg [23] (row.size + 1) (fun gg v23 wq => ∃ (j : Nat), j ≤ row.size ∧ row.size - j < gg ∧ v23 = .int .i64 (j : Int) ∧ Aside0 (SeS w (rowsS l0 l1 a2 a3 i ++ rowS l0 l1 a2 a3 i j) wq))
    case atStart => exact ⟨0, by omega, by omega, rfl, ⟨by rw [rowS, List.append_nil]; exact HS.out⟩⟩
    case round =>
     clear HS
     obtain ⟨j, hj, hjg, rfl, HS⟩ := hrel
     by_cases hjlt : j < row.size
     ·have hj1 : (j : Int) < (row.size : Int) := by omega
      have hj0 : (0 : Int) ≤ (j : Int) := by omega
      have wj : IntKind.i64.wrap ((j : Int) + 1) = (j : Int) + 1 := IntWalk.i64_in _ (by have := HRS.out; omega)
      obtain ⟨gj, hgj1, hgj2⟩ : ∃ gj, row.size - (j + 1) < gj ∧ gj < gk := ⟨gk - 1, by omega, by omega⟩
      have HJ1 := Aside0.mk (show j + 1 ≤ row.size by omega)
      have HCJ := Aside0.mk (show ((j + 1 : Nat) : Int) = (j : Int) + 1 by omega)
      have wA : IntKind.i64.wrap ((i : Int) + a3) = (i : Int) + a3 := IntWalk.i64_in _ (by have := HI8.out; have := HY.out; omega)
      have wB : IntKind.i64.wrap ((l1.length : Int) - 1) = (l1.length : Int) - 1 := IntWalk.i64_in _ (by have := HK1.out.n8; omega)
      have wC : IntKind.i64.wrap ((j : Int) + a2) = (j : Int) + a2 := IntWalk.i64_in _ (by have := HRS.out; have := HX.out; omega)
      obtain ⟨row0, hrow0⟩ : ∃ row0, rdOf ByteArray.empty l1 0 = row0 := ⟨_, rfl⟩
      have hrs0 : 1 ≤ row0.size ∧ row0.size ≤ 8 := by rw [← hrow0]; exact ⟨HK1.out.m1, HK1.out.m8⟩
      have wD : IntKind.i64.wrap ((row0.size : Int) - 1) = (row0.size : Int) - 1 := IntWalk.i64_in _ (by omega)
      have hl1 : (0 : Int) < (l1.length : Int) := by have := HK1.out.n1; omega
      have hcl0 := RL.out _ HS.out.hB 0 (by omega) hl1
      rw [hrow0, Int.toNat_zero, show ad1.add 0 = ad1 by cases ad1; simp [Addr.add]] at hcl0
      have HR0 := Aside0.mk hrow0
      obtain ⟨v, hv⟩ : ∃ v, bt row (j : Int) = v := ⟨_, rfl⟩
      have hbt : ∀ h : j < row.size, ((row[j]'h).toNat : Int) = v := fun h => by
       have := bt_at row (j : Int) (by rw [Int.toNat_natCast]; exact h)
       rw [hv] at this
       exact this
      have HV := Aside0.mk (show bt (rdOf ByteArray.empty l0 (i : Int)) (j : Int) = v by rw [HROW.out]; exact hv)
      clear hrow0 hv hj hjg
      by_cases q1 : v = 46
      ·subst q1
       have W2 := Aside0.mk (fun V => within_calls ((i : Int) + a3) 0 ((l1.length : Int) - 1) V)
       have W3 := Aside0.mk (fun V => within_calls ((j : Int) + a2) 0 ((row0.size : Int) - 1) V)
       obtain ⟨b2, hb2⟩ : ∃ b2, inR 0 ((l1.length : Int) - 1) ((i : Int) + a3) = b2 := ⟨_, rfl⟩
       obtain ⟨b3, hb3⟩ : ∃ b3, inR 0 ((row0.size : Int) - 1) ((j : Int) + a2) = b3 := ⟨_, rfl⟩
       rw [hb2] at W2
       rw [hb3] at W3
       have HB2 := Aside0.mk hb2
       have HB3 := Aside0.mk hb3
       clear hb2 hb3
       cases b2 with
       | false =>
        have HN := Aside0.mk (HS.out.none_ (cellS_no (fun h => by have := HB2.out.symm.trans h.2.1; cases this)))
        go_wp2_with (first | (go_at_call 67; with_reducible refine Calls.mono (W2.out _) ?_; rintro e3 w3 ⟨rfl, rfl⟩))
        go_roundg gj
        case measure => exact hgj2
        case rel => exact ⟨j + 1, HJ1.out, hgj1, by rw [HCJ.out], HN⟩
       | true =>
        cases b3 with
        | false =>
         have HN := Aside0.mk (HS.out.none_ (cellS_no (fun h => by have h2 := h.2.2; rw [HR0.out] at h2; have := HB3.out.symm.trans h2; cases this)))
         go_wp2_with (first | (go_at_call 67; with_reducible refine Calls.mono (W2.out _) ?_; rintro e3 w3 ⟨rfl, rfl⟩) | (go_at_call 67; with_reducible refine Calls.mono (W3.out _) ?_; rintro e3 w3 ⟨rfl, rfl⟩))
         go_roundg gj
         case measure => exact hgj2
         case rel => exact ⟨j + 1, HJ1.out, hgj1, by rw [HCJ.out], HN⟩
        | true =>
         have q2 := HB2.out
         have q3 := HB3.out
         unfold inR at q2 q3
         simp only [Bool.and_eq_true, decide_eq_true_eq] at q2 q3
         have p5 : 0 ≤ (i : Int) + a3 := q2.1
         have p6 : (i : Int) + a3 < (l1.length : Int) := by omega
         obtain ⟨srow, hsrow⟩ : ∃ srow, rdOf ByteArray.empty l1 ((i : Int) + a3) = srow := ⟨_, rfl⟩
         have hss : srow.size = row0.size := by rw [← hsrow, HK1.out.all _ p5 p6, HR0.out]
         have hcs := RL.out _ HS.out.hB ((i : Int) + a3) p5 p6
         rw [hsrow] at hcs
         have p7 : 0 ≤ (j : Int) + a2 := q3.1
         have p8 : (j : Int) + a2 < (srow.size : Int) := by omega
         obtain ⟨sv, hsv⟩ : ∃ sv, bt srow ((j : Int) + a2) = sv := ⟨_, rfl⟩
         have hbs := bt_at srow ((j : Int) + a2)
         rw [hsv] at hbs
         have HC := Aside0.mk (show bt (rdOf ByteArray.empty l0 (i : Int)) (j : Int) = 46 ∧ inR 0 ((l1.length : Int) - 1) ((i : Int) + a3) = true ∧ inR 0 (((rdOf ByteArray.empty l1 0).size : Int) - 1) ((j : Int) + a2) = true from ⟨HV.out, HB2.out, by rw [HR0.out]; exact HB3.out⟩)
         have HSV := Aside0.mk (show bt (rdOf ByteArray.empty l1 ((i : Int) + a3)) ((j : Int) + a2) = sv by rw [hsrow]; exact hsv)
         clear hsv hsrow hss q2 q3
         by_cases q4 : sv = 46
         ·subst q4
          have HN := Aside0.mk (HS.out.none_ (show cellS l0 l1 a2 a3 i j = [] by unfold cellS; rw [if_pos HC.out, if_pos HSV.out]))
          go_wp2_with (first | (go_at_call 67; with_reducible refine Calls.mono (W2.out _) ?_; rintro e3 w3 ⟨rfl, rfl⟩) | (go_at_call 67; with_reducible refine Calls.mono (W3.out _) ?_; rintro e3 w3 ⟨rfl, rfl⟩))
          go_roundg gj
          case measure => exact hgj2
          case rel => exact ⟨j + 1, HJ1.out, hgj1, by rw [HCJ.out], HN⟩
         ·have q4b : (sv == 46) = false := beq_eq_false_iff_ne.2 q4
          have q4c : decide (sv = 46) = false := decide_eq_false q4
          have HCL := Aside0.mk (show cellS l0 l1 a2 a3 i j = [sv] by unfold cellS; rw [if_pos HC.out, HSV.out, if_neg q4])
          have HLEN := Aside0.mk (show (bcs (rowsS l0 l1 a2 a3 i ++ rowS l0 l1 a2 a3 i j)).length + 1 ≤ 140737488355328 by
           have h1 := rowsS_len HK0.out l1 a2 a3 i (by have := HI1.out; omega)
           have h2 := rowS_len l0 l1 a2 a3 i j
           have h3 := HI8.out
           have h4 := HRS.out
           unfold bcs
           rw [List.length_map, List.length_append]
           omega)
          have HLT := Aside0.mk (Nat.le_of_lt HS.out.lt)
          go_wp2_with (first
           | (go_at_call 67; with_reducible refine Calls.mono (W2.out _) ?_; rintro e3 w3 ⟨rfl, rfl⟩)
           | (go_at_call 67; with_reducible refine Calls.mono (W3.out _) ?_; rintro e3 w3 ⟨rfl, rfl⟩)
           | (go_at_call 142; refine Calls.mono (bd_write w.heap.size w.heap.size _ sv _ HS.out.hb HLEN.out HLT.out) ?_; rintro e5 w5 ⟨rfl, hb5, hB5⟩; have HN := Aside0.mk (SeS.one ⟨by rw [bcs_snoc]; exact hb5, HS.out.hB.trans hB5⟩ HCL.out); clear hb5 hB5))
          go_roundg gj
          case measure => exact hgj2
          case rel => exact ⟨j + 1, HJ1.out, hgj1, by rw [HCJ.out], HN⟩
      ·have q1b : (v == 46) = false := beq_eq_false_iff_ne.2 q1
       have q1c : decide (v = 46) = false := decide_eq_false q1
       have HN := Aside0.mk (HS.out.none_ (cellS_no (fun h => q1 (HV.out.symm.trans h.1))))
       go_wp2
       go_roundg gj
       case measure => exact hgj2
       case rel => exact ⟨j + 1, HJ1.out, hgj1, by rw [HCJ.out], HN⟩
     ·have hnj : ¬ (j : Int) < (row.size : Int) := by omega
      obtain rfl : j = row.size := by omega
      have HN := Aside0.mk (show SeS w (rowsS l0 l1 a2 a3 (i + 1)) _ by rw [rowsS, HROW.out]; exact HS.out)
      go_wp2
      go_roundg gn
      case measure => exact hg2
      case rel => exact ⟨i + 1, HI1.out, hg1, by rw [HCA.out], HN⟩
   ·have hnlt : ¬ (i : Int) < (l0.length : Int) := by omega
    obtain rfl : i = l0.length := by omega
    have hbs := bcs_bytes _ (rowsS_bytes l0 l1 a2 a3 l0.length)
    have hbb := HS.out.hb
    rw [hbs] at hbb
    have HBB := Aside0.mk hbb
    have HLT := Aside0.mk (show w.heap.size ≤ wr.heap.size from Nat.le_of_lt HS.out.lt)
    clear hbb hbs
    go_wp2_with (go_at_call 143; refine Calls.mono (Go.Proofs.Try.Builder_String_any w.heap.size w.heap.size _ _ HBB.out HLT.out) ?_; rintro e w2 ⟨rfl, hb2⟩; have HB2 := Aside0.mk hb2; clear hb2)
    go_ret
    exact ⟨rfl, HS.out.hB.trans HB2.out⟩
 ·rw [if_neg hok] at h
  cases h

end Go.Proofs.Ytdhiijleafcfcaa.T
