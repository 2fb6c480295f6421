/- The law Lightest, in plain lists. -/
import Derived.Test.YtdhiijleafcfcaaProg
import Derived.Below
import Derived.Deep.Draws
import Derived.Deep.AppendLies
import Derived.Maps.AppendAt
import Derived.OwnWalk
import Derived.Laws.BytesArg
import Derived.Laws.MakeOwn
import Derived.Laws.OwnMore
import Derived.Deep.OwnRows
import Derived.Tactics
import Derived.Lib.ConvBytes
import Derived.Laws.Slices
import Derived.WalkKit
import Derived.KernelRfl
import Derived.RowKit3
import Derived.Deep.LoopGhost
import Derived.Deep.QuietTactic
import Derived.BigQuiet
import Derived.WideLaws
import Derived.Deep.DeepCutAuto
import Derived.Deep.CutBlock
import Derived.Deep.RegionHeld3
import Derived.Laws.Rows
import Derived.Lib.AppendStr
import Derived.ArgAppend
import Derived.Laws.IdiomCopy
import Derived.OrdersHeld
import Derived.Laws.BitsLemmas
import Derived.RowKit
import Derived.Test.YtdhiijleafcfcaaWWords
import Derived.Test.YtdhiijleafcfcaaWLast
import Derived.Test.YtdhiijleafcfcaaWTab
import Derived.Test.YtdhiijleafcfcaaWFour
import Derived.Test.YtdhiijleafcfcaaWQPut
import Derived.Test.YtdhiijleafcfcaaWApart
import Derived.Test.YtdhiijleafcfcaaWArr
import Derived.Test.YtdhiijleafcfcaaWZeros
import Derived.Test.YtdhiijleafcfcaaWFoot
import Derived.Test.YtdhiijleafcfcaaWKept
import Derived.Test.YtdhiijleafcfcaaWShare
import Derived.Test.YtdhiijleafcfcaaWN
import Derived.Test.YtdhiijleafcfcaaWFootNe
import Derived.Test.YtdhiijleafcfcaaWAt
import Derived.Test.YtdhiijleafcfcaaWEqStruct
import Derived.Test.YtdhiijleafcfcaaWRepsOne
import Derived.Test.YtdhiijleafcfcaaWInv
import Derived.Test.YtdhiijleafcfcaaWInvWords
import Derived.Test.YtdhiijleafcfcaaWGuard
import Derived.Test.YtdhiijleafcfcaaWNEv
import Derived.Test.YtdhiijleafcfcaaWMore
import Derived.Test.YtdhiijleafcfcaaPV
import Derived.Test.YtdhiijleafcfcaaTf6
namespace Go.Proofs.Ytdhiijleafcfcaa.T
open Go.RowKit Go.Proofs.YtdhiijleafcfcaaW.PrintWords Go.Proofs.YtdhiijleafcfcaaW.PrintLast Go.Proofs.YtdhiijleafcfcaaW.PrintMore
attribute [local go_sem] max2_int min2_int max_two min_two max_three min_three max_four min_four
set_option linter.unusedVariables false
set_option linter.unusedSimpArgs false

theorem wOuts_sound : ∀ (l p : List Int) (s u : Int), ∀ x ∈ wOuts l p s u, ∃ d, x.1 = p ++ d ∧ d.length = l.length ∧ (∀ y ∈ d, -1 ≤ y ∧ y ≤ 1) ∧ s + dotN l d = 0
  | [], p, s, u, x, hx => by
    unfold wOuts at hx
    split at hx
    · rename_i h
      rw [List.mem_singleton.1 hx]
      exact ⟨[], by simp, rfl, by simp, by simp [dotN, h]⟩
    · simp at hx
  | v :: l, p, s, u, x, hx => by
    have part : ∀ c : Int, -1 ≤ c → c ≤ 1 → x ∈ wOuts l (p ++ [c]) (s + c * v) (u + c * c) → ∃ d, x.1 = p ++ d ∧ d.length = (v :: l).length ∧ (∀ y ∈ d, -1 ≤ y ∧ y ≤ 1) ∧ s + dotN (v :: l) d = 0 := by
      intro c h1 h2 hc
      obtain ⟨d, e1, e2, e3, e4⟩ := wOuts_sound l _ _ _ x hc
      refine ⟨c :: d, by rw [e1]; simp, by simp [e2], fun y hy => ?_, by simp only [dotN]; omega⟩
      rcases List.mem_cons.1 hy with rfl | hy
      · exact ⟨h1, h2⟩
      · exact e3 y hy
    unfold wOuts at hx
    rcases List.mem_append.1 hx with hx | hx
    · rcases List.mem_append.1 hx with hx | hx
      · exact part (-1) (by omega) (by omega) hx
      · exact part 0 (by omega) (by omega) hx
    · exact part 1 (by omega) (by omega) hx
theorem wOuts_mem : ∀ (l p : List Int) (s u : Int) (d : List Int), d.length = l.length → (∀ y ∈ d, -1 ≤ y ∧ y ≤ 1) → s + dotN l d = 0 → (p ++ d, u + usedN d) ∈ wOuts l p s u
  | [], p, s, u, d, hl, _, hs => by
    obtain rfl : d = [] := List.length_eq_zero_iff.1 hl
    unfold wOuts
    rw [if_pos (by simpa [dotN] using hs)]
    simp [usedN]
  | v :: l, p, s, u, [], hl, _, _ => by simp at hl
  | v :: l, p, s, u, c :: d, hl, hd, hs => by
    have hc := hd c List.mem_cons_self
    have ih := wOuts_mem l (p ++ [c]) (s + c * v) (u + c * c) d (by simpa using hl) (fun y hy => hd y (List.mem_cons_of_mem _ hy)) (by simp only [dotN] at hs; omega)
    have e1 : p ++ [c] ++ d = p ++ c :: d := by simp
    have e2 : u + c * c + usedN d = u + usedN (c :: d) := by
      have : c = -1 ∨ c = 0 ∨ c = 1 := by omega
      rcases this with rfl | rfl | rfl <;> simp [usedN] <;> omega
    rw [e1, e2] at ih
    unfold wOuts
    have : c = -1 ∨ c = 0 ∨ c = 1 := by omega
    rcases this with rfl | rfl | rfl
    · exact List.mem_append_left _ (List.mem_append_left _ ih)
    · exact List.mem_append_left _ (List.mem_append_right _ ih)
    · exact List.mem_append_right _ ih
/-- a comes before b. -/
def LexLt (a b : List Int) : Prop := ∃ p x y s t, a = p ++ x :: s ∧ b = p ++ y :: t ∧ x < y
theorem wOuts_sorted : ∀ (l p : List Int) (s u : Int), (wOuts l p s u).Pairwise fun x y => LexLt x.1 y.1
  | [], p, s, u => by
    unfold wOuts
    split <;> simp
  | v :: l, p, s, u => by
    have pre : ∀ (c : Int) (x : List Int × Int), x ∈ wOuts l (p ++ [c]) (s + c * v) (u + c * c) → ∃ t, x.1 = p ++ c :: t := by
      intro c x hx
      obtain ⟨d, e1, _⟩ := wOuts_sound l _ _ _ x hx
      exact ⟨d, by rw [e1]; simp⟩
    have cross : ∀ (c c' : Int), c < c' → ∀ x ∈ wOuts l (p ++ [c]) (s + c * v) (u + c * c), ∀ y ∈ wOuts l (p ++ [c']) (s + c' * v) (u + c' * c'), LexLt x.1 y.1 := by
      intro c c' h x hx y hy
      obtain ⟨t, ht⟩ := pre c x hx
      obtain ⟨t', ht'⟩ := pre c' y hy
      exact ⟨p, c, c', t, t', ht, ht', h⟩
    unfold wOuts
    rw [List.pairwise_append, List.pairwise_append]
    refine ⟨⟨wOuts_sorted l _ _ _, wOuts_sorted l _ _ _, cross (-1) 0 (by omega)⟩, wOuts_sorted l _ _ _, fun x hx y hy => ?_⟩
    rcases List.mem_append.1 hx with hx | hx
    · exact cross (-1) 1 (by omega) x hx y hy
    · exact cross 0 1 (by omega) x hx y hy
theorem bestO_first : ∀ (n : Nat) (o : List (List Int × Int)), o.length = n → (∀ x ∈ o, 0 ≤ x.2) → o ≠ [] → ∃ pre post, o = pre ++ bestO o :: post ∧ (∀ x ∈ pre, (bestO o).2 < x.2) ∧ ∀ x ∈ post, (bestO o).2 ≤ x.2 := by
  intro n
  induction n with
  | zero => intro o hl _ h; exact absurd (List.length_eq_zero_iff.1 hl) h
  | succ n ih =>
    intro o' hl h _
    obtain ⟨o, x, rfl⟩ : ∃ o x, o' = o ++ [x] := ⟨o'.dropLast, o'.getLast (fun e => by rw [e] at hl; simp at hl), (List.dropLast_concat_getLast _).symm⟩
    rw [bestO_snoc]
    by_cases e : o = []
    · subst e
      rw [if_pos (.inl (by decide))]
      exact ⟨[], [], rfl, by simp, by simp⟩
    · obtain ⟨pre, post, h1, h2, h3⟩ := ih o (by simpa using hl) (fun y hy => h y (by simp [hy])) e
      have hb := (bestO_used _ o rfl (fun y hy => h y (by simp [hy])) e).1
      by_cases c : (bestO o).2 < 0 ∨ x.2 < (bestO o).2
      · rw [if_pos c]
        refine ⟨o, [], rfl, fun y hy => ?_, by simp⟩
        rw [h1] at hy
        rcases List.mem_append.1 hy with hy | hy
        · have := h2 y hy; omega
        · rcases List.mem_cons.1 hy with rfl | hy
          · omega
          · have := h3 y hy; omega
      · rw [if_neg c]
        refine ⟨pre, post ++ [x], ?_, h2, fun y hy => ?_⟩
        · conv => lhs; rw [h1]
          simp
        · rcases List.mem_append.1 hy with hy | hy
          · exact h3 y hy
          · rw [List.mem_singleton.1 hy]; omega
/-- What Weigh returns is the best of all that hold. -/
theorem best_all (l : List Int) (a : Int) (d : List Int) (hl : d.length = l.length) (hd : ∀ y ∈ d, -1 ≤ y ∧ y ≤ 1) (hs : -a + dotN l d = 0) :
    wOuts l [] (-a) 0 ≠ [] ∧ ((bestO (wOuts l [] (-a) 0)).2 < usedN d ∨ (bestO (wOuts l [] (-a) 0)).1 = d ∨ ((bestO (wOuts l [] (-a) 0)).2 ≤ usedN d ∧ LexLt (bestO (wOuts l [] (-a) 0)).1 d)) := by
  have hm := wOuts_mem l [] (-a) 0 d hl hd hs
  rw [List.nil_append, Int.zero_add] at hm
  have hne : wOuts l [] (-a) 0 ≠ [] := fun e => by rw [e] at hm; simp at hm
  have hpos : ∀ x ∈ wOuts l [] (-a) 0, 0 ≤ x.2 := fun x hx => by rw [wOuts_used l [] (-a) 0 rfl x hx]; exact (usedN_bound _).1
  have hso := wOuts_sorted l [] (-a) 0
  refine ⟨hne, ?_⟩
  obtain ⟨pre, post, h1, h2, h3⟩ := bestO_first _ _ rfl hpos hne
  generalize bestO (wOuts l [] (-a) 0) = b at *
  rw [h1] at hm hso
  rcases List.mem_append.1 hm with hm | hm
  · exact .inl (h2 _ hm)
  · rcases List.mem_cons.1 hm with hm | hm
    · exact .inr (.inl (by rw [← hm]))
    · have h4 := (List.pairwise_append.1 hso).2.1
      exact .inr (.inr ⟨h3 _ hm, (List.pairwise_cons.1 h4).1 _ hm⟩)
theorem lex_first (b d : List Int) (h : LexLt b d) (hl : b.length = d.length) (i : Nat) (hi : i < b.length) (hi2 : i < d.length) (ht : d.take i = b.take i) (hne : d[i] ≠ b[i]) : b[i] < d[i] := by
  obtain ⟨p, x, y, s, t, rfl, rfl, hxy⟩ := h
  by_cases h1 : i < p.length
  · exfalso
    apply hne
    rw [List.getElem_append_left h1, List.getElem_append_left h1]
  · by_cases h2 : i = p.length
    · subst h2
      simpa using hxy
    · exfalso
      have e := congrArg (fun l : List Int => l[p.length]?) ht
      simp only [List.getElem?_take_of_lt (show p.length < i by omega)] at e
      simp at e
      omega
theorem lightest_l0 (ss best : List Int) (hl : best.length = ss.length) (hm : ss.length ≤ 10) (h : usedN best < usedN ss ∨ best = ss ∨ (usedN best ≤ usedN ss ∧ LexLt best ss)) : ∀ (n i : Nat), n = ss.length - i → i ≤ ss.length → ss.take i = best.take i →
    Ev (fun k => padlocklaw03_PuzzlesLightest.l0 k ss best (i : Int)) true := by
  have hw : Ev (fun k => (padlocklaw03_works.f k).bind fun t => some t) true := Ev.bind works_ev (Ev.now _)
  intro n
  induction n with
  | zero =>
    intro i hn hi _
    refine Ev.step (fun k => ?_) hw
    rw [padlocklaw03_PuzzlesLightest.l0, if_neg (by omega)]
  | succ n ih =>
    intro i hn hi ht
    have hia : i < ss.length := by omega
    have hib : i < best.length := by omega
    have hwi : wrap64 ((i : Int) + 1) = ((i + 1 : Nat) : Int) := by rw [w64 _ (by omega) (by omega)]; omega
    by_cases e : ss[i] = best[i]
    · refine Ev.step (fun k => ?_) (ih (i + 1) (by omega) (by omega) (by rw [List.take_succ_eq_append_getElem hia, List.take_succ_eq_append_getElem hib, ht, e]))
      rw [padlocklaw03_PuzzlesLightest.l0, if_pos (by omega), if_pos (by omega), if_pos (by omega), rd_lt ss i hia, rd_lt best i hib, if_pos e, hwi]
    · refine Ev.step (f := fun k => (padlockref03_Used.f k ss).bind fun t259 => ((padlockref03_Used.f k best).bind fun t260 => (if t259 > t260 then ((padlocklaw03_works.f k).bind fun t261 => (some t261)) else (if ss[i] > best[i] then ((padlocklaw03_works.f k).bind fun t264 => (some t264)) else (some false))))) (fun k => ?_) (Ev.bind (used_ev ss (by omega)) (Ev.bind (used_ev best (by omega)) ?_))
      · rw [padlocklaw03_PuzzlesLightest.l0, if_pos (by omega), if_pos (by omega), if_pos (by omega), rd_lt ss i hia, rd_lt best i hib, if_neg e]
      · rcases h with h | h | ⟨_, h⟩
        · exact Ev.congr (fun k => by rw [if_pos h]) hw
        · subst h
          exact absurd rfl e
        · have hgt := lex_first best ss h hl i hib hia ht e
          by_cases c : usedN ss > usedN best
          · exact Ev.congr (fun k => by rw [if_pos c]) hw
          · exact Ev.congr (fun k => by rw [if_neg c, if_pos hgt]) hw
theorem usedN_zeros : ∀ n, usedN (List.replicate n 0) = 0
  | 0 => rfl
  | n + 1 => by rw [List.replicate_succ, usedN, usedN_zeros n]; rfl
theorem dotN_zeros : ∀ (l : List Int) n, dotN l (List.replicate n 0) = 0
  | [], n => by cases n <;> rfl
  | v :: l, 0 => rfl
  | v :: l, n + 1 => by rw [List.replicate_succ, dotN, dotN_zeros l n]; simp
theorem lightest_law (l ss : List Int) (a : Int) (hm2 : ss.length ≤ maxLen) : Ev (fun k => padlocklaw03_PuzzlesLightest.f k l ss a) true := by
  have hw : Ev (fun k => (padlocklaw03_works.f k).bind fun t => some t) true := Ev.bind works_ev (Ev.now _)
  by_cases h8 : (l.length : Int) > 8
  · exact Ev.congr (fun k => by unfold padlocklaw03_PuzzlesLightest.f; rw [if_pos h8]) hw
  refine Ev.congr (f := fun k => (puzzles_Weigh.f l a).bind fun bt241 => ((puzzles_Weighings.f l a).bind fun bt245 => (if bt245.2 = 0 then (if ((bt241.2 == 0) != (decide (bt245.1 > 0))) = true then (padlocklaw03_PuzzlesLightest.j0 k l ss a bt241.1 bt241.2 true) else (if bt241.2 = 0 then (padlocklaw03_PuzzlesLightest.j0 k l ss a bt241.1 bt241.2 false) else (padlocklaw03_PuzzlesLightest.j0 k l ss a bt241.1 bt241.2 (bt241.2 != 3)))) else (if bt241.2 = bt245.2 then ((padlocklaw03_works.f k).bind fun t247 => (some t247)) else (some false))))) (fun k => by unfold padlocklaw03_PuzzlesLightest.f; rw [if_neg h8]) ?_
  refine Ev.bind (Ev.const (r := weighR l a) rfl) (Ev.bind (Ev.const (r := weighingsR l a) rfl) ?_)
  cases hB : weighedB l a with
  | false =>
    have e1 : weighR l a = ([], 1) := by unfold weighR; rw [hB]; rfl
    have e2 : weighingsR l a = (0, 1) := by unfold weighingsR; rw [hB]; rfl
    rw [e1, e2]
    exact hw
  | true =>
    obtain ⟨hws, hn, ha⟩ := weighed_ws l a hB
    have e2 : weighingsR l a = (((wOuts l [] (-a) 0).length : Int), 0) := by unfold weighingsR; rw [hB]; rfl
    obtain ⟨o, ho⟩ : ∃ o, wOuts l [] (-a) 0 = o := ⟨_, rfl⟩
    have hpos : ∀ x ∈ o, 0 ≤ x.2 := fun x hx => by rw [wOuts_used l [] (-a) 0 rfl x (ho ▸ hx)]; exact (usedN_bound _).1
    have hbest := fun d h1 h2 h3 => best_all l a d h1 h2 h3
    rw [ho] at hbest e2
    -- Tips of the sides
    have htR : tipsR l ss a = if decide (ss.length = l.length) && sidesB ss then (-a + dotN l ss, 0) else (0, 1) := by unfold tipsR; rw [hB, Bool.true_and]
    -- the last part
    have j1 : ∀ (best : List Int) (c : Int), ((∃ d, d = ss ∧ d.length = l.length ∧ (∀ y ∈ d, -1 ≤ y ∧ y ≤ 1) ∧ -a + dotN l d = 0) → c = 0 ∧ best.length = ss.length ∧ (usedN best < usedN ss ∨ best = ss ∨ (usedN best ≤ usedN ss ∧ LexLt best ss))) →
        Ev (fun k => padlocklaw03_PuzzlesLightest.j1 k l ss a best c) true := by
      intro best c hc
      have j2t : Ev (fun k => padlocklaw03_PuzzlesLightest.j2 k ss best c true) true := Ev.step (fun k => by rw [padlocklaw03_PuzzlesLightest.j2, if_pos rfl]) hw
      refine Ev.step (fun k => by rw [padlocklaw03_PuzzlesLightest.j1]) (Ev.bind (Tips_ev l ss a) ?_)
      rw [htR]
      by_cases hok : (decide (ss.length = l.length) && sidesB ss) = true
      · rw [if_pos hok]
        simp only [if_true]
        simp only [Bool.and_eq_true, decide_eq_true_eq] at hok
        by_cases hz : -a + dotN l ss = 0
        · have hb : ((-a + dotN l ss) != 0) = false := by rw [hz]; rfl
          rw [hb]
          obtain ⟨rfl, hlen, hcmp⟩ := hc ⟨ss, rfl, hok.1, sidesB_all ss hok.2, hz⟩
          have hle : ¬ usedN ss < usedN best := by
            rcases hcmp with h | h | ⟨h, _⟩
            · omega
            · rw [h]; omega
            · omega
          refine Ev.step (f := fun k => (padlockref03_Used.f k ss).bind fun t254 => ((padlockref03_Used.f k best).bind fun t255 => (padlocklaw03_PuzzlesLightest.j3 k ss best (decide (t254 < t255))))) (fun k => ?_) ?_
          · rw [padlocklaw03_PuzzlesLightest.j2, if_neg (by decide), if_pos rfl, if_pos (by omega)]
          · unfold maxLen at hm2
            refine Ev.bind (used_ev ss (by omega)) (Ev.bind (used_ev best (by omega)) ?_)
            rw [decide_eq_false hle]
            refine Ev.step (f := fun k => padlocklaw03_PuzzlesLightest.l0 k ss best ((0 : Nat) : Int)) (fun k => ?_) (lightest_l0 ss best hlen (by omega) hcmp _ 0 rfl (by omega) (by simp))
            rw [padlocklaw03_PuzzlesLightest.j3, if_neg (by decide)]
            rfl
        · have hb : ((-a + dotN l ss) != 0) = true := bne_iff_ne.mpr hz
          rw [hb]
          exact j2t
      · rw [if_neg hok]
        exact j2t
    by_cases hneg : (bestO o).2 < 0
    · have ho0 : o = [] := by
        by_cases e : o = []
        · exact e
        · exact absurd (bestO_used _ o rfl hpos e).1 (by omega)
      have e1 : weighR l a = ([], 3) := by unfold weighR; rw [hB, ho, if_pos rfl, if_pos hneg]
      rw [e1, e2, ho0]
      refine Ev.congr (f := fun k => padlocklaw03_PuzzlesLightest.j0 k l ss a [] 3 false) (fun k => rfl) (Ev.step (f := fun k => padlocklaw03_PuzzlesLightest.j1 k l ss a [] 3) (fun k => ?_) (j1 [] 3 fun ⟨d, _, h1, h2, h3⟩ => ?_))
      · rw [padlocklaw03_PuzzlesLightest.j0, if_neg (by decide), if_neg (by decide)]
      · exact absurd ho0 (hbest d h1 h2 h3).1
    · have hone : o ≠ [] := fun e => hneg (by rw [e]; decide)
      have hmem := (bestO_used _ o rfl hpos hone).2
      obtain ⟨d, hd1, hd2, hd3, hd4⟩ := wOuts_sound l [] (-a) 0 (bestO o) (ho ▸ hmem)
      rw [List.nil_append] at hd1
      have hused : (bestO o).2 = usedN (bestO o).1 := wOuts_used l [] (-a) 0 rfl _ (ho ▸ hmem)
      have e1 : weighR l a = ((bestO o).1, 0) := by unfold weighR; rw [hB, ho, if_pos rfl, if_neg hneg]
      have hlen : 0 < o.length := List.length_pos_iff.2 hone
      rw [e1, e2]
      have hg : decide ((o.length : Int) > 0) = true := decide_eq_true (by omega)
      simp only [if_true, hg]
      refine Ev.congr (f := fun k => padlocklaw03_PuzzlesLightest.j0 k l ss a (bestO o).1 0 false) (fun k => rfl) ?_
      have htB : tipsR l (bestO o).1 a = (0, 0) := by
        unfold tipsR
        have hsB : sidesB (bestO o).1 = true := by
          unfold sidesB
          rw [List.all_eq_true]
          intro x hx
          rw [hd1] at hx
          have := hd3 x hx
          unfold inR
          simp [this]
        rw [hB, hsB, decide_eq_true (by rw [hd1]; exact hd2), if_pos (by decide), hd1, hd4]
      have J1 := j1 (bestO o).1 0 (fun ⟨e, he, h1, h2, h3⟩ => by
        subst he
        refine ⟨rfl, by rw [hd1, hd2, h1], ?_⟩
        rw [← hused]
        exact (hbest e h1 h2 h3).2)
      refine Ev.step (f := fun k => (puzzles_Tips.f k l (bestO o).1 a).bind fun bt248 => (if bt248.2 = 0 then (if bt248.1 = 0 then (if a = 0 then ((padlockref03_Used.f k (bestO o).1).bind fun t250 => (if t250 > 0 then (some false) else (padlocklaw03_PuzzlesLightest.j1 k l ss a (bestO o).1 0))) else (padlocklaw03_PuzzlesLightest.j1 k l ss a (bestO o).1 0)) else (some false)) else (some false))) (fun k => by rw [padlocklaw03_PuzzlesLightest.j0, if_neg (by decide), if_pos rfl]) (Ev.bind (Tips_ev l (bestO o).1 a) ?_)
      rw [htB]
      simp only [if_true]
      by_cases ha0 : a = 0
      · refine Ev.congr (fun k => if_pos ha0) (Ev.bind (used_ev (bestO o).1 (by rw [hd1]; omega)) ?_)
        have hz := (hbest (List.replicate l.length 0) (by simp) (fun y hy => by rw [List.eq_of_mem_replicate hy]; omega) (by rw [dotN_zeros, ha0]; rfl)).2
        rw [usedN_zeros] at hz
        have hle : ¬ usedN (bestO o).1 > 0 := by
          rcases hz with h | h | ⟨h, _⟩
          · omega
          · rw [h, usedN_zeros]; omega
          · omega
        exact Ev.congr (fun k => if_neg hle) J1
      · exact Ev.congr (fun k => if_neg ha0) J1

end Go.Proofs.Ytdhiijleafcfcaa.T
