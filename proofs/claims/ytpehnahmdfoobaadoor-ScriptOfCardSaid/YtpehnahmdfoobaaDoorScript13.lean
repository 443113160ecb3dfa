/- Scripts: Check. -/
import Derived.Test.YtpehnahmdfoobaaDoorScript12
namespace Go.Proofs.YtpehnahmdfoobaaDoor
open Go.RowKit
open Go.Proofs
set_option linter.unusedVariables false

def badB (C z : Int) : Bool := decide (z < 0) || decide (C ≤ z)
theorem Check1_any (z C : Int) (b : Nat) (w : World) (hc : w.cell? ⟨b, 0, none⟩ = some (.int .i64 C)) :
    Calls Tryd.prog 39 #[.int .i64 z, .pointer (some ⟨b, 0, none⟩)] w (fun e w' => e = .returned (.bool (badB C z)) ∧ w' = w) := by
  unfold badB
  by_cases h1 : z < 0
  · rw [decide_eq_true h1, Bool.true_or]
    go_enter Tryd.func39, Tryd.ntmps39
    go_wp2
    go_ret
    exact ⟨rfl, rfl⟩
  · rw [decide_eq_false h1, Bool.false_or]
    have h1' : decide (z < 0) = false := decide_eq_false h1
    obtain ⟨B, hB⟩ : ∃ B, decide (C ≤ z) = B := ⟨_, rfl⟩
    rw [hB]
    cases B
    all_goals
      go_enter Tryd.func39, Tryd.ntmps39
      go_wp2
      go_ret
      exact ⟨rfl, rfl⟩

set_option maxHeartbeats 1000000 in
theorem IndexF_any (xs : List Int) (C : Int) (a : Option Addr) (n c b : Nat) (w : World) (hx : xs.length = n) (h : Leads w a n c (icells xs)) (hc : w.cell? ⟨b, 0, none⟩ = some (.int .i64 C)) :
    Calls Tryd.prog 48 #[.slice a n c, .func (.func 39) #[] #[.pointer (some ⟨b, 0, none⟩)]] w (fun e w' => (∃ i : Int, e = .returned (.int .i64 i) ∧ decide (0 ≤ i) = xs.any (badB C)) ∧ w' = w) := by
  have hn := h.len.1
  have H := hid h
  have HX := hid hx
  have HC := hid (Check1_any · C b w hc)
  clear h hx hc
  go_enter Tryd.func48, Tryd.ntmps48
  go_wp2
  go_loopg [5, 8] n (fun g _ i wr => ∃ k : Nat, g + k = n ∧ i = .int .i64 (k : Nat) ∧ Hid ((xs.take k).any (badB C) = false) ∧ wr = w)
  case atStart => exact ⟨0, rfl, rfl, rfl, rfl⟩
  case round =>
    obtain ⟨k, hk, rfl, hs, rfl⟩ := hrel
    have HK := hid hk
    clear hk
    by_cases hlt : k < n
    · obtain ⟨x, hxk⟩ : ∃ x, xs[k]? = some x := ⟨_, List.getElem?_eq_getElem (by rw [HX.out]; exact hlt)⟩
      obtain ⟨b', off, rfl, -, hc⟩ := H.out.at hlt (icells_at hxk)
      have f1 := hc wr (Below.refl _ _)
      have hxl : k < xs.length := by rw [HX.out]; exact hlt
      have HTK : Hid ((xs.take (k + 1)).any (badB C) = badB C x) := hid (by
        rw [List.take_succ_eq_append_getElem hxl, List.any_append, hs.out, (List.getElem?_eq_some_iff.1 hxk).2]
        simp)
      have HMEM : Hid (x ∈ xs) := hid (List.mem_of_getElem? hxk)
      have hC := HC.out x
      obtain ⟨B, hB⟩ : ∃ B, badB C x = B := ⟨_, rfl⟩
      rw [hB] at hC
      have HCX := hid hC
      have HB := hid hB
      clear hc hxk hC hB hxl
      cases B with
      | false =>
        go_wp2_with fail
        refine HCX.out.mono ?_
        rintro e w2 ⟨rfl, rfl⟩
        go_wp2
        go_roundg (gk - 1)
        case measure => have := HK.out; omega
        case rel => exact ⟨k + 1, by have := HK.out; omega, by go_num, hid (HTK.out.trans HB.out), rfl⟩
      | true =>
        go_wp2_with fail
        refine HCX.out.mono ?_
        rintro e w2 ⟨rfl, rfl⟩
        go_wp2
        go_ret
        exact ⟨⟨_, rfl, by rw [decide_eq_true (by omega)]; exact (List.any_eq_true.2 ⟨x, HMEM.out, HB.out⟩).symm⟩, rfl⟩
    · have e := HK.out
      obtain rfl : k = n := by omega
      have HE : Hid (xs.any (badB C) = false) := hid (by
        have := hs.out
        rwa [List.take_of_length_le (by rw [HX.out]; exact Nat.le_refl _)] at this)
      clear hs e HK
      go_wp2
      go_ret
      exact ⟨⟨_, rfl, by rw [HE.out]; rfl⟩, rfl⟩

theorem ContainsF_any (xs : List Int) (C : Int) (a : Option Addr) (n c b : Nat) (w : World) (hx : xs.length = n) (h : Leads w a n c (icells xs)) (hc : w.cell? ⟨b, 0, none⟩ = some (.int .i64 C)) :
    Calls Tryd.prog 38 #[.slice a n c, .func (.func 39) #[] #[.pointer (some ⟨b, 0, none⟩)]] w (fun e w' => e = .returned (.bool (xs.any (badB C))) ∧ w' = w) := by
  have H := hid (IndexF_any xs C a n c b w hx h hc)
  obtain ⟨B, hB⟩ : ∃ B, xs.any (badB C) = B := ⟨_, rfl⟩
  rw [hB] at H ⊢
  clear hB h hx hc
  go_enter Tryd.func38, Tryd.ntmps38
  go_wp2_with fail
  refine H.out.mono ?_
  rintro e w2 ⟨⟨i, rfl, hi⟩, rfl⟩
  go_wp2
  go_ret
  exact ⟨by first | rfl | simp, rfl⟩

/-- May a script be? -/
def sumS (ls : List (List (List Nat))) : Nat := (ls.map List.length).sum
def ok1S (C P : Int) (nl np : Nat) : Bool := decide (1 ≤ C) && (decide (C ≤ 8) && (decide (1 ≤ P) && (decide (P ≤ 64) && (decide (((nl : Nat) : Int) = C) && decide (((np : Nat) : Int) ≤ 4096)))))
def okS (S : Scr) : Bool := ok1S S.C S.P S.ls.length S.ps.length && (decide (sumS S.ls ≤ 64) && !(S.ps.any (badB S.C)))
theorem sum_take (ls : List (List (List Nat))) (k : Nat) (cs : List (List Nat)) (h : ls[k]? = some cs) : sumS (ls.take (k + 1)) = sumS (ls.take k) + cs.length := by
  obtain ⟨h1, rfl⟩ := List.getElem?_eq_some_iff.1 h
  unfold sumS
  rw [List.take_succ_eq_append_getElem h1, List.map_append, List.sum_append]
  simp
theorem sum_le (ls : List (List (List Nat))) (m : Nat) (h : ∀ cs ∈ ls, cs.length ≤ m) : sumS ls ≤ ls.length * m := by
  induction ls with
  | nil => simp [sumS]
  | cons q r ih =>
    have h1 := h q (List.mem_cons_self ..)
    have h2 := ih (fun cs hc => h cs (List.mem_cons_of_mem _ hc))
    unfold sumS at *
    rw [List.map_cons, List.sum_cons, List.length_cons, Nat.add_mul]
    omega

set_option maxRecDepth 100000 in
set_option maxHeartbeats 2000000 in
theorem Check_any (S : Scr) (la pa : Option Addr) (lc pc : Nat) (vs : List Value) (w : World) (h : ScrL w la lc vs pa pc S) (hn : S.ls.length ≤ 1000) (hf : ∀ cs ∈ S.ls, cs.length ≤ 1000) :
    Calls Tryd.prog 20 #[scrV la lc pa pc S] w (Ret (.int .i64 (if okS S then 0 else 130)) w) := by
  obtain ⟨w1, hw1, hb1, hs1, hl1⟩ := laid w #[.int .i64 S.C, .int .i64 S.P, .slice la S.ls.length lc, .slice pa S.ps.length pc] 35
  obtain ⟨X, hX⟩ : ∃ X, w.heap.size = X := ⟨_, rfl⟩
  rw [hX] at hl1
  have a0 := cell_laid (i := 0) hl1 rfl
  have a1 := cell_laid (i := 1) hl1 rfl
  have a2 := cell_laid (i := 2) hl1 rfl
  have a3 := cell_laid (i := 3) hl1 rfl
  have HL1 := hid hl1
  have HS := hid (h.grow hb1)
  have HB1 := hid hb1
  have hsum := sum_le S.ls 1000 hf
  have hls := h.lists.len.1
  have hps := h.picks.len.1
  obtain ⟨C, P, ls, ps⟩ := S
  dsimp only at *
  unfold scrV okS
  dsimp only
  have HF := hid hf
  have HSUM := hid hsum
  clear h hl1 hs1 hf hsum
  obtain ⟨nl, hnl⟩ : ∃ nl, ls.length = nl := ⟨_, rfl⟩
  obtain ⟨np, hnp⟩ : ∃ np, ps.length = np := ⟨_, rfl⟩
  rw [hnl] at hw1 hn hls a2 ⊢
  rw [hnp] at hw1 hps a3 ⊢
  have HNL := hid hnl
  have HNP := hid hnp
  clear hnl hnp
  obtain ⟨OK1, hOK1⟩ : ∃ OK1, ok1S C P nl np = OK1 := ⟨_, rfl⟩
  rw [hOK1]
  obtain ⟨V, hV⟩ : ∃ V : Int, (if (OK1 && (decide (sumS ls ≤ 64) && !(ps.any (badB C)))) = true then (0 : Int) else 130) = V := ⟨_, rfl⟩
  rw [hV]
  have HV := hid hV
  clear hV
  go_enter Tryd.func20, Tryd.ntmps20
  go_upto_region 1 with (fail)
  go_cut [3] (fun t3 ws => t3 = .bool OK1 ∧ ws = w1)
  case first =>
    unfold ok1S at hOK1
    by_cases c1 : 1 ≤ C
    case' neg =>
      have e1 : decide (1 ≤ C) = false := decide_eq_false c1
      have HO : Hid (OK1 = false) := hid (by rw [← hOK1]; simp only [decide_eq_false c1, Bool.false_and])
      clear hOK1
      go_wp2
      go_meet
      exact ⟨by rw [HO.out], by first | rfl | exact hw1⟩
    case' pos =>
      have e1 : decide (1 ≤ C) = true := decide_eq_true c1
      by_cases c2 : C ≤ 8
      case' neg =>
        have e2 : decide (C ≤ 8) = false := decide_eq_false c2
        have HO : Hid (OK1 = false) := hid (by rw [← hOK1]; simp only [decide_eq_false c2, decide_eq_true c1, Bool.true_and, Bool.false_and])
        clear hOK1
        go_wp2
        go_meet
        exact ⟨by rw [HO.out], by first | rfl | exact hw1⟩
      case' pos =>
        have e2 : decide (C ≤ 8) = true := decide_eq_true c2
        by_cases c3 : 1 ≤ P
        case' neg =>
          have e3 : decide (1 ≤ P) = false := decide_eq_false c3
          have HO : Hid (OK1 = false) := hid (by rw [← hOK1]; simp only [decide_eq_false c3, decide_eq_true c1, Bool.true_and, decide_eq_true c2, Bool.true_and, Bool.false_and])
          clear hOK1
          go_wp2
          go_meet
          exact ⟨by rw [HO.out], by first | rfl | exact hw1⟩
        case' pos =>
          have e3 : decide (1 ≤ P) = true := decide_eq_true c3
          by_cases c4 : P ≤ 64
          case' neg =>
            have e4 : decide (P ≤ 64) = false := decide_eq_false c4
            have HO : Hid (OK1 = false) := hid (by rw [← hOK1]; simp only [decide_eq_false c4, decide_eq_true c1, Bool.true_and, decide_eq_true c2, Bool.true_and, decide_eq_true c3, Bool.true_and, Bool.false_and])
            clear hOK1
            go_wp2
            go_meet
            exact ⟨by rw [HO.out], by first | rfl | exact hw1⟩
          case' pos =>
            have e4 : decide (P ≤ 64) = true := decide_eq_true c4
            by_cases c5 : ((nl : Nat) : Int) = C
            case' neg =>
              have e5 : (((nl : Nat) : Int) == C) = false := by simpa using c5
              have HO : Hid (OK1 = false) := hid (by rw [← hOK1]; simp only [decide_eq_false c5, decide_eq_true c1, Bool.true_and, decide_eq_true c2, Bool.true_and, decide_eq_true c3, Bool.true_and, decide_eq_true c4, Bool.true_and, Bool.false_and])
              clear hOK1
              go_wp2
              go_meet
              exact ⟨by rw [HO.out], by first | rfl | exact hw1⟩
            case' pos =>
              have e5 : (((nl : Nat) : Int) == C) = true := by simpa using c5
              have HC5 := hid c5
              clear c5
              by_cases c6 : ((np : Nat) : Int) ≤ 4096
              · have e6 : decide (((np : Nat) : Int) ≤ 4096) = true := decide_eq_true c6
                have HO : Hid (OK1 = true) := hid (by rw [← hOK1]; simp only [decide_eq_true c1, decide_eq_true c2, decide_eq_true c3, decide_eq_true c4, decide_eq_true HC5.out, decide_eq_true c6, Bool.and_self])
                clear hOK1
                go_wp2
                go_meet
                exact ⟨by rw [HO.out], by first | rfl | exact hw1⟩
              · have e6 : decide (((np : Nat) : Int) ≤ 4096) = false := decide_eq_false c6
                have HO : Hid (OK1 = false) := hid (by rw [← hOK1]; simp only [decide_eq_true c1, decide_eq_true c2, decide_eq_true c3, decide_eq_true c4, decide_eq_true HC5.out, decide_eq_false c6, Bool.and_false])
                clear hOK1
                go_wp2
                go_meet
                exact ⟨by rw [HO.out], by first | rfl | exact hw1⟩
  case rest =>
    obtain ⟨rfl, rfl⟩ := hcut
    clear hOK1
    go_wp2
    go_loopg [4, 6, 42] nl (fun g t4 _ i wr => ∃ k M : Nat, g + k = nl ∧ i = .int .i64 (k : Nat) ∧ t4 = .int .i64 (M : Nat) ∧ Hid (sumS (ls.take k) = M) ∧ wr = wc)
    case atStart => exact ⟨0, 0, rfl, rfl, rfl, hid rfl, rfl⟩
    case round =>
      obtain ⟨k, M, hk, rfl, rfl, hM, rfl⟩ := hrel
      have HK := hid hk
      clear hk
      by_cases hlt : k < nl
      · obtain ⟨cs, hck⟩ : ∃ x, ls[k]? = some x := ⟨_, List.getElem?_eq_getElem (by rw [HNL.out]; exact hlt)⟩
        obtain ⟨v, hvk⟩ : ∃ x, vs[k]? = some x := ⟨_, List.getElem?_eq_getElem (by rw [HS.out.len]; dsimp only; rw [HNL.out]; exact hlt)⟩
        have hHSl := HS.out.lists
        dsimp only at hHSl
        rw [HNL.out] at hHSl
        obtain ⟨b', off, rfl, -, hc⟩ := hHSl.at hlt hvk
        obtain ⟨va, vc, rfl, -⟩ := HS.out.rows k v cs hvk hck
        have f1 := hc wr (Below.refl _ _)
        have HTK := hid ((sum_take ls k cs hck).trans (by rw [hM.out]))
        have hM1 : M ≤ nl * 1000 := by
          rw [← hM.out, ← HNL.out]
          exact Nat.le_trans (sum_le _ 1000 (fun q hq => HF.out q (List.mem_of_mem_take hq))) (Nat.mul_le_mul_right _ (by simp; exact Nat.min_le_right _ _))
        have hcl := HF.out cs (List.mem_of_getElem? hck)
        obtain ⟨M2, hM2⟩ : ∃ M2, M + cs.length = M2 := ⟨_, rfl⟩
        have hM2i : ((M : Nat) : Int) + ((cs.length : Nat) : Int) = ((M2 : Nat) : Int) := by omega
        have HM2 := hid hM2
        have hM3 : M2 ≤ 10000000 := by omega
        clear hHSl hc hvk hck hM1 hM2
        go_wp2
        go_roundg (gk - 1)
        case measure => have := HK.out; omega
        case rel => exact ⟨k + 1, M2, by have := HK.out; omega, by go_num, rfl, hid (HTK.out.trans HM2.out), rfl⟩
      · have e := HK.out
        obtain rfl : k = nl := by omega
        have HM : Hid (sumS ls = M) := hid (by
          have := hM.out
          rwa [List.take_of_length_le (by rw [HNL.out]; exact Nat.le_refl _)] at this)
        have hVV := HV.out
        rw [HM.out] at hVV
        have hHSp := HS.out.picks
        dsimp only at hHSp
        rw [HNP.out] at hHSp
        have HCF := hid (ContainsF_any ps C pa np pc X wr HNP.out hHSp a0)
        obtain ⟨BD, hBD⟩ : ∃ BD, ps.any (badB C) = BD := ⟨_, rfl⟩
        rw [hBD] at HCF
        rw [hBD] at hVV
        clear hM e HK hHSp hBD
        cases OK1 with
        | false =>
          rw [Bool.false_and, if_neg (by decide)] at hVV
          subst hVV
          go_wp2
          go_ret
          exact ⟨rfl, HB1.out⟩
        | true =>
          rw [Bool.true_and] at hVV
          rcases Nat.lt_or_ge 64 M with hM64 | hM64
          · have d64 : decide (64 < ((M : Nat) : Int)) = true := decide_eq_true (by omega)
            rw [decide_eq_false (by omega : ¬ M ≤ 64), Bool.false_and, if_neg (by decide)] at hVV
            subst hVV
            go_wp2
            go_ret
            exact ⟨rfl, HB1.out⟩
          · have d64 : decide (64 < ((M : Nat) : Int)) = false := decide_eq_false (by omega)
            have d64' : ((M : Nat) : Int) ≤ 64 := by omega
            rw [decide_eq_true hM64, Bool.true_and] at hVV
            cases BD with
            | true =>
              rw [Bool.not_true, if_neg (by decide)] at hVV
              subst hVV
              go_wp2_with fail
              refine HCF.out.mono ?_
              rintro e w3 ⟨rfl, rfl⟩
              go_wp2
              go_ret
              exact ⟨rfl, HB1.out⟩
            | false =>
              rw [Bool.not_false, if_pos rfl] at hVV
              subst hVV
              go_wp2_with fail
              refine HCF.out.mono ?_
              rintro e w3 ⟨rfl, rfl⟩
              go_wp2
              go_ret
              exact ⟨rfl, HB1.out⟩
end Go.Proofs.YtpehnahmdfoobaaDoor
