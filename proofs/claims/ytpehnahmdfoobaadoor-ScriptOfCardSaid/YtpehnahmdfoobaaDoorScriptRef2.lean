/- The document's answer for layer 3: which scripts may be, and which are the same. -/
import Derived.Test.YtpehnahmdfoobaaDoorScript13
import Derived.Test.YtpehnahmdfoobaaDoorScriptRef1
namespace Go.Proofs.YtpehnahmdfoobaaDoor
open Go.RowKit
open Go.Proofs
set_option linter.unusedVariables false

set_option maxRecDepth 100000 in
set_option maxHeartbeats 4000000 in
theorem RefRight_any (S : Scr) (la pa : Option Addr) (lc pc : Nat) (vs : List Value) (w : World) (h : ScrL w la lc vs pa pc S) (hn : S.ls.length ≤ 1000) (hf : ∀ cs ∈ S.ls, cs.length ≤ 1000) :
    Calls Tryd.prog 21 #[scrV la lc pa pc S] w (Ret (.bool (okS S)) w) := by
  obtain ⟨w1, hw1, hb1, hs1, hl1⟩ := laid w #[.int .i64 S.C, .int .i64 S.P, .slice la S.ls.length lc, .slice pa S.ps.length pc] 35
  obtain ⟨X, hX⟩ : ∃ X, w.heap.size = X := ⟨_, rfl⟩
  rw [hX] at hl1
  have a0 := cell_laid (i := 0) hl1 rfl
  have a1 := cell_laid (i := 1) hl1 rfl
  have a2 := cell_laid (i := 2) hl1 rfl
  have a3 := cell_laid (i := 3) hl1 rfl
  have HS := hid (h.grow hb1)
  have HB1 := hid hb1
  have hls := h.lists.len.1
  have hps := h.picks.len.1
  obtain ⟨C, P, ls, ps⟩ := S
  dsimp only at *
  unfold scrV okS
  dsimp only
  have HF := hid hf
  clear h hl1 hs1 hf
  obtain ⟨nl, hnl⟩ : ∃ nl, ls.length = nl := ⟨_, rfl⟩
  obtain ⟨np, hnp⟩ : ∃ np, ps.length = np := ⟨_, rfl⟩
  rw [hnl] at hw1 hn hls a2 ⊢
  rw [hnp] at hw1 hps a3 ⊢
  have HNL := hid hnl
  have HNP := hid hnp
  clear hnl hnp
  obtain ⟨OK1, hOK1⟩ : ∃ OK1, ok1S C P nl np = OK1 := ⟨_, rfl⟩
  rw [hOK1]
  obtain ⟨V, hV⟩ : ∃ V : Bool, (OK1 && (decide (sumS ls ≤ 64) && !(ps.any (badB C)))) = V := ⟨_, rfl⟩
  rw [hV]
  have HV := hid hV
  clear hV
  go_enter Tryd.func21, Tryd.ntmps21
  go_upto_region 1 with (fail)
  go_cut [39] (fun t39 ws => t39 = .bool (!OK1) ∧ ws = w1)
  case first =>
    unfold ok1S at hOK1
    by_cases c0 : 1 ≤ C
    · have t0 : decide (C < 1) = false := decide_eq_false (by omega)
      by_cases c1 : C ≤ 8
      · have t1 : decide ((8 : Int) < C) = false := decide_eq_false (by omega)
        by_cases c2 : 1 ≤ P
        · have t2 : decide (P < 1) = false := decide_eq_false (by omega)
          by_cases c3 : P ≤ 64
          · have t3 : decide ((64 : Int) < P) = false := decide_eq_false (by omega)
            by_cases c4 : ((nl : Nat) : Int) = C
            · have t4 : (((nl : Nat) : Int) != C) = false := by simp; omega
              by_cases c5 : ((np : Nat) : Int) ≤ 4096
              · have t5 : decide ((4096 : Int) < ((np : Nat) : Int)) = false := decide_eq_false (by omega)
                have HO : Hid (OK1 = true) := hid (by rw [← hOK1, decide_eq_true c0, decide_eq_true c1, decide_eq_true c2, decide_eq_true c3, decide_eq_true c4, decide_eq_true c5]; rfl)
                clear hOK1
                go_wp2
                go_meet
                exact ⟨by rw [HO.out]; rfl, by first | rfl | exact hw1⟩
              · have t5 : decide ((4096 : Int) < ((np : Nat) : Int)) = true := decide_eq_true (by omega)
                have HO : Hid (OK1 = false) := hid (by rw [← hOK1, decide_eq_true c0, decide_eq_true c1, decide_eq_true c2, decide_eq_true c3, decide_eq_true c4, decide_eq_false c5]; rfl)
                clear hOK1
                go_wp2
                go_meet
                exact ⟨by rw [HO.out]; rfl, by first | rfl | exact hw1⟩
            · have t4 : (((nl : Nat) : Int) != C) = true := by simp; omega
              have HO : Hid (OK1 = false) := hid (by rw [← hOK1, decide_eq_true c0, decide_eq_true c1, decide_eq_true c2, decide_eq_true c3, decide_eq_false c4]; rfl)
              clear hOK1
              go_wp2
              go_meet
              exact ⟨by rw [HO.out]; rfl, by first | rfl | exact hw1⟩
          · have t3 : decide ((64 : Int) < P) = true := decide_eq_true (by omega)
            have HO : Hid (OK1 = false) := hid (by rw [← hOK1, decide_eq_true c0, decide_eq_true c1, decide_eq_true c2, decide_eq_false c3]; rfl)
            clear hOK1
            go_wp2
            go_meet
            exact ⟨by rw [HO.out]; rfl, by first | rfl | exact hw1⟩
        · have t2 : decide (P < 1) = true := decide_eq_true (by omega)
          have HO : Hid (OK1 = false) := hid (by rw [← hOK1, decide_eq_true c0, decide_eq_true c1, decide_eq_false c2]; rfl)
          clear hOK1
          go_wp2
          go_meet
          exact ⟨by rw [HO.out]; rfl, by first | rfl | exact hw1⟩
      · have t1 : decide ((8 : Int) < C) = true := decide_eq_true (by omega)
        have HO : Hid (OK1 = false) := hid (by rw [← hOK1, decide_eq_true c0, decide_eq_false c1]; rfl)
        clear hOK1
        go_wp2
        go_meet
        exact ⟨by rw [HO.out]; rfl, by first | rfl | exact hw1⟩
    · have t0 : decide (C < 1) = true := decide_eq_true (by omega)
      have HO : Hid (OK1 = false) := hid (by rw [← hOK1, decide_eq_false c0]; rfl)
      clear hOK1
      go_wp2
      go_meet
      exact ⟨by rw [HO.out]; rfl, by first | rfl | exact hw1⟩
  case rest =>
    obtain ⟨rfl, rfl⟩ := hcut
    clear hOK1
    cases OK1 with
    | false =>
      go_wp2
      go_ret
      exact ⟨retb (by rw [← HV.out]; rfl), HB1.out⟩
    | true =>
    have HV2 : Hid ((decide (sumS ls ≤ 64) && !(ps.any (badB C))) = V) := hid (by rw [← HV.out]; rfl)
    go_wp2
    go_loopg [3, 43] nl (fun g t4 i wr => ∃ k M : Nat, g + k = nl ∧ i = .int .i64 (k : Nat) ∧ t4 = .int .i64 (M : Nat) ∧ Hid (sumS (ls.take k) = M) ∧ wr = wc)
    case atStart => exact ⟨0, 0, rfl, rfl, rfl, hid rfl, rfl⟩
    case round =>
      obtain ⟨k, M, hk, rfl, rfl, hM, rfl⟩ := hrel
      have HK := hid hk
      clear hk
      by_cases hlt : k < nl
      · obtain ⟨cs, hck⟩ : ∃ x, ls[k]? = some x := ⟨_, List.getElem?_eq_getElem (by rw [HNL.out]; exact hlt)⟩
        obtain ⟨v, hvk⟩ : ∃ x, vs[k]? = some x := ⟨_, List.getElem?_eq_getElem (by rw [HS.out.len]; dsimp only; rw [HNL.out]; exact hlt)⟩
        have hHSl := HS.out.lists
        dsimp only at hHSl
        rw [HNL.out] at hHSl
        obtain ⟨b', off, rfl, -, hc⟩ := hHSl.at hlt hvk
        obtain ⟨va, vc, rfl, -⟩ := HS.out.rows k v cs hvk hck
        have f1 := hc wr (Below.refl _ _)
        have HTK := hid ((sum_take ls k cs hck).trans (by rw [hM.out]))
        have hM1 : M ≤ nl * 1000 := by
          rw [← hM.out, ← HNL.out]
          exact Nat.le_trans (sum_le _ 1000 (fun q hq => HF.out q (List.mem_of_mem_take hq))) (Nat.mul_le_mul_right _ (by simp; exact Nat.min_le_right _ _))
        have hcl := HF.out cs (List.mem_of_getElem? hck)
        obtain ⟨M2, hM2⟩ : ∃ M2, M + cs.length = M2 := ⟨_, rfl⟩
        have hM2i : ((M : Nat) : Int) + ((cs.length : Nat) : Int) = ((M2 : Nat) : Int) := by omega
        have HM2 := hid hM2
        have hM3 : M2 ≤ 10000000 := by omega
        clear hHSl hc hvk hck hM1 hM2
        go_wp2
        go_roundg (gk - 1)
        case measure => have := HK.out; omega
        case rel => exact ⟨k + 1, M2, by have := HK.out; omega, by go_num, rfl, hid (HTK.out.trans HM2.out), rfl⟩
      · have e := HK.out
        obtain rfl : k = nl := by omega
        have HM : Hid (sumS ls = M) := hid (by
          have := hM.out
          rwa [List.take_of_length_le (by rw [HNL.out]; exact Nat.le_refl _)] at this)
        have hHSp := HS.out.picks
        dsimp only at hHSp
        rw [HNP.out] at hHSp
        have HPP := hid hHSp
        clear hM e HK hHSp
        go_wp2
        go_loopg [55] np (fun g i V2 => ∃ j : Nat, g + j = np ∧ i = .int .i64 (j : Nat) ∧ Hid ((ps.take j).any (badB C) = false) ∧ V2 = wr)
        case atStart => exact ⟨0, rfl, rfl, hid (by simp), rfl⟩
        case round =>
          obtain ⟨j, hj, rfl, hbad, hwr⟩ := hrel
          have HJ := hid hj
          clear hj
          subst hwr
          by_cases hlt : j < np
          · obtain ⟨z, hz⟩ : ∃ z, ps[j]? = some z := ⟨_, List.getElem?_eq_getElem (by rw [HNP.out]; exact hlt)⟩
            obtain ⟨b, off, rfl, -, hc⟩ := HPP.out.at hlt (icells_at2 hz)
            have f1 := hc _ (Below.refl _ _)
            have HZ := hid hz
            clear hc hz
            by_cases hb : badB C z = true
            · have HE : Hid (V = false) := hid (by
                rw [← HV2.out]
                have : ps.any (badB C) = true := List.any_eq_true.2 ⟨z, List.mem_of_getElem? HZ.out, hb⟩
                rw [this]; simp)
              unfold badB at hb
              by_cases h0 : z < 0
              · have t1 : decide (z < 0) = true := decide_eq_true h0
                clear hb
                go_wp2
                go_ret
                exact ⟨retb HE.out.symm, HB1.out⟩
              · have t1 : decide (z < 0) = false := decide_eq_false h0
                have h1 : C ≤ z := by simpa [t1] using hb
                have t2 : decide (C ≤ z) = true := decide_eq_true h1
                clear hb
                go_wp2
                go_ret
                exact ⟨retb HE.out.symm, HB1.out⟩
            · have hb' : badB C z = false := by simpa using hb
              have HN : Hid ((ps.take (j + 1)).any (badB C) = false) := hid (by
                rw [List.take_add_one, HZ.out, List.any_append, hbad.out]
                simpa using hb')
              unfold badB at hb'
              have h0 : ¬ z < 0 := by intro h; simp [h] at hb'
              have h1 : ¬ C ≤ z := by intro h; simp [h] at hb'
              have t1 : decide (z < 0) = false := decide_eq_false h0
              have t2 : decide (C ≤ z) = false := decide_eq_false h1
              clear hb hb'
              go_wp2
              go_roundg (gk - 1)
              case measure => have := HJ.out; omega
              case rel => exact ⟨j + 1, by have := HJ.out; omega, by go_num, HN, rfl⟩
          · have e := HJ.out
            obtain rfl : j = np := by omega
            have HE : Hid (decide (((M : Nat) : Int) ≤ 64) = V) := hid (by
              have h1 := hbad.out
              rw [List.take_of_length_le (by rw [HNP.out]; exact Nat.le_refl _)] at h1
              rw [← HV2.out, h1, HM.out]
              simp only [Bool.not_false, Bool.and_true]
              rw [decide_eq_decide]
              omega)
            clear hbad e HJ
            go_wp2
            go_ret
            exact ⟨retb HE.out, HB1.out⟩


set_option maxRecDepth 100000 in
set_option maxHeartbeats 4000000 in
theorem RefSame_any (S T : Scr) (la lb pa pb : Option Addr) (lc ld pc pd : Nat) (vs us : List Value) (w : World) (hS : S.Ok) (hT : T.Ok) (h : ScrL w la lc vs pa pc S) (h' : ScrL w lb ld us pb pd T) :
    Calls Tryd.prog 15 #[scrV la lc pa pc S, scrV lb ld pb pd T] w (Ret (.bool (sameS S T)) w) := by
  obtain ⟨w1, hw1, hb1, hs1, hl1⟩ := laid w #[.int .i64 S.C, .int .i64 S.P, .slice la S.ls.length lc, .slice pa S.ps.length pc] 35
  obtain ⟨w2, hw2, hb2, hs2, hl2⟩ := laid w1 #[.int .i64 T.C, .int .i64 T.P, .slice lb T.ls.length ld, .slice pb T.ps.length pd] 35
  have hl1' := keep_laid hl1 hb2
  have hb02 := step hb1 hb2
  obtain ⟨X, hX⟩ : ∃ X, w.heap.size = X := ⟨_, rfl⟩
  obtain ⟨Y, hY⟩ : ∃ Y, w1.heap.size = Y := ⟨_, rfl⟩
  rw [hX] at hl1'
  rw [hY] at hl2
  have a0 := cell_laid (i := 0) hl1' rfl
  have a1 := cell_laid (i := 1) hl1' rfl
  have a2 := cell_laid (i := 2) hl1' rfl
  have a3 := cell_laid (i := 3) hl1' rfl
  have d0 := cell_laid (i := 0) hl2 rfl
  have d1 := cell_laid (i := 1) hl2 rfl
  have d2 := cell_laid (i := 2) hl2 rfl
  have d3 := cell_laid (i := 3) hl2 rfl
  have HX := hid hl1'
  have HY := hid hl2
  have H := hid (h.grow hb02)
  have H' := hid (h'.grow hb02)
  have HB02 := hid hb02
  have hls := h.lists.len.1
  have hps := h.picks.len.1
  have hls' := h'.lists.len.1
  have hps' := h'.picks.len.1
  obtain ⟨C, P, ls, ps⟩ := S
  obtain ⟨C', P', ls', ps'⟩ := T
  have HS := hid hS
  have HT := hid hT
  unfold sameS scrV
  dsimp only at *
  clear h h' hl1 hl1' hl2 hS hT hs1 hs2
  obtain ⟨nl, hnl⟩ : ∃ nl, ls.length = nl := ⟨_, rfl⟩
  obtain ⟨np, hnp⟩ : ∃ np, ps.length = np := ⟨_, rfl⟩
  obtain ⟨ml, hml⟩ : ∃ nl, ls'.length = nl := ⟨_, rfl⟩
  obtain ⟨mp, hmp⟩ : ∃ np, ps'.length = np := ⟨_, rfl⟩
  have HLA := hid H.out.lists
  have HLB := hid H'.out.lists
  have HPA := hid H.out.picks
  have HPB := hid H'.out.picks
  have HVL := hid H.out.len
  have HUL := hid H'.out.len
  dsimp only at HLA HLB HPA HPB HVL HUL
  rw [hnl] at hw1 hls a2 HLA HVL ⊢
  rw [hnp] at hw1 hps a3 HPA ⊢
  rw [hml] at hw2 hls' d2 HLB HUL ⊢
  rw [hmp] at hw2 hps' d3 HPB ⊢
  have HNL := hid hnl
  have HNP := hid hnp
  have HML := hid hml
  have HMP := hid hmp
  obtain ⟨V, hV⟩ : ∃ V : Bool, (decide (C = C') && decide (P = P') && decide (ls = ls') && decide (ps = ps')) = V := ⟨_, rfl⟩
  rw [hV]
  have HV := hid hV
  rw [hnl, hnp] at HX
  rw [hml, hmp] at HY
  clear hnl hnp hml hmp hV
  go_enter Tryd.func15, Tryd.ntmps15
  go_upto_region 1 with (fail)
  obtain ⟨OK1, hOK1⟩ : ∃ OK1 : Bool, (decide (C = C') && (decide (P = P') && (decide (nl = ml) && decide (np = mp)))) = OK1 := ⟨_, rfl⟩
  go_cut [40] (fun t40 ws => t40 = .bool (!OK1) ∧ ws = w2)
  case first =>
    by_cases c0 : C = C'
    · have t0 : (C != C') = false := by simp; omega
      by_cases c1 : P = P'
      · have t1 : (P != P') = false := by simp; omega
        by_cases c2 : nl = ml
        · have t2 : (((nl : Nat) : Int) != ((ml : Nat) : Int)) = false := by simp; omega
          by_cases c3 : np = mp
          · have t3 : (((np : Nat) : Int) != ((mp : Nat) : Int)) = false := by simp; omega
            have HO : Hid (OK1 = true) := hid (by rw [← hOK1, decide_eq_true c0, decide_eq_true c1, decide_eq_true c2, decide_eq_true c3]; rfl)
            clear hOK1
            go_wp2
            go_meet
            exact ⟨by rw [HO.out]; rfl, by first | rfl | exact hw2⟩
          · have t3 : (((np : Nat) : Int) != ((mp : Nat) : Int)) = true := by simp; omega
            have HO : Hid (OK1 = false) := hid (by rw [← hOK1, decide_eq_true c0, decide_eq_true c1, decide_eq_true c2, decide_eq_false c3]; rfl)
            clear hOK1
            go_wp2
            go_meet
            exact ⟨by rw [HO.out]; rfl, by first | rfl | exact hw2⟩
        · have t2 : (((nl : Nat) : Int) != ((ml : Nat) : Int)) = true := by simp; omega
          have HO : Hid (OK1 = false) := hid (by rw [← hOK1, decide_eq_true c0, decide_eq_true c1, decide_eq_false c2]; rfl)
          clear hOK1
          go_wp2
          go_meet
          exact ⟨by rw [HO.out]; rfl, by first | rfl | exact hw2⟩
      · have t1 : (P != P') = true := by simp; omega
        have HO : Hid (OK1 = false) := hid (by rw [← hOK1, decide_eq_true c0, decide_eq_false c1]; rfl)
        clear hOK1
        go_wp2
        go_meet
        exact ⟨by rw [HO.out]; rfl, by first | rfl | exact hw2⟩
    · have t0 : (C != C') = true := by simp; omega
      have HO : Hid (OK1 = false) := hid (by rw [← hOK1, decide_eq_false c0]; rfl)
      clear hOK1
      go_wp2
      go_meet
      exact ⟨by rw [HO.out]; rfl, by first | rfl | exact hw2⟩
  case rest =>
    obtain ⟨rfl, rfl⟩ := hcut
    cases OK1 with
    | false =>
      have HE : Hid (V = false) := hid (by
        rw [← HV.out]
        have h1 := hOK1
        simp only [Bool.and_eq_false_iff, decide_eq_false_iff_not] at h1 ⊢
        rcases h1 with h | h | h | h
        · exact .inl (.inl (.inl h))
        · exact .inl (.inl (.inr h))
        · exact .inl (.inr fun e => h (by rw [← HNL.out, ← HML.out, e]))
        · exact .inr fun e => h (by rw [← HNP.out, ← HMP.out, e]))
      clear hOK1
      go_wp2
      go_ret
      exact ⟨retb HE.out.symm, HB02.out⟩
    | true =>
    simp only [Bool.and_eq_true, decide_eq_true_eq] at hOK1
    obtain ⟨h1, h2, h3, h4⟩ := hOK1
    have HV2 : Hid ((decide (ls = ls') && decide (ps = ps')) = V) := hid (by rw [← HV.out, h1, h2]; simp)
    subst h3
    subst h4
    clear h1 h2 HV a0 a1 d0 d1
    go_wp2
    obtain ⟨wA, hwA⟩ : ∃ wA, wA = wc := ⟨_, rfl⟩
    subst hwA
    go_loopg [44] nl (fun g i wr => ∃ k : Nat, g + k = nl ∧ i = .int .i64 (k : Nat) ∧ Hid (ls.take k = ls'.take k) ∧ Below wA.heap.size wA wr)
    case atStart => exact ⟨0, rfl, rfl, rfl, Below.refl _ _⟩
    case round =>
      obtain ⟨k, hk, rfl, hs, hb⟩ := hrel
      have HK := hid hk
      clear hk
      by_cases hlt : k < nl
      · obtain ⟨cs, hck⟩ : ∃ x, ls[k]? = some x := ⟨_, List.getElem?_eq_getElem (by rw [HNL.out]; exact hlt)⟩
        obtain ⟨ds, hdk⟩ : ∃ x, ls'[k]? = some x := ⟨_, List.getElem?_eq_getElem (by rw [HML.out]; exact hlt)⟩
        obtain ⟨v, hvk⟩ : ∃ x, vs[k]? = some x := ⟨_, List.getElem?_eq_getElem (by rw [HVL.out]; exact hlt)⟩
        obtain ⟨u, huk⟩ : ∃ x, us[k]? = some x := ⟨_, List.getElem?_eq_getElem (by rw [HUL.out]; exact hlt)⟩
        obtain ⟨b1, o1, rfl, hb1lt, hc1⟩ := HLA.out.at hlt hvk
        obtain ⟨b2, o2, rfl, hb2lt, hc2⟩ := HLB.out.at hlt huk
        obtain ⟨va, vc, rfl, hLv⟩ := H.out.rows k v cs hvk hck
        obtain ⟨ua, uc, rfl, hLu⟩ := H'.out.rows k u ds huk hdk
        have hcl := hLv.len
        have hdl := hLu.len
        obtain ⟨nc, hnc⟩ : ∃ nc, cs.length = nc := ⟨_, rfl⟩
        obtain ⟨nd, hnd⟩ : ∃ nd, ds.length = nd := ⟨_, rfl⟩
        rw [hnc] at hc1 hLv hcl
        rw [hnd] at hc2 hLu hdl
        have HLV := hid hLv
        have HLU := hid hLu
        have HNC := hid hnc
        have HND := hid hnd
        have HCK := hid hck
        have HDK := hid hdk
        have f1 := hc1 wr hb
        have f2 := hc2 wr hb
        have HC2 := hid hc2
        have e2 : wr.cell? ⟨Y, 2, none⟩ = some (.slice (some ⟨b2, o2, none⟩) nl ld) := (hb.cell (p := ⟨Y, 2, none⟩) (lt_laid HY.out)).trans d2
        have HBR := hid hb
        by_cases hcd : nc = nd
        · subst hcd
          have hne : (((nc : Nat) : Int) != ((nc : Nat) : Int)) = false := by simp
          clear hvk huk hck hdk hLv hLu hnc hnd hc1 hc2 hb
          go_wp2
          obtain ⟨G, hG⟩ : ∃ G, gk - 1 = G := ⟨_, rfl⟩
          have HG := hid hG
          clear hG
          go_loopg [60] nc (fun g i V2 => ∃ j : Nat, g + j = nc ∧ i = .int .i64 (j : Nat) ∧ Hid (cs.take j = ds.take j) ∧ Below wA.heap.size wA V2)
          case atStart => exact ⟨0, rfl, rfl, rfl, HBR.out⟩
          case round =>
            obtain ⟨j, hj, rfl, hcs, hbj⟩ := hrel
            have HJ := hid hj
            clear hj f1 f2 e2
            by_cases hlj : j < nc
            · obtain ⟨x, hxk⟩ : ∃ x, cs[j]? = some x := ⟨_, List.getElem?_eq_getElem (by rw [HNC.out]; exact hlj)⟩
              obtain ⟨y, hyk⟩ : ∃ x, ds[j]? = some x := ⟨_, List.getElem?_eq_getElem (by rw [HND.out]; exact hlj)⟩
              have hX5 : ∀ q ∈ cs, q.length = 5 := fun q hq => HS.out.five cs (List.mem_of_getElem? HCK.out) q hq
              have hY5 : ∀ q ∈ ds, q.length = 5 := fun q hq => HT.out.five ds (List.mem_of_getElem? HDK.out) q hq
              have hxb : ∀ v ∈ x, v < 18446744073709551616 := HS.out.word cs (List.mem_of_getElem? HCK.out) x (List.mem_of_getElem? hxk)
              have hyb : ∀ v ∈ y, v < 18446744073709551616 := HT.out.word ds (List.mem_of_getElem? HDK.out) y (List.mem_of_getElem? hyk)
              have hwx : ∃ b off, va = some ⟨b, off, none⟩ ∧ ∀ (V : World), Below wA.heap.size wA V → ∀ i v, x[i]? = some v → V.cell? ⟨b, off + j * 5 + i, none⟩ = some (.int .u64 ((v : Nat) : Int)) := by
                obtain ⟨_, _, ⟨h0, _⟩ | ⟨b, off, ea, hlt, hc⟩⟩ := HLV.out
                · omega
                · exact ⟨b, off, ea, fun V hV i v hi => (hV.cell (p := ⟨b, off + j * 5 + i, none⟩) hlt).trans (by rw [Nat.add_assoc]; exact hc _ _ (wflat_at hX5 hxk hi))⟩
              have hwy : ∃ b off, ua = some ⟨b, off, none⟩ ∧ ∀ (V : World), Below wA.heap.size wA V → ∀ i v, y[i]? = some v → V.cell? ⟨b, off + j * 5 + i, none⟩ = some (.int .u64 ((v : Nat) : Int)) := by
                obtain ⟨_, _, ⟨h0, _⟩ | ⟨b, off, ea, hlt, hc⟩⟩ := HLU.out
                · omega
                · exact ⟨b, off, ea, fun V hV i v hi => (hV.cell (p := ⟨b, off + j * 5 + i, none⟩) hlt).trans (by rw [Nat.add_assoc]; exact hc _ _ (wflat_at hY5 hyk hi))⟩
              obtain ⟨b, off, rfl, hcx⟩ := hwx
              obtain ⟨b', off', rfl, hcy⟩ := hwy
              obtain ⟨x0, x1, x2, x3, x4, rfl⟩ := five_ex (hX5 x (List.mem_of_getElem? hxk))
              obtain ⟨y0, y1, y2, y3, y4, rfl⟩ := five_ex (hY5 y (List.mem_of_getElem? hyk))
              have p0 : wr.cell? ⟨b, off + j * 5, none⟩ = some (.int .u64 ((x0 : Nat) : Int)) := hcx _ hbj 0 x0 rfl
              have p1 : wr.cell? ⟨b, off + j * 5 + 1, none⟩ = some (.int .u64 ((x1 : Nat) : Int)) := hcx _ hbj 1 x1 rfl
              have p2 : wr.cell? ⟨b, off + j * 5 + 2, none⟩ = some (.int .u64 ((x2 : Nat) : Int)) := hcx _ hbj 2 x2 rfl
              have p3 : wr.cell? ⟨b, off + j * 5 + 3, none⟩ = some (.int .u64 ((x3 : Nat) : Int)) := hcx _ hbj 3 x3 rfl
              have p4 : wr.cell? ⟨b, off + j * 5 + 4, none⟩ = some (.int .u64 ((x4 : Nat) : Int)) := hcx _ hbj 4 x4 rfl
              obtain ⟨w4, hw4, hb4, hs4, hl4⟩ := laid wr #[.int .u64 ((x0 : Nat) : Int), .int .u64 ((x1 : Nat) : Int), .int .u64 ((x2 : Nat) : Int), .int .u64 ((x3 : Nat) : Int), .int .u64 ((x4 : Nat) : Int)] 53
              obtain ⟨Q, hQ⟩ : ∃ Q, wr.heap.size = Q := ⟨_, rfl⟩
              rw [hQ] at hl4 hs4
              have HQ4 := hid hl4
              have hB4 := step hbj hb4
              have g0 : ∀ z : Ext w4, z.v.cell? ⟨b', off' + j * 5, none⟩ = some (.int .u64 ((y0 : Nat) : Int)) := fun z => hcy z.v (step hB4 z.b) 0 y0 rfl
              have g1 : ∀ z : Ext w4, z.v.cell? ⟨b', off' + j * 5 + 1, none⟩ = some (.int .u64 ((y1 : Nat) : Int)) := fun z => hcy z.v (step hB4 z.b) 1 y1 rfl
              have g2 : ∀ z : Ext w4, z.v.cell? ⟨b', off' + j * 5 + 2, none⟩ = some (.int .u64 ((y2 : Nat) : Int)) := fun z => hcy z.v (step hB4 z.b) 2 y2 rfl
              have g3 : ∀ z : Ext w4, z.v.cell? ⟨b', off' + j * 5 + 3, none⟩ = some (.int .u64 ((y3 : Nat) : Int)) := fun z => hcy z.v (step hB4 z.b) 3 y3 rfl
              have g4 : ∀ z : Ext w4, z.v.cell? ⟨b', off' + j * 5 + 4, none⟩ = some (.int .u64 ((y4 : Nat) : Int)) := fun z => hcy z.v (step hB4 z.b) 4 y4 rfl
              have m0 : ∀ z : Ext w4, z.v.cell? ⟨Q, 0, none⟩ = some (.int .u64 ((x0 : Nat) : Int)) := fun z => cell_laid (keep_laid HQ4.out z.b) rfl
              have m1 : ∀ z : Ext w4, z.v.cell? ⟨Q, 1, none⟩ = some (.int .u64 ((x1 : Nat) : Int)) := fun z => cell_laid (keep_laid HQ4.out z.b) rfl
              have m2 : ∀ z : Ext w4, z.v.cell? ⟨Q, 2, none⟩ = some (.int .u64 ((x2 : Nat) : Int)) := fun z => cell_laid (keep_laid HQ4.out z.b) rfl
              have m3 : ∀ z : Ext w4, z.v.cell? ⟨Q, 3, none⟩ = some (.int .u64 ((x3 : Nat) : Int)) := fun z => cell_laid (keep_laid HQ4.out z.b) rfl
              have m4 : ∀ z : Ext w4, z.v.cell? ⟨Q, 4, none⟩ = some (.int .u64 ((x4 : Nat) : Int)) := fun z => cell_laid (keep_laid HQ4.out z.b) rfl
              have q2 : ∀ z : Ext w4, z.v.cell? ⟨Y, 2, none⟩ = some (.slice (some ⟨b2, o2, none⟩) nl ld) := fun z => ((step hB4 z.b).cell (p := ⟨Y, 2, none⟩) (lt_laid HY.out)).trans d2
              have f2 : ∀ z : Ext w4, z.v.cell? ⟨b2, o2 + k, none⟩ = some (.slice (some ⟨b', off', none⟩) nc uc) := fun z => HC2.out z.v (step hB4 z.b)
              have heq : ∀ V : World, (Op.equalIn 10000 53 (.agg #[.int .u64 ((x0 : Nat) : Int), .int .u64 ((x1 : Nat) : Int), .int .u64 ((x2 : Nat) : Int), .int .u64 ((x3 : Nat) : Int), .int .u64 ((x4 : Nat) : Int)]) (.agg #[.int .u64 ((y0 : Nat) : Int), .int .u64 ((y1 : Nat) : Int), .int .u64 ((y2 : Nat) : Int), .int .u64 ((y3 : Nat) : Int), .int .u64 ((y4 : Nat) : Int)])).run Tryd.prog V = .ok (decide ([x0, x1, x2, x3, x4] = [y0, y1, y2, y3, y4])) V := fun V => call_eq _ _ rfl rfl hxb hyb V
              obtain ⟨E, hE⟩ : ∃ E, decide ([x0, x1, x2, x3, x4] = [y0, y1, y2, y3, y4]) = E := ⟨_, rfl⟩
              rw [hE] at heq
              have HB4 := hid hB4
              go_upto_region 11 with (fail)
              by_cases he : [x0, x1, x2, x3, x4] = [y0, y1, y2, y3, y4]
              · have HTK := hid (eq_take _ _ j _ _ hcs.out hxk hyk he)
                have hEt : E = true := by rw [← hE]; exact decide_eq_true he
                subst hEt
                clear hcx hcy hxk hyk hcs hE he hX5 hY5 hxb hyb hl4 hb4 hbj hB4 p0 p1 p2 p3 p4
                refine wp_region_ext (by kernel_rfl) (by kernel_rfl) ?_
                repeat (go_big_quiet_step (fail))
                refine wpQuiet_nil ?_
                rintro _ ⟨⟨w5, hb5⟩, rfl⟩
                go_wp2
                go_roundg (gk - 1)
                case measure => have := HJ.out; omega
                case rel => exact ⟨j + 1, by have := HJ.out; omega, by go_num, HTK, step HB4.out hb5⟩
              · have HNE := hid (ne_at _ _ j _ _ hxk hyk he)
                have hEf : E = false := by rw [← hE]; exact decide_eq_false he
                subst hEf
                clear hcx hcy hxk hyk hcs hE he hX5 hY5 hxb hyb hl4 hb4 hbj hB4 p0 p1 p2 p3 p4
                have HE : Hid (V = false) := hid (by
                  rw [← HV2.out]
                  have : ls ≠ ls' := ne_at ls ls' k cs ds HCK.out HDK.out HNE.out
                  rw [decide_eq_false this]; rfl)
                refine wp_region_ext (by kernel_rfl) (by kernel_rfl) ?_
                repeat (go_big_quiet_step (fail))
                refine wpQuiet_nil ?_
                rintro _ ⟨⟨w5, hb5⟩, rfl⟩
                go_wp2
                go_ret
                exact ⟨retb HE.out.symm, step HB02.out (step HB4.out hb5)⟩
            · have e := HJ.out
              obtain rfl : j = nc := by omega
              have HCD : Hid (cs = ds) := hid (by
                have := hcs.out
                rwa [List.take_of_length_le (by rw [HNC.out]; exact Nat.le_refl _), List.take_of_length_le (by rw [HND.out]; exact Nat.le_refl _)] at this)
              have HTK := hid (eq_take _ _ k _ _ hs.out HCK.out HDK.out HCD.out)
              have HBJ := hid hbj
              clear hcs e HJ hbj
              go_wp2
              go_roundg G
              case measure => have := HG.out; have := HK.out; omega
              case rel => exact ⟨k + 1, by have := HG.out; have := HK.out; omega, by go_num, HTK, HBJ.out⟩
        · have hne : (((nc : Nat) : Int) != ((nd : Nat) : Int)) = true := by simp; omega
          have HE : Hid (V = false) := hid (by
            rw [← HV2.out]
            have : ls ≠ ls' := ne_at ls ls' k cs ds hck hdk (fun e => hcd (by rw [← hnc, ← hnd, e]))
            rw [decide_eq_false this]; rfl)
          clear hvk huk hck hdk hLv hLu hnc hnd hc1 hc2 hb
          go_wp2
          go_ret
          exact ⟨retb HE.out.symm, step HB02.out HBR.out⟩
      · have e := HK.out
        obtain rfl : k = nl := by omega
        have HLL : Hid (ls = ls') := hid (by
          have := hs.out
          rwa [List.take_of_length_le (by rw [HNL.out]; exact Nat.le_refl _), List.take_of_length_le (by rw [HML.out]; exact Nat.le_refl _)] at this)
        have g3 : wr.cell? ⟨X, 3, none⟩ = some (.slice pa np pc) := (hb.cell (p := ⟨X, 3, none⟩) (lt_laid HX.out)).trans a3
        have g4 : wr.cell? ⟨Y, 3, none⟩ = some (.slice pb np pd) := (hb.cell (p := ⟨Y, 3, none⟩) (lt_laid HY.out)).trans d3
        have HBR := hid hb
        clear hs e HK hb
        go_wp2
        go_loopg [80] np (fun g i V2 => ∃ j : Nat, g + j = np ∧ i = .int .i64 (j : Nat) ∧ Hid (ps.take j = ps'.take j) ∧ V2 = wr)
        case atStart => exact ⟨0, rfl, rfl, rfl, rfl⟩
        case round =>
          obtain ⟨j, hj, rfl, hps2, hwr⟩ := hrel
          have HJ := hid hj
          clear hj
          subst hwr
          by_cases hlj : j < np
          · obtain ⟨z, hz⟩ : ∃ z, ps[j]? = some z := ⟨_, List.getElem?_eq_getElem (by rw [HNP.out]; exact hlj)⟩
            obtain ⟨y, hy⟩ : ∃ z, ps'[j]? = some z := ⟨_, List.getElem?_eq_getElem (by rw [HMP.out]; exact hlj)⟩
            obtain ⟨b, off, rfl, -, hc⟩ := HPA.out.at hlj (icells_at2 hz)
            obtain ⟨b', off', rfl, -, hc'⟩ := HPB.out.at hlj (icells_at2 hy)
            have f1 := hc _ HBR.out
            have f2 := hc' _ HBR.out
            by_cases he : z = y
            · have HTK := hid (eq_take _ _ j _ _ hps2.out hz hy he)
              subst he
              have hq : (z != z) = false := by simp
              clear hc hc' hz hy hps2
              go_wp2
              go_roundg (gk - 1)
              case measure => have := HJ.out; omega
              case rel => exact ⟨j + 1, by have := HJ.out; omega, by go_num, HTK, rfl⟩
            · have HE : Hid (V = false) := hid (by
                rw [← HV2.out]
                have : ps ≠ ps' := ne_at ps ps' j z y hz hy he
                rw [decide_eq_false this, Bool.and_false])
              have hq : (z != y) = true := by simpa using he
              clear hc hc' hz hy hps2
              go_wp2
              go_ret
              exact ⟨retb HE.out.symm, step HB02.out HBR.out⟩
          · have e := HJ.out
            obtain rfl : j = np := by omega
            have HE : Hid (V = true) := hid (by
              have h1 := hps2.out
              rw [List.take_of_length_le (by rw [HNP.out]; exact Nat.le_refl _), List.take_of_length_le (by rw [HMP.out]; exact Nat.le_refl _)] at h1
              rw [← HV2.out, decide_eq_true HLL.out, decide_eq_true h1]; rfl)
            clear hps2 e HJ
            go_wp2
            go_ret
            exact ⟨retb HE.out.symm, step HB02.out HBR.out⟩
end Go.Proofs.YtpehnahmdfoobaaDoor
