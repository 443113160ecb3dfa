/- The document's Exit (printed by gen_pr18.py). -/
import Derived.Test.YtmnbkhmphhgdiaaDoorPr17
namespace Go.Proofs.YtmnbkhmphhgdiaaDoor
open Go.RowKit Go.Shelf
open Go.Proofs
set_option linter.unusedVariables false
attribute [local go_sem] Oper.semAt_some
theorem rexit_result {W : World} {b6 : Nat} {v6_0 v6_1 v6_2 v6_3 v6_4 v6_5 v6_6 v6_7 v6_8 v6_9 v6_10 v6_11 v6_12 v6_13 v6_14 v6_15 v6_16 u7 : Value} {tmps : Array Value} (h6 : W.heap[b6]? = some (.cells #[v6_0, v6_1, v6_2, v6_3, v6_4, v6_5, v6_6, v6_7, v6_8, v6_9, v6_10, v6_11, v6_12, v6_13, v6_14, v6_15, v6_16] 25 (0, 0))) (q6 : tmps[6]?.getD undef = .pointer (some ⟨b6, 0, none⟩)) (q7 : tmps[7]?.getD undef = u7) :
    (results Tryd.f13 tmps).run Tryd.prog W = .ok (.tuple #[.agg #[v6_0, v6_1, v6_2, v6_3, v6_4, v6_5, v6_6, v6_7, v6_8, v6_9, v6_10, v6_11, v6_12, v6_13, v6_14, v6_15, v6_16], u7]) W := by
  have e6_0 := cell_laid (i := 0) (v := v6_0) h6 rfl
  have e6_1 := cell_laid (i := 1) (v := v6_1) h6 rfl
  have e6_2 := cell_laid (i := 2) (v := v6_2) h6 rfl
  have e6_3 := cell_laid (i := 3) (v := v6_3) h6 rfl
  have e6_4 := cell_laid (i := 4) (v := v6_4) h6 rfl
  have e6_5 := cell_laid (i := 5) (v := v6_5) h6 rfl
  have e6_6 := cell_laid (i := 6) (v := v6_6) h6 rfl
  have e6_7 := cell_laid (i := 7) (v := v6_7) h6 rfl
  have e6_8 := cell_laid (i := 8) (v := v6_8) h6 rfl
  have e6_9 := cell_laid (i := 9) (v := v6_9) h6 rfl
  have e6_10 := cell_laid (i := 10) (v := v6_10) h6 rfl
  have e6_11 := cell_laid (i := 11) (v := v6_11) h6 rfl
  have e6_12 := cell_laid (i := 12) (v := v6_12) h6 rfl
  have e6_13 := cell_laid (i := 13) (v := v6_13) h6 rfl
  have e6_14 := cell_laid (i := 14) (v := v6_14) h6 rfl
  have e6_15 := cell_laid (i := 15) (v := v6_15) h6 rfl
  have e6_16 := cell_laid (i := 16) (v := v6_16) h6 rfl
  simp [results, Tryd.results13, go_sem, e6_0, e6_1, e6_2, e6_3, e6_4, e6_5, e6_6, e6_7, e6_8, e6_9, e6_10, e6_11, e6_12, e6_13, e6_14, e6_15, e6_16, q6, q7]
theorem fm_none {f : Pr → Option Pr} {L : List Pr} {k : Nat} {x : Pr} (h : L[k]? = some x) (hq : f x = none) : (L.take (k + 1)).filterMap f = (L.take k).filterMap f := by
  rw [take_pr h, List.filterMap_append, List.filterMap_cons, hq, List.filterMap_nil, List.append_nil]
theorem fm_some {f : Pr → Option Pr} {L : List Pr} {k : Nat} {x y : Pr} (h : L[k]? = some x) (hq : f x = some y) : (L.take (k + 1)).filterMap f = (L.take k).filterMap f ++ [y] := by
  rw [take_pr h, List.filterMap_append, List.filterMap_cons, hq]
  rfl
set_option maxRecDepth 100000 in
set_option maxHeartbeats 16000000 in
theorem rExit_any (n c pid code : Nat) (a : Option Addr) (G : Nat → Int) (L : List Pr) (V : World) (hl : Leads V a n c (prcells L)) (hn : L.length = n) (hn5 : n ≤ 1000) (hL : PrsOk L) :
    Calls Tryd.prog 13 #[.agg #[.int .i64 (G 0), .int .i64 (G 1), .int .i64 (G 2), .int .i64 (G 3), .int .i64 (G 4), .int .i64 (G 5), .int .i64 (G 6), .int .i64 (G 7), .int .i64 (G 8), .int .i64 (G 9), .int .i64 (G 10), .int .i64 (G 11), .int .i64 (G 12), .int .i64 (G 13), .int .i64 (G 14), .int .i64 (G 15), .slice a n c], .int .u64 ((pid : Nat) : Int), .int .u64 ((code : Nat) : Int)] V (Gives2 V (exitP G L pid code)) := by
  obtain ⟨V1, hV1, hbV1, hsV1, hlV1⟩ := laid V #[.int .i64 (G 0), .int .i64 (G 1), .int .i64 (G 2), .int .i64 (G 3), .int .i64 (G 4), .int .i64 (G 5), .int .i64 (G 6), .int .i64 (G 7), .int .i64 (G 8), .int .i64 (G 9), .int .i64 (G 10), .int .i64 (G 11), .int .i64 (G 12), .int .i64 (G 13), .int .i64 (G 14), .int .i64 (G 15), .slice a n c] 25
  obtain ⟨V2, hV2, hbV2, hsV2, hlV2⟩ := laid V1 #[.int .i64 0, .int .i64 0, .int .i64 0, .int .i64 0, .int .i64 0, .int .i64 0, .int .i64 0, .int .i64 0, .int .i64 0, .int .i64 0, .int .i64 0, .int .i64 0, .int .i64 0, .int .i64 0, .int .i64 0, .int .i64 0, .slice none 0 0] 25
  obtain ⟨X3, hX3⟩ : ∃ X, V.heap.size = X := ⟨_, rfl⟩
  rw [hX3] at hlV1
  obtain ⟨X6, hX6⟩ : ∃ X, V1.heap.size = X := ⟨_, rfl⟩
  rw [hX6] at hlV2
  have KX3 := hid (keep_laid hlV1 hbV2)
  have KX6 := hid hlV2
  have HB := hid (step hbV1 hbV2)
  have hVX3 : V.heap.size ≤ X3 := by omega
  have hVX6 : V.heap.size ≤ X6 := by omega
  have nX3X6 : X3 < X6 := by omega
  clear hbV1 hsV1 hlV1 hbV2 hsV2 hlV2
  have HL := hid hl
  have HN := hid hn
  have hlen := hl.len
  obtain ⟨B0, hB0⟩ : ∃ b, V2.heap.size = b := ⟨_, rfl⟩
  obtain ⟨RES, hRES⟩ : ∃ r, exitP G L pid code = r := ⟨_, rfl⟩
  rw [hRES]
  have HRES : Hid (exitP G L pid code = RES) := hid hRES
  clear hRES
  have HRU := hid (rRuns_any n c pid a L V2 (hl.grow HB.out) hn hn5)
  have h3B : X3 < B0 := by have := lt_laid KX3.out; omega
  have h6B : X6 < B0 := by have := lt_laid KX6.out; omega
  have hVB : V.heap.size ≤ B0 := by have := HB.out.size; omega
  have HB0 := hid hB0
  clear hl hn hL hB0
  go_enter Tryd.func13, Tryd.ntmps13
  have x16 := cell_laid (i := 16) KX3.out rfl
  cases hr : runsB L pid with
  | false =>
    rw [hr] at HRU
    have HR := hid hr
    clear hr
    go_wp2_with fail
    refine (HRU.out).mono ?_
    rintro e w1_64 ⟨rfl, hbn⟩
    have KX3_1 := hid (keep_laid KX3.out hbn)
    have KX6_2 := hid (keep_laid KX6.out hbn)
    have HB_3 := hid (HB.out.trans (hbn.mono HB.out.size))
    clear KX3 KX6 HB hbn HRU x16 hX3 hX6 hV1 hV2
    go_wp2_with (refine wp_storeW rfl 25 (.tmp 6) (.tmp 16) rfl X6 _ _ rfl rfl _ KX6_2.out (by kernel_rfl) (by rfl) (by simp [Value.oneCell']) ?_; intro u9 a1 a2 a3 a4; have HA1 := hid a1; have HA3 := hid a3; clear a1 a2 a3 a4)
    have HB9 := hid (HA3.out _ _ (by omega) HB_3.out)
    have e := HRES.out
    unfold exitP at e
    rw [if_neg (by rw [HR.out]; decide)] at e
    subst e
    refine bodyPost_ret (rexit_result HA1.out rfl rfl) rfl ⟨HB9.out, rfl⟩
  | true =>
    rw [hr] at HRU
    have HR := hid hr
    clear hr
    go_wp2_with fail
    refine (HRU.out).mono ?_
    rintro e w1_82 ⟨rfl, hbn⟩
    have KX3_1 := hid (keep_laid KX3.out hbn)
    have KX6_2 := hid (keep_laid KX6.out hbn)
    have HB_3 := hid (HB.out.trans (hbn.mono HB.out.size))
    clear KX3 KX6 HB hbn HRU x16 hX3 hX6 hV1 hV2
    by_cases h1 : pid = 1
    · have u1 : (((pid : Nat) : Int) == 1) = true := by simp; omega
      have H1 := hid h1
      clear h1
      go_wp2_with (refine wp_storeW rfl 25 (.tmp 6) (.tmp 19) rfl X6 _ _ rfl rfl _ KX6_2.out (by kernel_rfl) (by rfl) (by simp [Value.oneCell']) ?_; intro u9 a1 a2 a3 a4; have HA1 := hid a1; have HA3 := hid a3; clear a1 a2 a3 a4)
      have HB9 := hid (HA3.out _ _ (by omega) HB_3.out)
      have e := HRES.out
      unfold exitP at e
      rw [if_pos HR.out, if_pos H1.out] at e
      subst e
      refine bodyPost_ret (rexit_result HA1.out rfl rfl) rfl ⟨HB9.out, rfl⟩
    · have u1 : (((pid : Nat) : Int) == 1) = false := by simp; omega
      have H1 := hid h1
      clear h1
      obtain ⟨B1, hB1⟩ : ∃ b, w1_82.heap.size = b := ⟨_, rfl⟩
      have h3B1 : X3 < B1 := by have := lt_laid KX3_1.out; omega
      have h6B1 : X6 < B1 := by have := lt_laid KX6_2.out; omega
      have hVB1 : V.heap.size ≤ B1 := by have := HB_3.out.size; omega
      have HB1 := hid hB1
      clear hB1
      have x16 := cell_laid (i := 16) KX3_1.out rfl
      go_wp2
      clear x16
      obtain ⟨F, hF⟩ : ∃ f : Pr → Option Pr, f = exitF pid code := ⟨_, rfl⟩
      have HF := hid hF
      clear hF
      go_loopg [23, 10, 8, 31, 51, 63] n (fun g ti tb t5 ta tc td wr => ∃ (k m : Nat) (vb v5 v31 v51 v63 : Value), g + k = n ∧ ti = .int .i64 ((k : Nat) : Int) ∧ tb = vb ∧ t5 = v5 ∧ ta = v31 ∧ tc = v51 ∧ td = v63 ∧ m ≤ k ∧ Hid (((L.take k).filterMap F).length = m) ∧ Hid (wr.ownsRow B1 45 4 v5 m (prcells ((L.take k).filterMap F))) ∧ Hid (wr.heap[X3]? = some (.cells #[.int .i64 (G 0), .int .i64 (G 1), .int .i64 (G 2), .int .i64 (G 3), .int .i64 (G 4), .int .i64 (G 5), .int .i64 (G 6), .int .i64 (G 7), .int .i64 (G 8), .int .i64 (G 9), .int .i64 (G 10), .int .i64 (G 11), .int .i64 (G 12), .int .i64 (G 13), .int .i64 (G 14), .int .i64 (G 15), .slice a n c] 25 (0, 0))) ∧ Hid (wr.heap[X6]? = some (.cells #[.int .i64 0, .int .i64 0, .int .i64 0, .int .i64 0, .int .i64 0, .int .i64 0, .int .i64 0, .int .i64 0, .int .i64 0, .int .i64 0, .int .i64 0, .int .i64 0, .int .i64 0, .int .i64 0, .int .i64 0, .int .i64 0, .slice none 0 0] 25 (0, 0))) ∧ Hid (Below V.heap.size V wr) ∧ B1 ≤ wr.heap.size)
      case atStart => exact ⟨0, 0, _, _, _, _, _, rfl, rfl, rfl, rfl, rfl, rfl, rfl, Nat.le_refl _, hid rfl, hid (World.ownsRow_nil _ _ _ _), KX3_1, KX6_2, HB_3, Nat.le_of_eq HB1.out.symm⟩
      case round =>
        clear KX3_1 KX6_2 HB_3
        obtain ⟨k, m, vb, v5, v31, v51, v63, hk, rfl, hvb, hv5, hv31, hv51, hv63, hmk, HM, HRO, KX3, KX6, HB, hBw⟩ := hrel
        obtain ⟨va, vc, rfl, -⟩ := Leads.of_own HRO.out
        have hlm := (Leads.of_own1 HRO.out).len
        subst hvb hv5 hv31 hv51 hv63
        have HK := hid hk
        clear hk
        by_cases hlt : k < n
        · obtain ⟨⟨x0, x1, x2, x3⟩, hx⟩ : ∃ x, L[k]? = some x := ⟨_, List.getElem?_eq_getElem (by rw [HN.out]; exact hlt)⟩
          obtain ⟨b, off, rfl, -, hcx⟩ := HL.out.pr hlt hx
          obtain ⟨f0, f1, f2, f3⟩ := hcx wr HB.out
          have HX := hid hx
          dsimp only at f0 f1 f2 f3
          clear hcx hx
          have LTX10_HRO := hid (fun k hk => own_lt HRO.out k hk)
          obtain ⟨w2_135, hw2_135, hbn, hsn, hln⟩ := laid wr #[.int .u64 0, .int .u64 0, .bool false, .int .u64 0] 45
          obtain ⟨X10, hNMX10⟩ : ∃ X, wr.heap.size = X := ⟨_, rfl⟩
          rw [hNMX10] at hln
          have nX3X10 : X3 < X10 := by have := lt_laid KX3.out; omega
          have nX6X10 : X6 < X10 := by have := lt_laid KX6.out; omega
          have hVX10 : V.heap.size ≤ X10 := by have := HB.out.size; omega
          have KX3_4 := hid (keep_laid KX3.out hbn)
          have KX6_5 := hid (keep_laid KX6.out hbn)
          have HB_6 := hid (HB.out.trans (hbn.mono HB.out.size))
          have HRO_7 := hid (own_grow HRO.out hbn)
          clear KX3 KX6 HB HRO hbn hsn
          have KX10_8 := hid (hln)
          clear hln
          rw [hNMX10] at LTX10_HRO
          have KX10_8_o := KX10_8.out
          obtain ⟨u3_150, hu3_150, a1, a2, a3, a4⟩ := putN4 KX10_8.out (.int .u64 ((x0 : Nat) : Int)) (.int .u64 ((x1 : Nat) : Int)) (.bool x2) (.int .u64 ((x3 : Nat) : Int))
          obtain ⟨z0, zf0, z1, zf1, z2, zf2, z3, zf3⟩ := fcl4 (KX10_8.out)
          have E4_150 := hid hu3_150
          have KX3_9 := hid (a2 X3 _ (by omega) KX3_4.out)
          have KX6_10 := hid (a2 X6 _ (by omega) KX6_5.out)
          have HB_11 := hid (a3 _ _ (by omega) HB_6.out)
          have HRO_12 := hid (own_keep HRO_7.out fun k o hk ho => a2 k o (by have := LTX10_HRO.out k hk; omega) ho)
          have KX10_13 := hid (a1)
          clear KX3_4 KX6_5 HB_6 HRO_7 KX10_8 hu3_150 a1 a2 a3 a4
          clear KX10_8_o
          have hBu : B1 ≤ u3_150.heap.size := by have := lt_laid KX10_13.out; omega
          go_upto_region 10 with (fail)
          rw [← E4_150.out]
          clear z0 z1 z2 z3 zf0 zf1 zf2 zf3 hNMX10 hw2_135 f0 f1 f2 f3
          obtain ⟨z0, z1, z2, z3⟩ := ncl4 (KX10_13.out)
          have HFX : Hid (F (x0, x1, x2, x3) = if (decide (x0 = pid) && decide (x1 = 0)) || (decide (x1 = pid) && x2) then none else if x0 = pid then some (x0, x1, true, code) else if x1 = pid then some (x0, 0, x2, x3) else some (x0, x1, x2, x3)) := hid (by rw [HF.out]; rfl)
          obtain ⟨A, hA⟩ : ∃ b, (((x0 : Nat) : Int) == ((pid : Nat) : Int)) = b := ⟨_, rfl⟩
          obtain ⟨B, hB⟩ : ∃ b, (((x1 : Nat) : Int) == 0) = b := ⟨_, rfl⟩
          obtain ⟨C, hC⟩ : ∃ b, (((x1 : Nat) : Int) == ((pid : Nat) : Int)) = b := ⟨_, rfl⟩
          have HA : Hid (decide (x0 = pid) = A) := hid (by rw [← hA, Bool.eq_iff_iff]; simp; omega)
          have HBB : Hid (decide (x1 = 0) = B) := hid (by rw [← hB, Bool.eq_iff_iff]; simp)
          have HC : Hid (decide (x1 = pid) = C) := hid (by rw [← hC, Bool.eq_iff_iff]; simp; omega)
          obtain ⟨DR, hDR⟩ : ∃ b, ((A && B) || (C && x2)) = b := ⟨_, rfl⟩
          have HDR := hid hDR
          cases DR with
          | true =>
            have HT : Hid (F (x0, x1, x2, x3) = none) := hid (by rw [HFX.out, HA.out, HBB.out, HC.out, hDR]; rfl)
            clear HA HBB HC HDR
            cases A <;> cases B <;> cases C <;> cases x2 <;> first | (exact absurd hDR (by decide)) | (clear hDR; go_wp2; go_roundg (gk - 1); (case measure => have := HK.out; omega); (case rel => exact ⟨k + 1, m, _, _, _, _, _, by have := HK.out; omega, by go_num, rfl, rfl, rfl, rfl, rfl, by omega, hid (by rw [fm_none HX.out HT.out]; exact HM.out), hid (by rw [fm_none HX.out HT.out]; exact HRO_12.out), KX3_9, KX6_10, HB_11, hBu⟩))
          | false =>
            cases A with
            | true =>
              have hx0 : x0 = pid := of_decide_eq_true HA.out
              have HT : Hid (F (x0, x1, x2, x3) = some (x0, x1, true, code)) := hid (by rw [HFX.out, HA.out, HBB.out, HC.out, hDR, if_neg (by decide), if_pos hx0])
              clear hx0 HBB HC HDR
              have zf2 := free_laid (i := 2) KX10_13.out
              have zf3 := free_laid (i := 3) KX10_13.out
              obtain ⟨u5_187, hu5_187⟩ : ∃ u, (World.setCell (World.setCell u3_150 ⟨X10, 2, none⟩ (.bool true)) ⟨X10, 3, none⟩ (.int .u64 ((code : Nat) : Int))) = u := ⟨_, rfl⟩
              have Eu5_187 := hid hu5_187
              have KX3_14 := hid ((other_laid (other_laid KX3_9.out (show X3 ≠ X10 by omega) (.bool true) (i := 2)) (show X3 ≠ X10 by omega) (.int .u64 ((code : Nat) : Int)) (i := 3)))
              rw [hu5_187] at KX3_14
              have KX6_15 := hid ((other_laid (other_laid KX6_10.out (show X6 ≠ X10 by omega) (.bool true) (i := 2)) (show X6 ≠ X10 by omega) (.int .u64 ((code : Nat) : Int)) (i := 3)))
              rw [hu5_187] at KX6_15
              have HB_16 := hid (((HB_11.out.setCell (p := ⟨X10, 2, none⟩) (by show _ ≤ X10; omega) (.bool true)).setCell (p := ⟨X10, 3, none⟩) (by show _ ≤ X10; omega) (.int .u64 ((code : Nat) : Int))))
              rw [hu5_187] at HB_16
              have HRO_17 := hid (own_keep HRO_12.out fun k o hk ho => (other_laid (other_laid ho (show k ≠ X10 from by have := LTX10_HRO.out k hk; omega) (.bool true) (i := 2)) (show k ≠ X10 from by have := LTX10_HRO.out k hk; omega) (.int .u64 ((code : Nat) : Int)) (i := 3)))
              rw [hu5_187] at HRO_17
              have KX10_18 : Hid (u5_187.heap[X10]? = some (.cells #[.int .u64 ((x0 : Nat) : Int), .int .u64 ((x1 : Nat) : Int), .bool true, .int .u64 ((code : Nat) : Int)] 45 (0, 0))) := hid (by rw [← hu5_187]; exact (set_laid (i := 3) (set_laid (i := 2) KX10_13.out (.bool true)) (.int .u64 ((code : Nat) : Int))))
              have hBs : B1 ≤ u5_187.heap.size := by rw [← Eu5_187.out]; simpa [World.setCell] using hBu
              clear hu5_187 KX3_9 KX6_10 HB_11 HRO_12 KX10_13
              have HB2 : Hid (B = false) := hid (by cases B; rfl; cases hDR)
              have hBf := HB2.out
              subst hBf
              cases C with
              | true =>
                obtain rfl : x2 = false := by cases x2; rfl; cases hDR
                clear hDR
                go_upto_region 13 with (fail)
                rw [Eu5_187.out]
                clear z0 z1 z2 z3 zf2 zf3
                obtain ⟨z0, z1, z2, z3⟩ := ncl4 (KX10_18.out)
                have LTAB_HRO := hid (fun k hk => own_lt HRO_17.out k hk)
                obtain ⟨w6_213, hw6_213, hbn, hsn, hln⟩ := laid u5_187 #[.int .u64 ((x0 : Nat) : Int), .int .u64 ((x1 : Nat) : Int), .bool true, .int .u64 ((code : Nat) : Int)] 45
                obtain ⟨AB, hNMAB⟩ : ∃ X, u5_187.heap.size = X := ⟨_, rfl⟩
                rw [hNMAB] at hln
                have nX3AB : X3 < AB := by have := lt_laid KX3_14.out; omega
                have nX6AB : X6 < AB := by have := lt_laid KX6_15.out; omega
                have nX10AB : X10 < AB := by have := lt_laid KX10_18.out; omega
                have hVAB : V.heap.size ≤ AB := by have := HB_16.out.size; omega
                have KX3_19 := hid (keep_laid KX3_14.out hbn)
                have KX6_20 := hid (keep_laid KX6_15.out hbn)
                have HB_21 := hid (HB_16.out.trans (hbn.mono HB_16.out.size))
                have HRO_22 := hid (own_grow HRO_17.out hbn)
                have KX10_23 := hid (keep_laid KX10_18.out hbn)
                clear KX3_14 KX6_15 HB_16 HRO_17 KX10_18 hbn hsn
                have KAB_24 := hid (hln)
                clear hln
                rw [hNMAB] at LTAB_HRO
                have hm6 : m ≤ 1000000 := by omega
                have hV6 : B1 ≤ w6_213.heap.size := by have := lt_laid KAB_24.out; have := HB_21.out.size; omega
                go_wp2_with ((with_reducible show wpList _ _ _ _ _ _); refine wp_append1 elemPr rfl (.tmp 59) (.tmp 61) rfl B1 (.slice va m vc) m _ rfl HRO_22.out AB [.int .u64 ((x0 : Nat) : Int), .int .u64 ((x1 : Nat) : Int), .bool true, .int .u64 ((code : Nat) : Int)] rfl rfl ?c1 ?c2 hm6 hV6 ?c3)
                case c1 =>
                  intro i u hi
                  exact cell_laid KAB_24.out (by simpa using hi)
                case c2 => first | exact pr4_one (x0, x1, true, code) | exact ⟨rfl, rfl, rfl, rfl⟩
                case c3 =>
                  intro v' w7 hown' hb7 hg7
                  obtain ⟨a', cap', rfl, -⟩ := Leads.of_own hown'
                  have hl7 := (Leads.of_own1 hown').len
                  have HO7 : Hid (w7.ownsRow B1 45 4 (.slice a' (m + 1) cap') (m + 1) (prcells ((L.take k).filterMap F ++ [(x0, x1, true, code)]))) := hid (by rw [prcells_append]; exact hown')
                  have KX3_25 := hid (below_block hb7 h3B1 KX3_19.out)
                  have KX6_26 := hid (below_block hb7 h6B1 KX6_20.out)
                  have HB_27 := hid (HB_21.out.trans (hb7.mono hVB1))
                  have hB7 : B1 ≤ w7.heap.size := Nat.le_trans hV6 hg7
                  clear hown' hb7 hg7 hm6 hV6 KX3_19 KX6_20 HB_21 HRO_22 KX10_23 KAB_24
                  clear hNMAB hw6_213
                  go_wp2
                  go_roundg (gk - 1)
                  case measure => have := HK.out; omega
                  case rel => exact ⟨k + 1, m + 1, _, _, _, _, _, by have := HK.out; omega, by go_num, rfl, rfl, rfl, rfl, rfl, by omega, hid (by rw [fm_some HX.out HT.out, List.length_append, HM.out]; rfl), hid (by rw [fm_some HX.out HT.out]; exact HO7.out), KX3_25, KX6_26, HB_27, hB7⟩
              | false =>
                clear hDR
                go_upto_region 13 with (fail)
                rw [Eu5_187.out]
                clear z0 z1 z2 z3 zf2 zf3
                obtain ⟨z0, z1, z2, z3⟩ := ncl4 (KX10_18.out)
                have LTAB_HRO := hid (fun k hk => own_lt HRO_17.out k hk)
                obtain ⟨w6_258, hw6_258, hbn, hsn, hln⟩ := laid u5_187 #[.int .u64 ((x0 : Nat) : Int), .int .u64 ((x1 : Nat) : Int), .bool true, .int .u64 ((code : Nat) : Int)] 45
                obtain ⟨AB, hNMAB⟩ : ∃ X, u5_187.heap.size = X := ⟨_, rfl⟩
                rw [hNMAB] at hln
                have nX3AB : X3 < AB := by have := lt_laid KX3_14.out; omega
                have nX6AB : X6 < AB := by have := lt_laid KX6_15.out; omega
                have nX10AB : X10 < AB := by have := lt_laid KX10_18.out; omega
                have hVAB : V.heap.size ≤ AB := by have := HB_16.out.size; omega
                have KX3_19 := hid (keep_laid KX3_14.out hbn)
                have KX6_20 := hid (keep_laid KX6_15.out hbn)
                have HB_21 := hid (HB_16.out.trans (hbn.mono HB_16.out.size))
                have HRO_22 := hid (own_grow HRO_17.out hbn)
                have KX10_23 := hid (keep_laid KX10_18.out hbn)
                clear KX3_14 KX6_15 HB_16 HRO_17 KX10_18 hbn hsn
                have KAB_24 := hid (hln)
                clear hln
                rw [hNMAB] at LTAB_HRO
                have hm6 : m ≤ 1000000 := by omega
                have hV6 : B1 ≤ w6_258.heap.size := by have := lt_laid KAB_24.out; have := HB_21.out.size; omega
                go_wp2_with ((with_reducible show wpList _ _ _ _ _ _); refine wp_append1 elemPr rfl (.tmp 59) (.tmp 61) rfl B1 (.slice va m vc) m _ rfl HRO_22.out AB [.int .u64 ((x0 : Nat) : Int), .int .u64 ((x1 : Nat) : Int), .bool true, .int .u64 ((code : Nat) : Int)] rfl rfl ?c1 ?c2 hm6 hV6 ?c3)
                case c1 =>
                  intro i u hi
                  exact cell_laid KAB_24.out (by simpa using hi)
                case c2 => first | exact pr4_one (x0, x1, true, code) | exact ⟨rfl, rfl, rfl, rfl⟩
                case c3 =>
                  intro v' w7 hown' hb7 hg7
                  obtain ⟨a', cap', rfl, -⟩ := Leads.of_own hown'
                  have hl7 := (Leads.of_own1 hown').len
                  have HO7 : Hid (w7.ownsRow B1 45 4 (.slice a' (m + 1) cap') (m + 1) (prcells ((L.take k).filterMap F ++ [(x0, x1, true, code)]))) := hid (by rw [prcells_append]; exact hown')
                  have KX3_25 := hid (below_block hb7 h3B1 KX3_19.out)
                  have KX6_26 := hid (below_block hb7 h6B1 KX6_20.out)
                  have HB_27 := hid (HB_21.out.trans (hb7.mono hVB1))
                  have hB7 : B1 ≤ w7.heap.size := Nat.le_trans hV6 hg7
                  clear hown' hb7 hg7 hm6 hV6 KX3_19 KX6_20 HB_21 HRO_22 KX10_23 KAB_24
                  clear hNMAB hw6_258
                  go_wp2
                  go_roundg (gk - 1)
                  case measure => have := HK.out; omega
                  case rel => exact ⟨k + 1, m + 1, _, _, _, _, _, by have := HK.out; omega, by go_num, rfl, rfl, rfl, rfl, rfl, by omega, hid (by rw [fm_some HX.out HT.out, List.length_append, HM.out]; rfl), hid (by rw [fm_some HX.out HT.out]; exact HO7.out), KX3_25, KX6_26, HB_27, hB7⟩
            | false =>
              have hx0 : ¬ x0 = pid := of_decide_eq_false HA.out
              cases C with
              | true =>
                obtain rfl : x2 = false := by cases x2; rfl; cases B <;> cases hDR
                have hx1 : x1 = pid := of_decide_eq_true HC.out
                have HT : Hid (F (x0, x1, false, x3) = some (x0, 0, false, x3)) := hid (by rw [HFX.out, HA.out, HC.out, if_neg (by simp), if_neg hx0, if_pos hx1])
                clear hx0 hx1 HBB HDR hDR
                have zf1 := free_laid (i := 1) KX10_13.out
                obtain ⟨u5_305, hu5_305⟩ : ∃ u, (World.setCell u3_150 ⟨X10, 1, none⟩ (.int .u64 0)) = u := ⟨_, rfl⟩
                have Eu5_305 := hid hu5_305
                have KX3_14 := hid ((other_laid KX3_9.out (show X3 ≠ X10 by omega) (.int .u64 0) (i := 1)))
                rw [hu5_305] at KX3_14
                have KX6_15 := hid ((other_laid KX6_10.out (show X6 ≠ X10 by omega) (.int .u64 0) (i := 1)))
                rw [hu5_305] at KX6_15
                have HB_16 := hid ((HB_11.out.setCell (p := ⟨X10, 1, none⟩) (by show _ ≤ X10; omega) (.int .u64 0)))
                rw [hu5_305] at HB_16
                have HRO_17 := hid (own_keep HRO_12.out fun k o hk ho => (other_laid ho (show k ≠ X10 from by have := LTX10_HRO.out k hk; omega) (.int .u64 0) (i := 1)))
                rw [hu5_305] at HRO_17
                have KX10_18 : Hid (u5_305.heap[X10]? = some (.cells #[.int .u64 ((x0 : Nat) : Int), .int .u64 0, .bool false, .int .u64 ((x3 : Nat) : Int)] 45 (0, 0))) := hid (by rw [← hu5_305]; exact (set_laid (i := 1) KX10_13.out (.int .u64 0)))
                have hBs : B1 ≤ u5_305.heap.size := by rw [← Eu5_305.out]; simpa [World.setCell] using hBu
                clear hu5_305 KX3_9 KX6_10 HB_11 HRO_12 KX10_13
                go_upto_region 16 with (fail)
                rw [Eu5_305.out]
                clear z0 z1 z2 z3 zf1
                obtain ⟨z0, z1, z2, z3⟩ := ncl4 (KX10_18.out)
                have LTAB_HRO := hid (fun k hk => own_lt HRO_17.out k hk)
                obtain ⟨w6_323, hw6_323, hbn, hsn, hln⟩ := laid u5_305 #[.int .u64 ((x0 : Nat) : Int), .int .u64 0, .bool false, .int .u64 ((x3 : Nat) : Int)] 45
                obtain ⟨AB, hNMAB⟩ : ∃ X, u5_305.heap.size = X := ⟨_, rfl⟩
                rw [hNMAB] at hln
                have nX3AB : X3 < AB := by have := lt_laid KX3_14.out; omega
                have nX6AB : X6 < AB := by have := lt_laid KX6_15.out; omega
                have nX10AB : X10 < AB := by have := lt_laid KX10_18.out; omega
                have hVAB : V.heap.size ≤ AB := by have := HB_16.out.size; omega
                have KX3_19 := hid (keep_laid KX3_14.out hbn)
                have KX6_20 := hid (keep_laid KX6_15.out hbn)
                have HB_21 := hid (HB_16.out.trans (hbn.mono HB_16.out.size))
                have HRO_22 := hid (own_grow HRO_17.out hbn)
                have KX10_23 := hid (keep_laid KX10_18.out hbn)
                clear KX3_14 KX6_15 HB_16 HRO_17 KX10_18 hbn hsn
                have KAB_24 := hid (hln)
                clear hln
                rw [hNMAB] at LTAB_HRO
                have hm6 : m ≤ 1000000 := by omega
                have hV6 : B1 ≤ w6_323.heap.size := by have := lt_laid KAB_24.out; have := HB_21.out.size; omega
                go_wp2_with ((with_reducible show wpList _ _ _ _ _ _); refine wp_append1 elemPr rfl (.tmp 69) (.tmp 71) rfl B1 (.slice va m vc) m _ rfl HRO_22.out AB [.int .u64 ((x0 : Nat) : Int), .int .u64 0, .bool false, .int .u64 ((x3 : Nat) : Int)] rfl rfl ?c1 ?c2 hm6 hV6 ?c3)
                case c1 =>
                  intro i u hi
                  exact cell_laid KAB_24.out (by simpa using hi)
                case c2 => first | exact pr4_one (x0, 0, false, x3) | exact ⟨rfl, rfl, rfl, rfl⟩
                case c3 =>
                  intro v' w7 hown' hb7 hg7
                  obtain ⟨a', cap', rfl, -⟩ := Leads.of_own hown'
                  have hl7 := (Leads.of_own1 hown').len
                  have HO7 : Hid (w7.ownsRow B1 45 4 (.slice a' (m + 1) cap') (m + 1) (prcells ((L.take k).filterMap F ++ [(x0, 0, false, x3)]))) := hid (by rw [prcells_append]; exact hown')
                  have KX3_25 := hid (below_block hb7 h3B1 KX3_19.out)
                  have KX6_26 := hid (below_block hb7 h6B1 KX6_20.out)
                  have HB_27 := hid (HB_21.out.trans (hb7.mono hVB1))
                  have hB7 : B1 ≤ w7.heap.size := Nat.le_trans hV6 hg7
                  clear hown' hb7 hg7 hm6 hV6 KX3_19 KX6_20 HB_21 HRO_22 KX10_23 KAB_24
                  clear hNMAB hw6_323
                  go_wp2
                  go_roundg (gk - 1)
                  case measure => have := HK.out; omega
                  case rel => exact ⟨k + 1, m + 1, _, _, _, _, _, by have := HK.out; omega, by go_num, rfl, rfl, rfl, rfl, rfl, by omega, hid (by rw [fm_some HX.out HT.out, List.length_append, HM.out]; rfl), hid (by rw [fm_some HX.out HT.out]; exact HO7.out), KX3_25, KX6_26, HB_27, hB7⟩
              | false =>
                have hx1 : ¬ x1 = pid := of_decide_eq_false HC.out
                have HT : Hid (F (x0, x1, x2, x3) = some (x0, x1, x2, x3)) := hid (by rw [HFX.out, HA.out, HC.out, if_neg (by simp), if_neg hx0, if_neg hx1])
                clear hx0 hx1 HBB HDR hDR
                go_upto_region 9 with (fail)
                have LTAB_HRO := hid (fun k hk => own_lt HRO_12.out k hk)
                obtain ⟨w5_367, hw5_367, hbn, hsn, hln⟩ := laid u3_150 #[.int .u64 ((x0 : Nat) : Int), .int .u64 ((x1 : Nat) : Int), .bool x2, .int .u64 ((x3 : Nat) : Int)] 45
                obtain ⟨AB, hNMAB⟩ : ∃ X, u3_150.heap.size = X := ⟨_, rfl⟩
                rw [hNMAB] at hln
                have nX3AB : X3 < AB := by have := lt_laid KX3_9.out; omega
                have nX6AB : X6 < AB := by have := lt_laid KX6_10.out; omega
                have nX10AB : X10 < AB := by have := lt_laid KX10_13.out; omega
                have hVAB : V.heap.size ≤ AB := by have := HB_11.out.size; omega
                have KX3_14 := hid (keep_laid KX3_9.out hbn)
                have KX6_15 := hid (keep_laid KX6_10.out hbn)
                have HB_16 := hid (HB_11.out.trans (hbn.mono HB_11.out.size))
                have HRO_17 := hid (own_grow HRO_12.out hbn)
                have KX10_18 := hid (keep_laid KX10_13.out hbn)
                clear KX3_9 KX6_10 HB_11 HRO_12 KX10_13 hbn hsn
                have KAB_19 := hid (hln)
                clear hln
                rw [hNMAB] at LTAB_HRO
                have hm6 : m ≤ 1000000 := by omega
                have hV6 : B1 ≤ w5_367.heap.size := by have := lt_laid KAB_19.out; have := HB_16.out.size; omega
                go_wp2_with ((with_reducible show wpList _ _ _ _ _ _); refine wp_append1 elemPr rfl (.tmp 27) (.tmp 29) rfl B1 (.slice va m vc) m _ rfl HRO_17.out AB [.int .u64 ((x0 : Nat) : Int), .int .u64 ((x1 : Nat) : Int), .bool x2, .int .u64 ((x3 : Nat) : Int)] rfl rfl ?c1 ?c2 hm6 hV6 ?c3)
                case c1 =>
                  intro i u hi
                  exact cell_laid KAB_19.out (by simpa using hi)
                case c2 => first | exact pr4_one (x0, x1, x2, x3) | exact ⟨rfl, rfl, rfl, rfl⟩
                case c3 =>
                  intro v' w7 hown' hb7 hg7
                  obtain ⟨a', cap', rfl, -⟩ := Leads.of_own hown'
                  have hl7 := (Leads.of_own1 hown').len
                  have HO7 : Hid (w7.ownsRow B1 45 4 (.slice a' (m + 1) cap') (m + 1) (prcells ((L.take k).filterMap F ++ [(x0, x1, x2, x3)]))) := hid (by rw [prcells_append]; exact hown')
                  have KX3_20 := hid (below_block hb7 h3B1 KX3_14.out)
                  have KX6_21 := hid (below_block hb7 h6B1 KX6_15.out)
                  have HB_22 := hid (HB_16.out.trans (hb7.mono hVB1))
                  have hB7 : B1 ≤ w7.heap.size := Nat.le_trans hV6 hg7
                  clear hown' hb7 hg7 hm6 hV6 KX3_14 KX6_15 HB_16 HRO_17 KX10_18 KAB_19
                  clear hNMAB hw5_367
                  go_wp2
                  go_roundg (gk - 1)
                  case measure => have := HK.out; omega
                  case rel => exact ⟨k + 1, m + 1, _, _, _, _, _, by have := HK.out; omega, by go_num, rfl, rfl, rfl, rfl, rfl, by omega, hid (by rw [fm_some HX.out HT.out, List.length_append, HM.out]; rfl), hid (by rw [fm_some HX.out HT.out]; exact HO7.out), KX3_20, KX6_21, HB_22, hB7⟩
        · have hkn : k = n := by have := HK.out; omega
          have hall : (L.take k).filterMap F = L.filterMap F := by rw [List.take_of_length_le (by rw [HN.out]; omega)]
          rw [hall] at HM HRO
          clear hall HK hlt
          have x16 := cell_laid (i := 16) KX3.out rfl
          have xf16 := free_laid (i := 16) KX3.out
          obtain ⟨u9, hu9, a1, a2, a3, a4⟩ := put17_16 KX3.out (.slice va m vc)
          have E9 := hid hu9
          have T3 := hid a1
          have T6 := hid (a2 X6 _ (by omega) KX6.out)
          have O9 := hid (own_keep HRO.out fun k o hk ho => a2 k o (fun e => own_neP HRO.out KX3.out (by decide) (by rw [← e]; exact hk)) ho)
          have B9 := hid (a3 _ _ (by omega) HB.out)
          clear hu9 a1 a2 a3 a4 KX3 KX6 HRO HB
          go_upto_region 19 with (fail)
          rw [← E9.out]
          clear x16 xf16
          go_wp2_with (first | (refine wp_loadW rfl 25 (.tmp 3) rfl X3 _ rfl _ T3.out _ Tryd.underlying25 rfl (by kernel_rfl) ?_; intro v hv; subst hv) | (refine wp_storeW rfl 25 (.tmp 6) (.tmp 76) rfl X6 _ _ rfl rfl _ T6.out (by kernel_rfl) (by rfl) (by simp [Value.oneCell']) ?_; intro u20 a1 a2 a3 a4; have HA1 := hid a1; have HA2 := hid a2; have HA3 := hid a3; clear a1 a2 a3 a4))
          have T3_4 := hid (HA2.out X3 _ (by omega) T3.out)
          have T6_5 := hid (HA1.out)
          have B9_6 := hid (HA3.out _ _ (by omega) B9.out)
          have O9_7 := hid (own_keep O9.out fun k o hk ho => HA2.out k o (fun e => own_neP O9.out T6.out (by decide) (by rw [← e]; exact hk)) ho)
          clear HA1 HA2 HA3 T3 T6 B9 O9
          have e := HRES.out
          unfold exitP at e
          rw [if_pos HR.out, if_neg H1.out, ← HF.out] at e
          subst e
          refine bodyPost_ret (rexit_result T6_5.out rfl rfl) rfl ⟨B9_6.out, va, vc, ?_, ?_⟩
          · rw [HM.out]; rfl
          · rw [HM.out]; exact own_base O9_7.out hVB1
end Go.Proofs.YtmnbkhmphhgdiaaDoor
