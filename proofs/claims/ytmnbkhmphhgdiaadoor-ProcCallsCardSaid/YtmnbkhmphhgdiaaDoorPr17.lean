/- The document's Wait (printed by gen_pr17.py). -/
import Derived.Test.YtmnbkhmphhgdiaaDoorPr16
namespace Go.Proofs.YtmnbkhmphhgdiaaDoor
open Go.RowKit Go.Shelf
open Go.Proofs
set_option linter.unusedVariables false
attribute [local go_sem] Oper.semAt_some
theorem rwait_result {W : World} {b6 : Nat} {v6_0 v6_1 v6_2 v6_3 v6_4 v6_5 v6_6 v6_7 v6_8 v6_9 v6_10 v6_11 v6_12 v6_13 v6_14 v6_15 v6_16 u7 u8 : Value} {tmps : Array Value} (h6 : W.heap[b6]? = some (.cells #[v6_0, v6_1, v6_2, v6_3, v6_4, v6_5, v6_6, v6_7, v6_8, v6_9, v6_10, v6_11, v6_12, v6_13, v6_14, v6_15, v6_16] 25 (0, 0))) (q6 : tmps[6]?.getD undef = .pointer (some ⟨b6, 0, none⟩)) (q7 : tmps[7]?.getD undef = u7) (q8 : tmps[8]?.getD undef = u8) :
    (results Tryd.f15 tmps).run Tryd.prog W = .ok (.tuple #[.agg #[v6_0, v6_1, v6_2, v6_3, v6_4, v6_5, v6_6, v6_7, v6_8, v6_9, v6_10, v6_11, v6_12, v6_13, v6_14, v6_15, v6_16], u7, u8]) W := by
  have e6_0 := cell_laid (i := 0) (v := v6_0) h6 rfl
  have e6_1 := cell_laid (i := 1) (v := v6_1) h6 rfl
  have e6_2 := cell_laid (i := 2) (v := v6_2) h6 rfl
  have e6_3 := cell_laid (i := 3) (v := v6_3) h6 rfl
  have e6_4 := cell_laid (i := 4) (v := v6_4) h6 rfl
  have e6_5 := cell_laid (i := 5) (v := v6_5) h6 rfl
  have e6_6 := cell_laid (i := 6) (v := v6_6) h6 rfl
  have e6_7 := cell_laid (i := 7) (v := v6_7) h6 rfl
  have e6_8 := cell_laid (i := 8) (v := v6_8) h6 rfl
  have e6_9 := cell_laid (i := 9) (v := v6_9) h6 rfl
  have e6_10 := cell_laid (i := 10) (v := v6_10) h6 rfl
  have e6_11 := cell_laid (i := 11) (v := v6_11) h6 rfl
  have e6_12 := cell_laid (i := 12) (v := v6_12) h6 rfl
  have e6_13 := cell_laid (i := 13) (v := v6_13) h6 rfl
  have e6_14 := cell_laid (i := 14) (v := v6_14) h6 rfl
  have e6_15 := cell_laid (i := 15) (v := v6_15) h6 rfl
  have e6_16 := cell_laid (i := 16) (v := v6_16) h6 rfl
  simp [results, Tryd.results15, go_sem, e6_0, e6_1, e6_2, e6_3, e6_4, e6_5, e6_6, e6_7, e6_8, e6_9, e6_10, e6_11, e6_12, e6_13, e6_14, e6_15, e6_16, q6, q7, q8]
set_option maxRecDepth 100000 in
set_option maxHeartbeats 16000000 in
theorem rWait_any (n c pid child : Nat) (a : Option Addr) (G : Nat → Int) (L : List Pr) (V : World) (hl : Leads V a n c (prcells L)) (hn : L.length = n) (hn5 : n ≤ 1000) (hL : PrsOk L) :
    Calls Tryd.prog 15 #[.agg #[.int .i64 (G 0), .int .i64 (G 1), .int .i64 (G 2), .int .i64 (G 3), .int .i64 (G 4), .int .i64 (G 5), .int .i64 (G 6), .int .i64 (G 7), .int .i64 (G 8), .int .i64 (G 9), .int .i64 (G 10), .int .i64 (G 11), .int .i64 (G 12), .int .i64 (G 13), .int .i64 (G 14), .int .i64 (G 15), .slice a n c], .int .u64 ((pid : Nat) : Int), .int .u64 ((child : Nat) : Int)] V (Gives3 V (waitP G L pid child)) := by
  obtain ⟨V1, hV1, hbV1, hsV1, hlV1⟩ := laid V #[.int .i64 (G 0), .int .i64 (G 1), .int .i64 (G 2), .int .i64 (G 3), .int .i64 (G 4), .int .i64 (G 5), .int .i64 (G 6), .int .i64 (G 7), .int .i64 (G 8), .int .i64 (G 9), .int .i64 (G 10), .int .i64 (G 11), .int .i64 (G 12), .int .i64 (G 13), .int .i64 (G 14), .int .i64 (G 15), .slice a n c] 25
  obtain ⟨V2, hV2, hbV2, hsV2, hlV2⟩ := laid V1 #[.int .i64 0, .int .i64 0, .int .i64 0, .int .i64 0, .int .i64 0, .int .i64 0, .int .i64 0, .int .i64 0, .int .i64 0, .int .i64 0, .int .i64 0, .int .i64 0, .int .i64 0, .int .i64 0, .int .i64 0, .int .i64 0, .slice none 0 0] 25
  obtain ⟨X3, hX3⟩ : ∃ X, V.heap.size = X := ⟨_, rfl⟩
  rw [hX3] at hlV1
  obtain ⟨X6, hX6⟩ : ∃ X, V1.heap.size = X := ⟨_, rfl⟩
  rw [hX6] at hlV2
  have KX3 := hid (keep_laid hlV1 hbV2)
  have KX6 := hid hlV2
  have HB := hid (step hbV1 hbV2)
  have hVX3 : V.heap.size ≤ X3 := by omega
  have hVX6 : V.heap.size ≤ X6 := by omega
  have nX3X6 : X3 < X6 := by omega
  clear hbV1 hsV1 hlV1 hbV2 hsV2 hlV2
  have HL := hid hl
  have HN := hid hn
  have HPL := hid hL
  have hlen := hl.len
  obtain ⟨B0, hB0⟩ : ∃ b, V2.heap.size = b := ⟨_, rfl⟩
  obtain ⟨RES, hRES⟩ : ∃ r, waitP G L pid child = r := ⟨_, rfl⟩
  rw [hRES]
  have HRES : Hid (waitP G L pid child = RES) := hid hRES
  clear hRES
  have HRU := hid (rRuns_any n c pid a L V2 (hl.grow HB.out) hn hn5)
  have hX3B : X3 < B0 := by have := lt_laid KX3.out; omega
  have hX6B : X6 < B0 := by have := lt_laid KX6.out; omega
  have hVB : V.heap.size ≤ B0 := by have := HB.out.size; omega
  have HB0 := hid hB0
  clear hl hn hL hB0
  go_enter Tryd.func15, Tryd.ntmps15
  have x16 := cell_laid (i := 16) KX3.out rfl
  cases hr : runsB L pid with
  | false =>
    rw [hr] at HRU
    have HR := hid hr
    clear hr
    go_wp2_with fail
    refine (HRU.out).mono ?_
    rintro e w1_60 ⟨rfl, hbn⟩
    have KX3_1 := hid (keep_laid KX3.out hbn)
    have KX6_2 := hid (keep_laid KX6.out hbn)
    have HB_3 := hid (HB.out.trans (hbn.mono HB.out.size))
    clear KX3 KX6 HB hbn HRU x16 hX3 hX6 hV1 hV2
    go_wp2_with (refine wp_storeW rfl 25 (.tmp 6) (.tmp 19) rfl X6 _ _ rfl rfl _ KX6_2.out (by kernel_rfl) (by rfl) (by simp [Value.oneCell']) ?_; intro u9 a1 a2 a3 a4; have HA1 := hid a1; have HA3 := hid a3; clear a1 a2 a3 a4)
    have HB9 := hid (HA3.out _ _ (by omega) HB_3.out)
    have e := HRES.out
    unfold waitP at e
    rw [if_neg (by rw [HR.out]; decide)] at e
    subst e
    refine bodyPost_ret (rwait_result HA1.out rfl rfl rfl) rfl ⟨HB9.out, rfl⟩
  | true =>
    rw [hr] at HRU
    have HR := hid hr
    clear hr
    go_wp2_with fail
    refine (HRU.out).mono ?_
    rintro e w1_78 ⟨rfl, hbn⟩
    have KX3_1 := hid (keep_laid KX3.out hbn)
    have KX6_2 := hid (keep_laid KX6.out hbn)
    have HB_3 := hid (HB.out.trans (hbn.mono HB.out.size))
    clear KX3 KX6 HB hbn HRU x16 hX3 hX6 hV1 hV2
    have HOF := hid (rOf_any n c child a L w1_78 (HL.out.grow HB_3.out) HN.out hn5)
    obtain ⟨⟨⟨y0, y1, y2, y3⟩, y4⟩, hRV⟩ : ∃ r, findR L child = r := ⟨_, rfl⟩
    rw [hRV] at HOF
    dsimp only at HOF
    unfold prV at HOF
    have HRV := hid hRV
    clear hRV
    have x16 := cell_laid (i := 16) KX3_1.out rfl
    go_wp2_with fail
    refine (HOF.out).mono ?_
    rintro e w2_93 ⟨rfl, hbn⟩
    have KX3_4 := hid (keep_laid KX3_1.out hbn)
    have KX6_5 := hid (keep_laid KX6_2.out hbn)
    have HB_6 := hid (HB_3.out.trans (hbn.mono HB_3.out.size))
    clear KX3_1 KX6_2 HB_3 hbn HOF x16
    obtain ⟨w3_100, hw3_100, hbn, hsn, hln⟩ := laid w2_93 #[.int .u64 0, .int .u64 0, .bool false, .int .u64 0] 45
    obtain ⟨X9, hNMX9⟩ : ∃ X, w2_93.heap.size = X := ⟨_, rfl⟩
    rw [hNMX9] at hln
    have nX3X9 : X3 < X9 := by have := lt_laid KX3_4.out; omega
    have nX6X9 : X6 < X9 := by have := lt_laid KX6_5.out; omega
    have hVX9 : V.heap.size ≤ X9 := by have := HB_6.out.size; omega
    have KX3_7 := hid (keep_laid KX3_4.out hbn)
    have KX6_8 := hid (keep_laid KX6_5.out hbn)
    have HB_9 := hid (HB_6.out.trans (hbn.mono HB_6.out.size))
    clear KX3_4 KX6_5 HB_6 hbn hsn
    have KX9_10 := hid (hln)
    clear hln
    have KX9_10_o := KX9_10.out
    obtain ⟨u4_113, hu4_113, a1, a2, a3, a4⟩ := putN4 KX9_10.out (.int .u64 ((y0 : Nat) : Int)) (.int .u64 ((y1 : Nat) : Int)) (.bool y2) (.int .u64 ((y3 : Nat) : Int))
    obtain ⟨z0, zf0, z1, zf1, z2, zf2, z3, zf3⟩ := fcl4 (KX9_10.out)
    have E5_113 := hid hu4_113
    have KX3_11 := hid (a2 X3 _ (by omega) KX3_7.out)
    have KX6_12 := hid (a2 X6 _ (by omega) KX6_8.out)
    have HB_13 := hid (a3 _ _ (by omega) HB_9.out)
    have KX9_14 := hid (a1)
    clear KX3_7 KX6_8 HB_9 KX9_10 hu4_113 a1 a2 a3 a4
    clear KX9_10_o
    go_upto_region 4 with (fail)
    rw [← E5_113.out]
    clear z0 z1 z2 z3 zf0 zf1 zf2 zf3 hNMX9 hw3_100
    obtain ⟨t0, t1, t2, t3⟩ := ncl4 (KX9_14.out)
    cases y4 with
    | false =>
      have HF : Hid (findB L child = none) := hid (by
        have := HRV.out
        unfold findR at this
        cases hf : findB L child with
        | none => rfl
        | some x => rw [hf] at this; cases this)
      go_wp2_with (refine wp_storeW rfl 25 (.tmp 6) (.tmp 35) rfl X6 _ _ rfl rfl _ KX6_12.out (by kernel_rfl) (by rfl) (by simp [Value.oneCell']) ?_; intro u9 a1 a2 a3 a4; have HA1 := hid a1; have HA3 := hid a3; clear a1 a2 a3 a4)
      have HB9 := hid (HA3.out _ _ (by omega) HB_13.out)
      have e := HRES.out
      unfold waitP at e
      rw [if_pos HR.out, HF.out] at e
      subst e
      refine bodyPost_ret (rwait_result HA1.out rfl rfl rfl) rfl ⟨HB9.out, rfl⟩
    | true =>
      have HF : Hid (findB L child = some (y0, y1, y2, y3)) := hid (by
        have := HRV.out
        unfold findR at this
        cases hf : findB L child with
        | none => rw [hf] at this; cases this
        | some x => rw [hf] at this; cases this; rfl)
      by_cases hp : y1 = pid
      · have u1 : (((y1 : Nat) : Int) != ((pid : Nat) : Int)) = false := by simp; omega
        have HP := hid hp
        clear hp
        cases y2 with
        | false =>
          go_wp2_with (refine wp_storeW rfl 25 (.tmp 6) (.tmp 39) rfl X6 _ _ rfl rfl _ KX6_12.out (by kernel_rfl) (by rfl) (by simp [Value.oneCell']) ?_; intro u9 a1 a2 a3 a4; have HA1 := hid a1; have HA3 := hid a3; clear a1 a2 a3 a4)
          have HB9 := hid (HA3.out _ _ (by omega) HB_13.out)
          have e := HRES.out
          unfold waitP at e
          rw [if_pos HR.out, HF.out] at e; dsimp only at e; rw [if_pos HP.out, if_neg (by decide)] at e
          subst e
          refine bodyPost_ret (rwait_result HA1.out rfl rfl rfl) rfl ⟨HB9.out, rfl⟩
        | true =>
          obtain ⟨B1, hB1⟩ : ∃ b, u4_113.heap.size = b := ⟨_, rfl⟩
          have hX9B : X9 < B1 := by have := lt_laid KX9_14.out; omega
          have h3B1 : X3 < B1 := by have := lt_laid KX3_11.out; omega
          have h6B1 : X6 < B1 := by have := lt_laid KX6_12.out; omega
          have hVB1 : V.heap.size ≤ B1 := by have := HB_13.out.size; omega
          have HB1 := hid hB1
          clear hB1 t0 t1 t2 t3
          have x16 := cell_laid (i := 16) KX3_11.out rfl
          obtain ⟨t0, t1, t2, t3⟩ := ncl4 (KX9_14.out)
          go_wp2
          clear x16 t0 t1 t2 t3
          obtain ⟨Q1, hQ1⟩ : ∃ q : Pr → Bool, q = (fun y => decide (y.1 ≠ child)) := ⟨_, rfl⟩
          have HQ1 := hid hQ1
          clear hQ1
          go_loopg [43, 13, 11] n (fun g ti tb t5 wr => ∃ (k m : Nat) (vb v5 : Value), g + k = n ∧ ti = .int .i64 ((k : Nat) : Int) ∧ tb = vb ∧ t5 = v5 ∧ m ≤ k ∧ Hid (((L.take k).filter Q1).length = m) ∧ Hid (wr.ownsRow B1 45 4 v5 m (prcells ((L.take k).filter Q1))) ∧ Hid (wr.heap[X3]? = some (.cells #[.int .i64 (G 0), .int .i64 (G 1), .int .i64 (G 2), .int .i64 (G 3), .int .i64 (G 4), .int .i64 (G 5), .int .i64 (G 6), .int .i64 (G 7), .int .i64 (G 8), .int .i64 (G 9), .int .i64 (G 10), .int .i64 (G 11), .int .i64 (G 12), .int .i64 (G 13), .int .i64 (G 14), .int .i64 (G 15), .slice a n c] 25 (0, 0))) ∧ Hid (wr.heap[X6]? = some (.cells #[.int .i64 0, .int .i64 0, .int .i64 0, .int .i64 0, .int .i64 0, .int .i64 0, .int .i64 0, .int .i64 0, .int .i64 0, .int .i64 0, .int .i64 0, .int .i64 0, .int .i64 0, .int .i64 0, .int .i64 0, .int .i64 0, .slice none 0 0] 25 (0, 0))) ∧ Hid (wr.heap[X9]? = some (.cells #[.int .u64 ((y0 : Nat) : Int), .int .u64 ((y1 : Nat) : Int), .bool true, .int .u64 ((y3 : Nat) : Int)] 45 (0, 0))) ∧ Hid (Below V.heap.size V wr) ∧ B1 ≤ wr.heap.size)
          case atStart => exact ⟨0, 0, _, _, rfl, rfl, rfl, rfl, Nat.le_refl _, hid rfl, hid (World.ownsRow_nil _ _ _ _), KX3_11, KX6_12, KX9_14, HB_13, Nat.le_of_eq HB1.out.symm⟩
          case round =>
            clear KX3_11 KX6_12 KX9_14 HB_13
            obtain ⟨k, m, vb, v5, hk, rfl, hvb, hv5, hmk, HM, HRO, KX3, KX6, KX9, HB, hBw⟩ := hrel
            obtain ⟨va, vc, rfl, -⟩ := Leads.of_own HRO.out
            have hlm := (Leads.of_own1 HRO.out).len
            subst hvb hv5
            have HK := hid hk
            clear hk
            by_cases hlt : k < n
            · obtain ⟨⟨x0, x1, x2, x3⟩, hx⟩ : ∃ x, L[k]? = some x := ⟨_, List.getElem?_eq_getElem (by rw [HN.out]; exact hlt)⟩
              obtain ⟨b, off, rfl, -, hcx⟩ := HL.out.pr hlt hx
              obtain ⟨f0, f1, f2, f3⟩ := hcx wr HB.out
              have HX := hid hx
              dsimp only at f0 f1 f2 f3
              clear hcx hx
              have LTX13_HRO := hid (fun k hk => own_lt HRO.out k hk)
              obtain ⟨w6_195, hw6_195, hbn, hsn, hln⟩ := laid wr #[.int .u64 0, .int .u64 0, .bool false, .int .u64 0] 45
              obtain ⟨X13, hNMX13⟩ : ∃ X, wr.heap.size = X := ⟨_, rfl⟩
              rw [hNMX13] at hln
              have nX3X13 : X3 < X13 := by have := lt_laid KX3.out; omega
              have nX6X13 : X6 < X13 := by have := lt_laid KX6.out; omega
              have nX9X13 : X9 < X13 := by have := lt_laid KX9.out; omega
              have hVX13 : V.heap.size ≤ X13 := by have := HB.out.size; omega
              have KX3_15 := hid (keep_laid KX3.out hbn)
              have KX6_16 := hid (keep_laid KX6.out hbn)
              have KX9_17 := hid (keep_laid KX9.out hbn)
              have HB_18 := hid (HB.out.trans (hbn.mono HB.out.size))
              have HRO_19 := hid (own_grow HRO.out hbn)
              clear KX3 KX6 KX9 HB HRO hbn hsn
              have KX13_20 := hid (hln)
              clear hln
              have KX13_20_o := KX13_20.out
              obtain ⟨u7_211, hu7_211, a1, a2, a3, a4⟩ := putN4 KX13_20.out (.int .u64 ((x0 : Nat) : Int)) (.int .u64 ((x1 : Nat) : Int)) (.bool x2) (.int .u64 ((x3 : Nat) : Int))
              obtain ⟨z0, zf0, z1, zf1, z2, zf2, z3, zf3⟩ := fcl4 (KX13_20.out)
              have E8_211 := hid hu7_211
              have KX3_21 := hid (a2 X3 _ (by omega) KX3_15.out)
              have KX6_22 := hid (a2 X6 _ (by omega) KX6_16.out)
              have KX9_23 := hid (a2 X9 _ (by omega) KX9_17.out)
              have HB_24 := hid (a3 _ _ (by omega) HB_18.out)
              have HRO_25 := hid (own_keep HRO_19.out fun k o hk ho => a2 k o (by have := LTX13_HRO.out k hk; omega) ho)
              have KX13_26 := hid (a1)
              clear KX3_15 KX6_16 KX9_17 HB_18 HRO_19 KX13_20 hu7_211 a1 a2 a3 a4
              clear KX13_20_o
              have hBu : B1 ≤ u7_211.heap.size := by have := lt_laid KX13_26.out; omega
              go_upto_region 12 with (fail)
              rw [← E8_211.out]
              clear z0 z1 z2 z3 zf0 zf1 zf2 zf3 hNMX13 hw6_195 f0 f1 f2 f3
              obtain ⟨z0, z1, z2, z3⟩ := ncl4 (KX13_26.out)
              by_cases ht : x0 = child
              · have u2 : (((x0 : Nat) : Int) != ((child : Nat) : Int)) = false := by simp; omega
                have HT : Hid (Q1 (x0, x1, x2, x3) = false) := hid (by rw [HQ1.out]; exact decide_eq_false (fun h => h ht))
                clear ht
                go_wp2
                go_roundg (gk - 1)
                case measure => have := HK.out; omega
                case rel => exact ⟨k + 1, m, _, _, by have := HK.out; omega, by go_num, rfl, rfl, by omega, hid (by rw [filter_miss HX.out HT.out]; exact HM.out), hid (by rw [filter_miss HX.out HT.out]; exact HRO_25.out), KX3_21, KX6_22, KX9_23, HB_24, hBu⟩
              · have u2 : (((x0 : Nat) : Int) != ((child : Nat) : Int)) = true := by simp; omega
                have HT : Hid (Q1 (x0, x1, x2, x3) = true) := hid (by rw [HQ1.out]; exact decide_eq_true ht)
                clear ht
                go_upto_region 13 with (fail)
                have LTAB_HRO := hid (fun k hk => own_lt HRO_25.out k hk)
                obtain ⟨w9_240, hw9_240, hbn, hsn, hln⟩ := laid u7_211 #[.int .u64 ((x0 : Nat) : Int), .int .u64 ((x1 : Nat) : Int), .bool x2, .int .u64 ((x3 : Nat) : Int)] 45
                obtain ⟨AB, hNMAB⟩ : ∃ X, u7_211.heap.size = X := ⟨_, rfl⟩
                rw [hNMAB] at hln
                have nX3AB : X3 < AB := by have := lt_laid KX3_21.out; omega
                have nX6AB : X6 < AB := by have := lt_laid KX6_22.out; omega
                have nX9AB : X9 < AB := by have := lt_laid KX9_23.out; omega
                have nX13AB : X13 < AB := by have := lt_laid KX13_26.out; omega
                have hVAB : V.heap.size ≤ AB := by have := HB_24.out.size; omega
                have KX3_27 := hid (keep_laid KX3_21.out hbn)
                have KX6_28 := hid (keep_laid KX6_22.out hbn)
                have KX9_29 := hid (keep_laid KX9_23.out hbn)
                have HB_30 := hid (HB_24.out.trans (hbn.mono HB_24.out.size))
                have HRO_31 := hid (own_grow HRO_25.out hbn)
                have KX13_32 := hid (keep_laid KX13_26.out hbn)
                clear KX3_21 KX6_22 KX9_23 HB_24 HRO_25 KX13_26 hbn hsn
                have KAB_33 := hid (hln)
                clear hln
                have hm6 : m ≤ 1000000 := by omega
                have hV6 : B1 ≤ w9_240.heap.size := by have := lt_laid KAB_33.out; have := HB_30.out.size; omega
                go_wp2_with ((with_reducible show wpList _ _ _ _ _ _); refine wp_append1 elemPr rfl (.tmp 51) (.tmp 53) rfl B1 (.slice va m vc) m _ rfl HRO_31.out AB [.int .u64 ((x0 : Nat) : Int), .int .u64 ((x1 : Nat) : Int), .bool x2, .int .u64 ((x3 : Nat) : Int)] rfl rfl ?c1 ?c2 hm6 hV6 ?c3)
                case c1 =>
                  intro i u hi
                  exact cell_laid KAB_33.out (by simpa using hi)
                case c2 => exact pr4_one (x0, x1, x2, x3)
                case c3 =>
                  intro v' w7 hown' hb7 hg7
                  obtain ⟨a', cap', rfl, -⟩ := Leads.of_own hown'
                  have hl7 := (Leads.of_own1 hown').len
                  have HO7 : Hid (w7.ownsRow B1 45 4 (.slice a' (m + 1) cap') (m + 1) (prcells ((L.take k).filter Q1 ++ [(x0, x1, x2, x3)]))) := hid (by rw [prcells_append]; exact hown')
                  have KX3_34 := hid (below_block hb7 h3B1 KX3_27.out)
                  have KX6_35 := hid (below_block hb7 h6B1 KX6_28.out)
                  have KX9_36 := hid (below_block hb7 hX9B KX9_29.out)
                  have HB_37 := hid (HB_30.out.trans (hb7.mono hVB1))
                  have hB7 : B1 ≤ w7.heap.size := Nat.le_trans hV6 hg7
                  clear hown' hb7 hg7 hm6 hV6 KX3_27 KX6_28 KX9_29 HB_30 HRO_31 KX13_32 KAB_33
                  clear hNMAB hw9_240
                  go_wp2
                  go_roundg (gk - 1)
                  case measure => have := HK.out; omega
                  case rel => exact ⟨k + 1, m + 1, _, _, by have := HK.out; omega, by go_num, rfl, rfl, by omega, hid (by rw [filter_hit HX.out HT.out, List.length_append, HM.out]; rfl), hid (by rw [filter_hit HX.out HT.out]; exact HO7.out), KX3_34, KX6_35, KX9_36, HB_37, hB7⟩
            · have hkn : k = n := by have := HK.out; omega
              have hall : (L.take k).filter Q1 = L.filter Q1 := by rw [List.take_of_length_le (by rw [HN.out]; omega)]
              rw [hall] at HM HRO
              clear hall HK hlt
              have x16 := cell_laid (i := 16) KX3.out rfl
              have xf16 := free_laid (i := 16) KX3.out
              obtain ⟨u9, hu9, a1, a2, a3, a4⟩ := put17_16 KX3.out (.slice va m vc)
              have E9 := hid hu9
              have T3 := hid a1
              have T6 := hid (a2 X6 _ (by omega) KX6.out)
              have T9 := hid (a2 X9 _ (by omega) KX9.out)
              have O9 := hid (own_keep HRO.out fun k o hk ho => a2 k o (fun e => own_neP HRO.out KX3.out (by decide) (by rw [← e]; exact hk)) ho)
              have B9 := hid (a3 _ _ (by omega) HB.out)
              clear hu9 a1 a2 a3 a4 KX3 KX6 KX9 HRO HB
              go_upto_region 16 with (fail)
              rw [← E9.out]
              clear x16 xf16
              obtain ⟨D, hD⟩ : ∃ DX, World.drew u9 = DX := ⟨_, rfl⟩
              have hbD : Below u9.heap.size u9 D := by rw [← hD]; exact (Below.refl _ _).drew
              have HD := hid hD
              clear hD
              have T3_15 := hid (keep_laid T3.out hbD)
              have T6_16 := hid (keep_laid T6.out hbD)
              have T9_17 := hid (keep_laid T9.out hbD)
              have B9_18 := hid (B9.out.trans (hbD.mono B9.out.size))
              have O9_19 := hid (own_grow O9.out hbD)
              clear T3 T6 T9 B9 O9 hbD
              haveI : Nonempty (Two X3 X9 #[.int .i64 (G 0), .int .i64 (G 1), .int .i64 (G 2), .int .i64 (G 3), .int .i64 (G 4), .int .i64 (G 5), .int .i64 (G 6), .int .i64 (G 7), .int .i64 (G 8), .int .i64 (G 9), .int .i64 (G 10), .int .i64 (G 11), .int .i64 (G 12), .int .i64 (G 13), .int .i64 (G 14), .int .i64 (G 15), .slice va m vc] #[.int .u64 ((y0 : Nat) : Int), .int .u64 ((y1 : Nat) : Int), .bool true, .int .u64 ((y3 : Nat) : Int)] 25 45) := ⟨⟨D, T3_15.out, T9_17.out⟩⟩
              have q3 : ∀ z : Two X3 X9 #[.int .i64 (G 0), .int .i64 (G 1), .int .i64 (G 2), .int .i64 (G 3), .int .i64 (G 4), .int .i64 (G 5), .int .i64 (G 6), .int .i64 (G 7), .int .i64 (G 8), .int .i64 (G 9), .int .i64 (G 10), .int .i64 (G 11), .int .i64 (G 12), .int .i64 (G 13), .int .i64 (G 14), .int .i64 (G 15), .slice va m vc] #[.int .u64 ((y0 : Nat) : Int), .int .u64 ((y1 : Nat) : Int), .bool true, .int .u64 ((y3 : Nat) : Int)] 25 45, z.w.cell? ⟨X9, 3, none⟩ = some (.int .u64 ((y3 : Nat) : Int)) := fun z => cell_laid z.by_ rfl
              refine wp_region_mix3 (fun W => ∃ z : Two X3 X9 #[.int .i64 (G 0), .int .i64 (G 1), .int .i64 (G 2), .int .i64 (G 3), .int .i64 (G 4), .int .i64 (G 5), .int .i64 (G 6), .int .i64 (G 7), .int .i64 (G 8), .int .i64 (G 9), .int .i64 (G 10), .int .i64 (G 11), .int .i64 (G 12), .int .i64 (G 13), .int .i64 (G 14), .int .i64 (G 15), .slice va m vc] #[.int .u64 ((y0 : Nat) : Int), .int .u64 ((y1 : Nat) : Int), .bool true, .int .u64 ((y3 : Nat) : Int)] 25 45, W = z.w) 6 (.q 0 (.q 1 (.q 2 (.h 3 (.q 4 (.q 5 .done)))))) (by kernel_rfl) (by kernel_rfl) (by rw [HD.out]; exact ⟨⟨D, T3_15.out, T9_17.out⟩, rfl⟩) ?_
              rw [HD.out]
              refine wpMix3_q rfl rfl ?_
              refine wpQuiet_loadW rfl 25 (.tmp 3) rfl X3 _ rfl _ (by rintro w ⟨z, rfl⟩; exact z.bx) _ Tryd.underlying25 rfl (by kernel_rfl) ?_
              intro v hv
              subst hv
              refine wpQuiet_nil ?_
              simp only [Act.put, List.setIfInBounds_toArray, List.set_cons_succ, List.set_cons_zero]
              repeat (refine wpMix3_q rfl rfl ?_; go_big_quiet_step (fail); refine wpQuiet_nil ?_)
              refine wpMix3_h rfl fun R' hR' hO => ?_
              go_wp2_with (refine wp_storeW rfl 25 (.tmp 6) (.tmp 58) rfl X6 _ _ rfl rfl _ T6_16.out (by kernel_rfl) (by rfl) (by simp [Value.oneCell']) ?_; intro u20 a1 a2 a3 a4; have HA1 := hid a1; have HA2 := hid a2; have HA3 := hid a3; clear a1 a2 a3 a4)
              have T3_20 := hid (HA2.out X3 _ (by omega) T3_15.out)
              have T6_21 := hid (HA1.out)
              have T9_22 := hid (HA2.out X9 _ (by omega) T9_17.out)
              have B9_23 := hid (HA3.out _ _ (by omega) B9_18.out)
              have O9_24 := hid (own_keep O9_19.out fun k o hk ho => HA2.out k o (fun e => own_neP O9_19.out T6_16.out (by decide) (by rw [← e]; exact hk)) ho)
              clear HA1 HA2 HA3 T3_15 T6_16 T9_17 B9_18 O9_19
              refine hR' _ _ ⟨⟨u20, T3_20.out, T9_22.out⟩, rfl⟩ ?_
              clear hR' hO R'
              repeat (refine wpMix3_q rfl rfl ?_; go_big_quiet_step (fail); refine wpQuiet_nil ?_)
              refine wpMix3_done ?_
              simp only [List.drop_succ_cons, List.drop_nil]
              go_wp2
              have e := HRES.out
              unfold waitP at e
              rw [if_pos HR.out, HF.out] at e
              dsimp only at e
              rw [if_pos HP.out, if_pos rfl, ← HQ1.out] at e
              subst e
              refine bodyPost_ret (rwait_result T6_21.out rfl rfl rfl) rfl ⟨B9_23.out, va, vc, ?_, ?_⟩
              · rw [HM.out]; rfl
              · rw [HM.out]; exact own_base O9_24.out hVB1
      · have u1 : (((y1 : Nat) : Int) != ((pid : Nat) : Int)) = true := by simp; omega
        have HP := hid hp
        clear hp
        go_wp2_with (refine wp_storeW rfl 25 (.tmp 6) (.tmp 35) rfl X6 _ _ rfl rfl _ KX6_12.out (by kernel_rfl) (by rfl) (by simp [Value.oneCell']) ?_; intro u9 a1 a2 a3 a4; have HA1 := hid a1; have HA3 := hid a3; clear a1 a2 a3 a4)
        have HB9 := hid (HA3.out _ _ (by omega) HB_13.out)
        have e := HRES.out
        unfold waitP at e
        rw [if_pos HR.out, HF.out] at e; dsimp only at e; rw [if_neg HP.out] at e
        subst e
        refine bodyPost_ret (rwait_result HA1.out rfl rfl rfl) rfl ⟨HB9.out, rfl⟩
end Go.Proofs.YtmnbkhmphhgdiaaDoor
