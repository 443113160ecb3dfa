/- ProcOnce: the walk (printed by gen_prw1.py). -/
import Derived.Test.YtmnbkhmphhgdiaaDoorPrPlain3
namespace Go.Proofs.YtmnbkhmphhgdiaaDoor
open Go.RowKit Go.Shelf
open Go.Proofs
set_option linter.unusedVariables false
attribute [local go_sem] Oper.semAt_some
set_option maxRecDepth 100000 in
set_option maxHeartbeats 32000000 in
theorem procOnce_walk (n c parent code : Nat) (a : Option Addr) (G : Nat → Int) (L : List Pr) (V : World) (hg : Glob V) (hl : Leads V a n c (prcells L)) (hn : L.length = n) (hG : GOk G) (hL : PrsOk L) (hp : parent < 18446744073709551616) (hc : code < 18446744073709551616) :
    Calls Tryd.prog 4 #[.agg #[.int .i64 (G 0), .int .i64 (G 1), .int .i64 (G 2), .int .i64 (G 3), .int .i64 (G 4), .int .i64 (G 5), .int .i64 (G 6), .int .i64 (G 7), .int .i64 (G 8), .int .i64 (G 9), .int .i64 (G 10), .int .i64 (G 11), .int .i64 (G 12), .int .i64 (G 13), .int .i64 (G 14), .int .i64 (G 15), .slice a n c], .int .u64 ((parent : Nat) : Int), .int .u64 ((code : Nat) : Int)] V (Ret (.bool true) V) := by
  obtain ⟨V1, hV1, hbV1, hsV1, hlV1⟩ := laid V #[.int .i64 (G 0), .int .i64 (G 1), .int .i64 (G 2), .int .i64 (G 3), .int .i64 (G 4), .int .i64 (G 5), .int .i64 (G 6), .int .i64 (G 7), .int .i64 (G 8), .int .i64 (G 9), .int .i64 (G 10), .int .i64 (G 11), .int .i64 (G 12), .int .i64 (G 13), .int .i64 (G 14), .int .i64 (G 15), .slice a n c] 25
  obtain ⟨X3, hX3⟩ : ∃ X, V.heap.size = X := ⟨_, rfl⟩
  rw [hX3] at hlV1
  have KX3 := hid hlV1
  have HB := hid hbV1
  have hVX3 : V.heap.size ≤ X3 := by omega
  clear hbV1 hsV1 hlV1
  have hv1 := hg.one
  have HGL := hid (hg.grow HB.out)
  have HL := hid (hl.grow HB.out)
  have HGG := hid hG
  obtain ⟨LL, hLL⟩ : ∃ l, L.take 20 = l := ⟨_, rfl⟩
  have hPL : PrsOk LL := by rw [← hLL]; exact fun x hx => hL x (List.mem_of_mem_take hx)
  have HPL := hid hPL
  have HLL := hid hLL
  have HLN := hid hn
  obtain ⟨q, hq⟩ : ∃ q, LL.length = q := ⟨_, rfl⟩
  have hq20 : q ≤ 20 := by rw [← hq, ← hLL, List.length_take]; omega
  have HQ := hid hq
  have HWK := hid (Wakes_any V1 HGL.out)
  clear hg hl hn hG hL hLL hPL hq
  go_enter Tryd.func4, Tryd.ntmps4
  go_wp2_with fail
  refine (HWK.out).mono ?_
  rintro e w1_31 ⟨rfl, hbn⟩
  have KX3_1 := hid (keep_laid KX3.out hbn)
  have HB_2 := hid (HB.out.trans (hbn.mono HB.out.size))
  have HGL_3 := hid (HGL.out.grow hbn)
  have HL_4 := hid (HL.out.grow hbn)
  clear KX3 HB HGL HL hbn HWK hX3 hV1
  have HOWN := hid (Own_any n c a G L w1_31 HL_4.out HLN.out)
  rw [HLL.out] at HOWN
  unfold GivesPs at HOWN
  rw [HQ.out] at HOWN
  go_wp2_with (refine wp_loadW rfl 25 (.tmp 3) rfl X3 _ rfl _ KX3_1.out _ Tryd.underlying25 rfl (by kernel_rfl) ?_; intro v hv; subst hv)
  refine (HOWN.out).mono ?_
  rintro e w2_44 ⟨ap, cp, rfl, hrow, hbn⟩
  have hwV : V.heap.size ≤ w1_31.heap.size := HB_2.out.size
  have KX3_5 := hid (keep_laid KX3_1.out hbn)
  have HB_6 := hid (HB_2.out.trans (hbn.mono HB_2.out.size))
  have HGL_7 := hid (HGL_3.out.grow hbn)
  have HL_8 := hid (HL_4.out.grow hbn)
  clear KX3_1 HB_2 HGL_3 HL_4 hbn
  have HRP := hid (own_base hrow hwV)
  have hlp := (Leads.of_own1 hrow).len
  clear hrow hwV
  obtain ⟨w3_56, hw3_56, hbn, hsn, hln⟩ := laid w2_44 #[.int .i64 0, .int .i64 0, .int .i64 0, .int .i64 0, .int .i64 0, .int .i64 0, .int .i64 0, .int .i64 0, .int .i64 0, .int .i64 0, .int .i64 0, .int .i64 0, .int .i64 0, .int .i64 0, .int .i64 0, .int .i64 0, .slice none 0 0] 25
  obtain ⟨X7, hNMX7⟩ : ∃ X, w2_44.heap.size = X := ⟨_, rfl⟩
  rw [hNMX7] at hln
  have nX3X7 : X3 < X7 := by have := lt_laid KX3_5.out; omega
  have hVX7 : V.heap.size ≤ X7 := by have := HB_6.out.size; omega
  have KX3_9 := hid (keep_laid KX3_5.out hbn)
  have HB_10 := hid (HB_6.out.trans (hbn.mono HB_6.out.size))
  have HGL_11 := hid (HGL_7.out.grow hbn)
  have HL_12 := hid (HL_8.out.grow hbn)
  have HRP_13 := hid (own_grow HRP.out hbn)
  clear KX3_5 HB_6 HGL_7 HL_8 HRP hbn hsn
  have KX7_14 := hid (hln)
  clear hln
  clear HL_12
  go_upto_region 4 with (refine wp_storeW rfl 25 (.tmp 7) (.tmp 29) rfl X7 _ _ rfl rfl _ KX7_14.out (by kernel_rfl) (by rfl) (by simp [Value.oneCell']) ?_; intro u4_70 a1 a2 a3 a4; have HA1 := hid a1; have HA2 := hid a2; have HA3 := hid a3; clear a1 a2 a3 a4)
  have KX3_15 := hid (HA2.out X3 _ (by omega) KX3_9.out)
  have HB_16 := hid (HA3.out _ _ (by omega) HB_10.out)
  have HGL_17 := hid (Glob.far HGL_11.out HA2.out (by omega))
  have HRP_18 := hid (own_keep HRP_13.out fun k o hk ho => HA2.out k o (fun e => own_neP HRP_13.out KX7_14.out (by decide) (by rw [← e]; exact hk)) ho)
  have KX7_19 := hid (HA1.out)
  clear HA1 HA2 HA3 KX3_9 HB_10 HGL_11 HRP_13 KX7_14 hNMX7 hw3_56
  have HSP := hid (Spawn_any q cp parent ap G LL u4_70 HGL_17.out (Leads.of_own1 HRP_18.out) HQ.out (by omega) HGG.out HPL.out hp)
  obtain ⟨R0, hR0⟩ : ∃ r, okRes G LL (spawnP G LL parent) = r := ⟨_, rfl⟩
  rw [hR0] at HSP
  have HR0 := hid hR0
  clear hR0
  cases R0 with
  | error e0 =>
    as_aux_lemma =>
      go_wp2_with (refine wp_loadW rfl 25 (.tmp 7) rfl X7 _ rfl _ KX7_19.out _ Tryd.underlying25 rfl (by kernel_rfl) ?_; intro v hv; subst hv)
      refine (HSP.out).mono ?_
      rintro e w5_85 ⟨hbn, rfl⟩
      have KX3_20 := hid (keep_laid KX3_15.out hbn)
      have HB_21 := hid (HB_16.out.trans (hbn.mono HB_16.out.size))
      have HGL_22 := hid (HGL_17.out.grow hbn)
      have HRP_23 := hid (own_grow HRP_18.out hbn)
      have KX7_24 := hid (keep_laid KX7_19.out hbn)
      clear KX3_15 HB_16 HGL_17 HRP_18 KX7_19 hbn HSP
      obtain ⟨w6_94, hw6_94, hbn, hsn, hln⟩ := laid w5_85 #[.int .i64 0, .int .i64 0, .int .i64 0, .int .i64 0, .int .i64 0, .int .i64 0, .int .i64 0, .int .i64 0, .int .i64 0, .int .i64 0, .int .i64 0, .int .i64 0, .int .i64 0, .int .i64 0, .int .i64 0, .int .i64 0, .slice none 0 0] 25
      obtain ⟨X8, hNMX8⟩ : ∃ X, w5_85.heap.size = X := ⟨_, rfl⟩
      rw [hNMX8] at hln
      have nX3X8 : X3 < X8 := by have := lt_laid KX3_20.out; omega
      have nX7X8 : X7 < X8 := by have := lt_laid KX7_24.out; omega
      have hVX8 : V.heap.size ≤ X8 := by have := HB_21.out.size; omega
      have KX3_25 := hid (keep_laid KX3_20.out hbn)
      have HB_26 := hid (HB_21.out.trans (hbn.mono HB_21.out.size))
      have HGL_27 := hid (HGL_22.out.grow hbn)
      have HRP_28 := hid (own_grow HRP_23.out hbn)
      have KX7_29 := hid (keep_laid KX7_24.out hbn)
      clear KX3_20 HB_21 HGL_22 HRP_23 KX7_24 hbn hsn
      have KX8_30 := hid (hln)
      clear hln
      go_upto_region 5 with (refine wp_storeW rfl 25 (.tmp 8) (.tmp 34) rfl X8 _ _ rfl rfl _ KX8_30.out (by kernel_rfl) (by rfl) (by simp [Value.oneCell']) ?_; intro u7_108 a1 a2 a3 a4; have HA1 := hid a1; have HA2 := hid a2; have HA3 := hid a3; clear a1 a2 a3 a4)
      have KX3_31 := hid (HA2.out X3 _ (by omega) KX3_25.out)
      have HB_32 := hid (HA3.out _ _ (by omega) HB_26.out)
      have HGL_33 := hid (Glob.far HGL_27.out HA2.out (by omega))
      have HRP_34 := hid (own_keep HRP_28.out fun k o hk ho => HA2.out k o (fun e => own_neP HRP_28.out KX8_30.out (by decide) (by rw [← e]; exact hk)) ho)
      have KX7_35 := hid (HA2.out X7 _ (by omega) KX7_29.out)
      have KX8_36 := hid (HA1.out)
      clear HA1 HA2 HA3 KX3_25 HB_26 HGL_27 HRP_28 KX7_29 KX8_30 hNMX8 hw6_94
      have HCK := hid (Check_any q cp ap G LL u7_108 HGL_33.out (Leads.of_own1 HRP_34.out) HQ.out (by omega) HGG.out HPL.out)
      have HRN := hid (fun (W : World) (hW : Below u7_108.heap.size u7_108 W) => Runs_any q cp parent ap G LL W (HGL_33.out.grow hW) ((Leads.of_own1 HRP_34.out).grow hW) HQ.out (by omega) HGG.out HPL.out)
      unfold runsP at HRN
      rcases spawn_err HR0.out with ⟨h1, rfl⟩ | ⟨h1, h2, rfl⟩ | ⟨h1, h2, rfl⟩
      · have H1 := hid h1
        rw [h1] at HCK HRN
        clear h1
        rw [if_neg (by decide)] at HCK
        go_wp2_with (refine wp_loadG rfl 25 (.tmp 7) rfl X7 _ rfl _ KX7_35.out _ Tryd.underlying25 rfl (by kernel_rfl) ?_; intro v hv; subst hv)
        refine (HCK.out).mono ?_
        rintro e w8_125 ⟨rfl, hbn⟩
        have HRN2 := hid (HRN.out w8_125 hbn)
        have KX3_37 := hid (keep_laid KX3_31.out hbn)
        have HB_38 := hid (HB_32.out.trans (hbn.mono HB_32.out.size))
        have HGL_39 := hid (HGL_33.out.grow hbn)
        have HRP_40 := hid (own_grow HRP_34.out hbn)
        have KX7_41 := hid (keep_laid KX7_35.out hbn)
        have KX8_42 := hid (keep_laid KX8_36.out hbn)
        clear KX3_31 HB_32 HGL_33 HRP_34 KX7_35 KX8_36 hbn HCK HRN
        go_wp2
        go_ret
        exact ⟨rfl, HB_38.out⟩
      · have H1 := hid h1
        rw [h1] at HCK HRN
        clear h1
        rw [h2] at HRN
        clear h2
        rw [if_pos rfl] at HCK
        go_wp2_with (refine wp_loadG rfl 25 (.tmp 7) rfl X7 _ rfl _ KX7_35.out _ Tryd.underlying25 rfl (by kernel_rfl) ?_; intro v hv; subst hv)
        refine (HCK.out).mono ?_
        rintro e w8_146 ⟨rfl, hbn⟩
        have HRN2 := hid (HRN.out w8_146 hbn)
        have KX3_37 := hid (keep_laid KX3_31.out hbn)
        have HB_38 := hid (HB_32.out.trans (hbn.mono HB_32.out.size))
        have HGL_39 := hid (HGL_33.out.grow hbn)
        have HRP_40 := hid (own_grow HRP_34.out hbn)
        have KX7_41 := hid (keep_laid KX7_35.out hbn)
        have KX8_42 := hid (keep_laid KX8_36.out hbn)
        clear KX3_31 HB_32 HGL_33 HRP_34 KX7_35 KX8_36 hbn HCK HRN
        rw [show (true && false) = false from rfl] at HRN2
        go_wp2_with (refine wp_loadG rfl 25 (.tmp 7) rfl X7 _ rfl _ KX7_41.out _ Tryd.underlying25 rfl (by kernel_rfl) ?_; intro v hv; subst hv)
        refine (HRN2.out).mono ?_
        rintro e w9_158 ⟨rfl, hbn⟩
        have KX3_43 := hid (keep_laid KX3_37.out hbn)
        have HB_44 := hid (HB_38.out.trans (hbn.mono HB_38.out.size))
        have HGL_45 := hid (HGL_39.out.grow hbn)
        have HRP_46 := hid (own_grow HRP_40.out hbn)
        have KX7_47 := hid (keep_laid KX7_41.out hbn)
        have KX8_48 := hid (keep_laid KX8_42.out hbn)
        clear KX3_37 HB_38 HGL_39 HRP_40 KX7_41 KX8_42 hbn HRN2
        go_wp2
        go_ret
        exact ⟨rfl, HB_44.out⟩
      · have H1 := hid h1
        rw [h1] at HCK HRN
        clear h1
        rw [h2] at HRN
        clear h2
        rw [if_pos rfl] at HCK
        go_wp2_with (refine wp_loadG rfl 25 (.tmp 7) rfl X7 _ rfl _ KX7_35.out _ Tryd.underlying25 rfl (by kernel_rfl) ?_; intro v hv; subst hv)
        refine (HCK.out).mono ?_
        rintro e w8_178 ⟨rfl, hbn⟩
        have HRN2 := hid (HRN.out w8_178 hbn)
        have KX3_37 := hid (keep_laid KX3_31.out hbn)
        have HB_38 := hid (HB_32.out.trans (hbn.mono HB_32.out.size))
        have HGL_39 := hid (HGL_33.out.grow hbn)
        have HRP_40 := hid (own_grow HRP_34.out hbn)
        have KX7_41 := hid (keep_laid KX7_35.out hbn)
        have KX8_42 := hid (keep_laid KX8_36.out hbn)
        clear KX3_31 HB_32 HGL_33 HRP_34 KX7_35 KX8_36 hbn HCK HRN
        rw [show (true && true) = true from rfl] at HRN2
        go_wp2_with (refine wp_loadG rfl 25 (.tmp 7) rfl X7 _ rfl _ KX7_41.out _ Tryd.underlying25 rfl (by kernel_rfl) ?_; intro v hv; subst hv)
        refine (HRN2.out).mono ?_
        rintro e w9_190 ⟨rfl, hbn⟩
        have KX3_43 := hid (keep_laid KX3_37.out hbn)
        have HB_44 := hid (HB_38.out.trans (hbn.mono HB_38.out.size))
        have HGL_45 := hid (HGL_39.out.grow hbn)
        have HRP_46 := hid (own_grow HRP_40.out hbn)
        have KX7_47 := hid (keep_laid KX7_41.out hbn)
        have KX8_48 := hid (keep_laid KX8_42.out hbn)
        clear KX3_37 HB_38 HGL_39 HRP_40 KX7_41 KX8_42 hbn HRN2
        go_wp2
        go_ret
        exact ⟨rfl, HB_44.out⟩
  | ok r0 =>
    as_aux_lemma =>
      obtain ⟨G1, L1, pid⟩ := r0
      obtain ⟨hG1, hL1, hpid1, hpidb, hl16⟩ := spawn_bounds HGG.out HPL.out hp HR0.out
      have HO := hid (once_law (code := code) HR0.out)
      have HG1 := hid hG1
      have HL1 := hid hL1
      obtain ⟨L2, hL2⟩ : ∃ l, L1.filterMap (exitF pid code) = l := ⟨_, rfl⟩
      have hL2b : PrsOk L2 := by rw [← hL2]; exact exit_bounds hL1 hc
      rw [hL2] at HO
      have HL2 := hid hL2b
      obtain ⟨m1, hm1⟩ : ∃ m, L1.length = m := ⟨_, rfl⟩
      obtain ⟨m2, hm2⟩ : ∃ m, L2.length = m := ⟨_, rfl⟩
      have hm2b : m2 ≤ 16 := by rw [← hm2]; exact ok_len HO.out.ok2
      rw [hm1] at hl16
      have HM1 := hid hm1
      have HM2 := hid hm2
      unfold Gives3 at HSP
      dsimp only at HSP
      rw [hm1] at HSP
      clear hG1 hL1 hL2 hL2b hm1 hm2
      have hwV : V.heap.size ≤ u4_70.heap.size := HB_16.out.size
      go_wp2_with (refine wp_loadW rfl 25 (.tmp 7) rfl X7 _ rfl _ KX7_19.out _ Tryd.underlying25 rfl (by kernel_rfl) ?_; intro v hv; subst hv)
      refine (HSP.out).mono ?_
      rintro e w5_225 ⟨hbn, a1, c1, rfl, hrow⟩
      have KX3_20 := hid (keep_laid KX3_15.out hbn)
      have HB_21 := hid (HB_16.out.trans (hbn.mono HB_16.out.size))
      have HGL_22 := hid (HGL_17.out.grow hbn)
      have HRP_23 := hid (own_grow HRP_18.out hbn)
      have KX7_24 := hid (keep_laid KX7_19.out hbn)
      clear KX3_15 HB_16 HGL_17 HRP_18 KX7_19 hbn HSP
      have HR1 := hid (own_base hrow hwV)
      have hlHR1 := (Leads.of_own1 hrow).len
      clear hrow hwV
      obtain ⟨w6_237, hw6_237, hbn, hsn, hln⟩ := laid w5_225 #[.int .i64 0, .int .i64 0, .int .i64 0, .int .i64 0, .int .i64 0, .int .i64 0, .int .i64 0, .int .i64 0, .int .i64 0, .int .i64 0, .int .i64 0, .int .i64 0, .int .i64 0, .int .i64 0, .int .i64 0, .int .i64 0, .slice none 0 0] 25
      obtain ⟨X8, hNMX8⟩ : ∃ X, w5_225.heap.size = X := ⟨_, rfl⟩
      rw [hNMX8] at hln
      have nX3X8 : X3 < X8 := by have := lt_laid KX3_20.out; omega
      have nX7X8 : X7 < X8 := by have := lt_laid KX7_24.out; omega
      have hVX8 : V.heap.size ≤ X8 := by have := HB_21.out.size; omega
      have KX3_25 := hid (keep_laid KX3_20.out hbn)
      have HB_26 := hid (HB_21.out.trans (hbn.mono HB_21.out.size))
      have HGL_27 := hid (HGL_22.out.grow hbn)
      have HRP_28 := hid (own_grow HRP_23.out hbn)
      have KX7_29 := hid (keep_laid KX7_24.out hbn)
      have HR1_30 := hid (own_grow HR1.out hbn)
      clear KX3_20 HB_21 HGL_22 HRP_23 KX7_24 HR1 hbn hsn
      have KX8_31 := hid (hln)
      clear hln
      go_upto_region 5 with (refine wp_storeW rfl 25 (.tmp 8) (.tmp 34) rfl X8 _ _ rfl rfl _ KX8_31.out (by kernel_rfl) (by rfl) (by simp [Value.oneCell']) ?_; intro u7_252 a1 a2 a3 a4; have HA1 := hid a1; have HA2 := hid a2; have HA3 := hid a3; clear a1 a2 a3 a4)
      have KX3_32 := hid (HA2.out X3 _ (by omega) KX3_25.out)
      have HB_33 := hid (HA3.out _ _ (by omega) HB_26.out)
      have HGL_34 := hid (Glob.far HGL_27.out HA2.out (by omega))
      have HRP_35 := hid (own_keep HRP_28.out fun k o hk ho => HA2.out k o (fun e => own_neP HRP_28.out KX8_31.out (by decide) (by rw [← e]; exact hk)) ho)
      have KX7_36 := hid (HA2.out X7 _ (by omega) KX7_29.out)
      have HR1_37 := hid (own_keep HR1_30.out fun k o hk ho => HA2.out k o (fun e => own_neP HR1_30.out KX8_31.out (by decide) (by rw [← e]; exact hk)) ho)
      have KX8_38 := hid (HA1.out)
      clear HA1 HA2 HA3 KX3_25 HB_26 HGL_27 HRP_28 KX7_29 HR1_30 KX8_31 hNMX8 hw6_237
      have HC1 := hid (Wait_any m1 c1 parent pid a1 G1 L1 u7_252 HGL_34.out (Leads.of_own1 HR1_37.out) HM1.out (by omega) HG1.out HL1.out hp (by omega))
      rw [HO.out.early] at HC1
      unfold Gives3 at HC1
      dsimp only at HC1
      go_wp2_with (refine wp_loadW rfl 25 (.tmp 8) rfl X8 _ rfl _ KX8_38.out _ Tryd.underlying25 rfl (by kernel_rfl) ?_; intro v hv; subst hv)
      refine (HC1.out).mono ?_
      rintro e w8_265 ⟨hbn, rfl⟩
      have KX3_39 := hid (keep_laid KX3_32.out hbn)
      have HB_40 := hid (HB_33.out.trans (hbn.mono HB_33.out.size))
      have HGL_41 := hid (HGL_34.out.grow hbn)
      have HRP_42 := hid (own_grow HRP_35.out hbn)
      have KX7_43 := hid (keep_laid KX7_36.out hbn)
      have HR1_44 := hid (own_grow HR1_37.out hbn)
      have KX8_45 := hid (keep_laid KX8_38.out hbn)
      clear KX3_32 HB_33 HGL_34 HRP_35 KX7_36 HR1_37 KX8_38 hbn HC1
      obtain ⟨w9_276, hw9_276, hbn, hsn, hln⟩ := laid w8_265 #[.int .i64 0, .int .i64 0, .int .i64 0, .int .i64 0, .int .i64 0, .int .i64 0, .int .i64 0, .int .i64 0, .int .i64 0, .int .i64 0, .int .i64 0, .int .i64 0, .int .i64 0, .int .i64 0, .int .i64 0, .int .i64 0, .slice none 0 0] 25
      obtain ⟨X11, hNMX11⟩ : ∃ X, w8_265.heap.size = X := ⟨_, rfl⟩
      rw [hNMX11] at hln
      have nX3X11 : X3 < X11 := by have := lt_laid KX3_39.out; omega
      have nX7X11 : X7 < X11 := by have := lt_laid KX7_43.out; omega
      have nX8X11 : X8 < X11 := by have := lt_laid KX8_45.out; omega
      have hVX11 : V.heap.size ≤ X11 := by have := HB_40.out.size; omega
      have KX3_46 := hid (keep_laid KX3_39.out hbn)
      have HB_47 := hid (HB_40.out.trans (hbn.mono HB_40.out.size))
      have HGL_48 := hid (HGL_41.out.grow hbn)
      have HRP_49 := hid (own_grow HRP_42.out hbn)
      have KX7_50 := hid (keep_laid KX7_43.out hbn)
      have HR1_51 := hid (own_grow HR1_44.out hbn)
      have KX8_52 := hid (keep_laid KX8_45.out hbn)
      clear KX3_39 HB_40 HGL_41 HRP_42 KX7_43 HR1_44 KX8_45 hbn hsn
      have KX11_53 := hid (hln)
      clear hln
      go_upto_region 8 with (refine wp_storeW rfl 25 (.tmp 11) (.tmp 60) rfl X11 _ _ rfl rfl _ KX11_53.out (by kernel_rfl) (by rfl) (by simp [Value.oneCell']) ?_; intro u10_293 a1 a2 a3 a4; have HA1 := hid a1; have HA2 := hid a2; have HA3 := hid a3; clear a1 a2 a3 a4)
      have KX3_54 := hid (HA2.out X3 _ (by omega) KX3_46.out)
      have HB_55 := hid (HA3.out _ _ (by omega) HB_47.out)
      have HGL_56 := hid (Glob.far HGL_48.out HA2.out (by omega))
      have HRP_57 := hid (own_keep HRP_49.out fun k o hk ho => HA2.out k o (fun e => own_neP HRP_49.out KX11_53.out (by decide) (by rw [← e]; exact hk)) ho)
      have KX7_58 := hid (HA2.out X7 _ (by omega) KX7_50.out)
      have HR1_59 := hid (own_keep HR1_51.out fun k o hk ho => HA2.out k o (fun e => own_neP HR1_51.out KX11_53.out (by decide) (by rw [← e]; exact hk)) ho)
      have KX8_60 := hid (HA2.out X8 _ (by omega) KX8_52.out)
      have KX11_61 := hid (HA1.out)
      clear HA1 HA2 HA3 KX3_46 HB_47 HGL_48 HRP_49 KX7_50 HR1_51 KX8_52 KX11_53 hNMX11 hw9_276
      have HC2 := hid (Exit_any m1 c1 pid code a1 G1 L1 u10_293 HGL_56.out (Leads.of_own1 HR1_59.out) HM1.out (by omega) HG1.out HL1.out (by omega) hc)
      rw [HO.out.exit] at HC2
      unfold Gives2 at HC2
      dsimp only at HC2
      rw [HM2.out] at HC2
      have hwV : V.heap.size ≤ u10_293.heap.size := HB_55.out.size
      go_wp2_with (refine wp_loadW rfl 25 (.tmp 8) rfl X8 _ rfl _ KX8_60.out _ Tryd.underlying25 rfl (by kernel_rfl) ?_; intro v hv; subst hv)
      refine (HC2.out).mono ?_
      rintro e w11_309 ⟨hbn, a2, c2, rfl, hrow⟩
      have KX3_62 := hid (keep_laid KX3_54.out hbn)
      have HB_63 := hid (HB_55.out.trans (hbn.mono HB_55.out.size))
      have HGL_64 := hid (HGL_56.out.grow hbn)
      have HRP_65 := hid (own_grow HRP_57.out hbn)
      have KX7_66 := hid (keep_laid KX7_58.out hbn)
      have HR1_67 := hid (own_grow HR1_59.out hbn)
      have KX8_68 := hid (keep_laid KX8_60.out hbn)
      have KX11_69 := hid (keep_laid KX11_61.out hbn)
      clear KX3_54 HB_55 HGL_56 HRP_57 KX7_58 HR1_59 KX8_60 KX11_61 hbn HC2
      have HR2 := hid (own_base hrow hwV)
      have hlHR2 := (Leads.of_own1 hrow).len
      clear hrow hwV
      obtain ⟨w12_324, hw12_324, hbn, hsn, hln⟩ := laid w11_309 #[.int .i64 0, .int .i64 0, .int .i64 0, .int .i64 0, .int .i64 0, .int .i64 0, .int .i64 0, .int .i64 0, .int .i64 0, .int .i64 0, .int .i64 0, .int .i64 0, .int .i64 0, .int .i64 0, .int .i64 0, .int .i64 0, .slice none 0 0] 25
      obtain ⟨X14, hNMX14⟩ : ∃ X, w11_309.heap.size = X := ⟨_, rfl⟩
      rw [hNMX14] at hln
      have nX3X14 : X3 < X14 := by have := lt_laid KX3_62.out; omega
      have nX7X14 : X7 < X14 := by have := lt_laid KX7_66.out; omega
      have nX8X14 : X8 < X14 := by have := lt_laid KX8_68.out; omega
      have nX11X14 : X11 < X14 := by have := lt_laid KX11_69.out; omega
      have hVX14 : V.heap.size ≤ X14 := by have := HB_63.out.size; omega
      have KX3_70 := hid (keep_laid KX3_62.out hbn)
      have HB_71 := hid (HB_63.out.trans (hbn.mono HB_63.out.size))
      have HGL_72 := hid (HGL_64.out.grow hbn)
      have HRP_73 := hid (own_grow HRP_65.out hbn)
      have KX7_74 := hid (keep_laid KX7_66.out hbn)
      have HR1_75 := hid (own_grow HR1_67.out hbn)
      have KX8_76 := hid (keep_laid KX8_68.out hbn)
      have KX11_77 := hid (keep_laid KX11_69.out hbn)
      have HR2_78 := hid (own_grow HR2.out hbn)
      clear KX3_62 HB_63 HGL_64 HRP_65 KX7_66 HR1_67 KX8_68 KX11_69 HR2 hbn hsn
      have KX14_79 := hid (hln)
      clear hln
      go_upto_region 9 with (refine wp_storeW rfl 25 (.tmp 14) (.tmp 68) rfl X14 _ _ rfl rfl _ KX14_79.out (by kernel_rfl) (by rfl) (by simp [Value.oneCell']) ?_; intro u13_344 a1 a2 a3 a4; have HA1 := hid a1; have HA2 := hid a2; have HA3 := hid a3; clear a1 a2 a3 a4)
      have KX3_80 := hid (HA2.out X3 _ (by omega) KX3_70.out)
      have HB_81 := hid (HA3.out _ _ (by omega) HB_71.out)
      have HGL_82 := hid (Glob.far HGL_72.out HA2.out (by omega))
      have HRP_83 := hid (own_keep HRP_73.out fun k o hk ho => HA2.out k o (fun e => own_neP HRP_73.out KX14_79.out (by decide) (by rw [← e]; exact hk)) ho)
      have KX7_84 := hid (HA2.out X7 _ (by omega) KX7_74.out)
      have HR1_85 := hid (own_keep HR1_75.out fun k o hk ho => HA2.out k o (fun e => own_neP HR1_75.out KX14_79.out (by decide) (by rw [← e]; exact hk)) ho)
      have KX8_86 := hid (HA2.out X8 _ (by omega) KX8_76.out)
      have KX11_87 := hid (HA2.out X11 _ (by omega) KX11_77.out)
      have HR2_88 := hid (own_keep HR2_78.out fun k o hk ho => HA2.out k o (fun e => own_neP HR2_78.out KX14_79.out (by decide) (by rw [← e]; exact hk)) ho)
      have KX14_89 := hid (HA1.out)
      clear HA1 HA2 HA3 KX3_70 HB_71 HGL_72 HRP_73 KX7_74 HR1_75 KX8_76 KX11_77 HR2_78 KX14_79 hNMX14 hw12_324
      have HC3 := hid (Wait_any m2 c2 parent pid a2 G1 L2 u13_344 HGL_82.out (Leads.of_own1 HR2_88.out) HM2.out (by omega) HG1.out HL2.out hp (by omega))
      rw [HO.out.wait] at HC3
      unfold Gives3 at HC3
      dsimp only at HC3
      rw [HQ.out] at HC3
      have hwV : V.heap.size ≤ u13_344.heap.size := HB_81.out.size
      go_wp2_with (refine wp_loadW rfl 25 (.tmp 14) rfl X14 _ rfl _ KX14_89.out _ Tryd.underlying25 rfl (by kernel_rfl) ?_; intro v hv; subst hv)
      refine (HC3.out).mono ?_
      rintro e w14_362 ⟨hbn, a3, c3, rfl, hrow⟩
      have KX3_90 := hid (keep_laid KX3_80.out hbn)
      have HB_91 := hid (HB_81.out.trans (hbn.mono HB_81.out.size))
      have HGL_92 := hid (HGL_82.out.grow hbn)
      have HRP_93 := hid (own_grow HRP_83.out hbn)
      have KX7_94 := hid (keep_laid KX7_84.out hbn)
      have HR1_95 := hid (own_grow HR1_85.out hbn)
      have KX8_96 := hid (keep_laid KX8_86.out hbn)
      have KX11_97 := hid (keep_laid KX11_87.out hbn)
      have HR2_98 := hid (own_grow HR2_88.out hbn)
      have KX14_99 := hid (keep_laid KX14_89.out hbn)
      clear KX3_80 HB_81 HGL_82 HRP_83 KX7_84 HR1_85 KX8_86 KX11_87 HR2_88 KX14_89 hbn HC3
      have HR3 := hid (own_base hrow hwV)
      have hlHR3 := (Leads.of_own1 hrow).len
      clear hrow hwV
      obtain ⟨w15_379, hw15_379, hbn, hsn, hln⟩ := laid w14_362 #[.int .i64 0, .int .i64 0, .int .i64 0, .int .i64 0, .int .i64 0, .int .i64 0, .int .i64 0, .int .i64 0, .int .i64 0, .int .i64 0, .int .i64 0, .int .i64 0, .int .i64 0, .int .i64 0, .int .i64 0, .int .i64 0, .slice none 0 0] 25
      obtain ⟨X16, hNMX16⟩ : ∃ X, w14_362.heap.size = X := ⟨_, rfl⟩
      rw [hNMX16] at hln
      have nX3X16 : X3 < X16 := by have := lt_laid KX3_90.out; omega
      have nX7X16 : X7 < X16 := by have := lt_laid KX7_94.out; omega
      have nX8X16 : X8 < X16 := by have := lt_laid KX8_96.out; omega
      have nX11X16 : X11 < X16 := by have := lt_laid KX11_97.out; omega
      have nX14X16 : X14 < X16 := by have := lt_laid KX14_99.out; omega
      have hVX16 : V.heap.size ≤ X16 := by have := HB_91.out.size; omega
      have KX3_100 := hid (keep_laid KX3_90.out hbn)
      have HB_101 := hid (HB_91.out.trans (hbn.mono HB_91.out.size))
      have HGL_102 := hid (HGL_92.out.grow hbn)
      have HRP_103 := hid (own_grow HRP_93.out hbn)
      have KX7_104 := hid (keep_laid KX7_94.out hbn)
      have HR1_105 := hid (own_grow HR1_95.out hbn)
      have KX8_106 := hid (keep_laid KX8_96.out hbn)
      have KX11_107 := hid (keep_laid KX11_97.out hbn)
      have HR2_108 := hid (own_grow HR2_98.out hbn)
      have KX14_109 := hid (keep_laid KX14_99.out hbn)
      have HR3_110 := hid (own_grow HR3.out hbn)
      clear KX3_90 HB_91 HGL_92 HRP_93 KX7_94 HR1_95 KX8_96 KX11_97 HR2_98 KX14_99 HR3 hbn hsn
      have KX16_111 := hid (hln)
      clear hln
      go_upto_region 10 with (refine wp_storeW rfl 25 (.tmp 16) (.tmp 75) rfl X16 _ _ rfl rfl _ KX16_111.out (by kernel_rfl) (by rfl) (by simp [Value.oneCell']) ?_; intro u16_402 a1 a2 a3 a4; have HA1 := hid a1; have HA2 := hid a2; have HA3 := hid a3; clear a1 a2 a3 a4)
      have KX3_112 := hid (HA2.out X3 _ (by omega) KX3_100.out)
      have HB_113 := hid (HA3.out _ _ (by omega) HB_101.out)
      have HGL_114 := hid (Glob.far HGL_102.out HA2.out (by omega))
      have HRP_115 := hid (own_keep HRP_103.out fun k o hk ho => HA2.out k o (fun e => own_neP HRP_103.out KX16_111.out (by decide) (by rw [← e]; exact hk)) ho)
      have KX7_116 := hid (HA2.out X7 _ (by omega) KX7_104.out)
      have HR1_117 := hid (own_keep HR1_105.out fun k o hk ho => HA2.out k o (fun e => own_neP HR1_105.out KX16_111.out (by decide) (by rw [← e]; exact hk)) ho)
      have KX8_118 := hid (HA2.out X8 _ (by omega) KX8_106.out)
      have KX11_119 := hid (HA2.out X11 _ (by omega) KX11_107.out)
      have HR2_120 := hid (own_keep HR2_108.out fun k o hk ho => HA2.out k o (fun e => own_neP HR2_108.out KX16_111.out (by decide) (by rw [← e]; exact hk)) ho)
      have KX14_121 := hid (HA2.out X14 _ (by omega) KX14_109.out)
      have HR3_122 := hid (own_keep HR3_110.out fun k o hk ho => HA2.out k o (fun e => own_neP HR3_110.out KX16_111.out (by decide) (by rw [← e]; exact hk)) ho)
      have KX16_123 := hid (HA1.out)
      clear HA1 HA2 HA3 KX3_100 HB_101 HGL_102 HRP_103 KX7_104 HR1_105 KX8_106 KX11_107 HR2_108 KX14_109 HR3_110 KX16_111 hNMX16 hw15_379
      have HC4 := hid (Wait_any q c3 parent pid a3 G1 LL u16_402 HGL_114.out (Leads.of_own1 HR3_122.out) HQ.out (by omega) HG1.out HPL.out hp (by omega))
      rw [HO.out.late] at HC4
      unfold Gives3 at HC4
      dsimp only at HC4
      go_wp2_with (refine wp_loadW rfl 25 (.tmp 16) rfl X16 _ rfl _ KX16_123.out _ Tryd.underlying25 rfl (by kernel_rfl) ?_; intro v hv; subst hv)
      refine (HC4.out).mono ?_
      rintro e w17_420 ⟨hbn, rfl⟩
      have KX3_124 := hid (keep_laid KX3_112.out hbn)
      have HB_125 := hid (HB_113.out.trans (hbn.mono HB_113.out.size))
      have HGL_126 := hid (HGL_114.out.grow hbn)
      have HRP_127 := hid (own_grow HRP_115.out hbn)
      have KX7_128 := hid (keep_laid KX7_116.out hbn)
      have HR1_129 := hid (own_grow HR1_117.out hbn)
      have KX8_130 := hid (keep_laid KX8_118.out hbn)
      have KX11_131 := hid (keep_laid KX11_119.out hbn)
      have HR2_132 := hid (own_grow HR2_120.out hbn)
      have KX14_133 := hid (keep_laid KX14_121.out hbn)
      have HR3_134 := hid (own_grow HR3_122.out hbn)
      have KX16_135 := hid (keep_laid KX16_123.out hbn)
      clear KX3_112 HB_113 HGL_114 HRP_115 KX7_116 HR1_117 KX8_118 KX11_119 HR2_120 KX14_121 HR3_122 KX16_123 hbn HC4
      obtain ⟨w18_436, hw18_436, hbn, hsn, hln⟩ := laid w17_420 #[.int .i64 0, .int .i64 0, .int .i64 0, .int .i64 0, .int .i64 0, .int .i64 0, .int .i64 0, .int .i64 0, .int .i64 0, .int .i64 0, .int .i64 0, .int .i64 0, .int .i64 0, .int .i64 0, .int .i64 0, .int .i64 0, .slice none 0 0] 25
      obtain ⟨X19, hNMX19⟩ : ∃ X, w17_420.heap.size = X := ⟨_, rfl⟩
      rw [hNMX19] at hln
      have nX3X19 : X3 < X19 := by have := lt_laid KX3_124.out; omega
      have nX7X19 : X7 < X19 := by have := lt_laid KX7_128.out; omega
      have nX8X19 : X8 < X19 := by have := lt_laid KX8_130.out; omega
      have nX11X19 : X11 < X19 := by have := lt_laid KX11_131.out; omega
      have nX14X19 : X14 < X19 := by have := lt_laid KX14_133.out; omega
      have nX16X19 : X16 < X19 := by have := lt_laid KX16_135.out; omega
      have hVX19 : V.heap.size ≤ X19 := by have := HB_125.out.size; omega
      have KX3_136 := hid (keep_laid KX3_124.out hbn)
      have HB_137 := hid (HB_125.out.trans (hbn.mono HB_125.out.size))
      have HGL_138 := hid (HGL_126.out.grow hbn)
      have HRP_139 := hid (own_grow HRP_127.out hbn)
      have KX7_140 := hid (keep_laid KX7_128.out hbn)
      have HR1_141 := hid (own_grow HR1_129.out hbn)
      have KX8_142 := hid (keep_laid KX8_130.out hbn)
      have KX11_143 := hid (keep_laid KX11_131.out hbn)
      have HR2_144 := hid (own_grow HR2_132.out hbn)
      have KX14_145 := hid (keep_laid KX14_133.out hbn)
      have HR3_146 := hid (own_grow HR3_134.out hbn)
      have KX16_147 := hid (keep_laid KX16_135.out hbn)
      clear KX3_124 HB_125 HGL_126 HRP_127 KX7_128 HR1_129 KX8_130 KX11_131 HR2_132 KX14_133 HR3_134 KX16_135 hbn hsn
      have KX19_148 := hid (hln)
      clear hln
      go_upto_region 11 with (refine wp_storeW rfl 25 (.tmp 19) (.tmp 83) rfl X19 _ _ rfl rfl _ KX19_148.out (by kernel_rfl) (by rfl) (by simp [Value.oneCell']) ?_; intro u19_461 a1 a2 a3 a4; have HA1 := hid a1; have HA2 := hid a2; have HA3 := hid a3; clear a1 a2 a3 a4)
      have KX3_149 := hid (HA2.out X3 _ (by omega) KX3_136.out)
      have HB_150 := hid (HA3.out _ _ (by omega) HB_137.out)
      have HGL_151 := hid (Glob.far HGL_138.out HA2.out (by omega))
      have HRP_152 := hid (own_keep HRP_139.out fun k o hk ho => HA2.out k o (fun e => own_neP HRP_139.out KX19_148.out (by decide) (by rw [← e]; exact hk)) ho)
      have KX7_153 := hid (HA2.out X7 _ (by omega) KX7_140.out)
      have HR1_154 := hid (own_keep HR1_141.out fun k o hk ho => HA2.out k o (fun e => own_neP HR1_141.out KX19_148.out (by decide) (by rw [← e]; exact hk)) ho)
      have KX8_155 := hid (HA2.out X8 _ (by omega) KX8_142.out)
      have KX11_156 := hid (HA2.out X11 _ (by omega) KX11_143.out)
      have HR2_157 := hid (own_keep HR2_144.out fun k o hk ho => HA2.out k o (fun e => own_neP HR2_144.out KX19_148.out (by decide) (by rw [← e]; exact hk)) ho)
      have KX14_158 := hid (HA2.out X14 _ (by omega) KX14_145.out)
      have HR3_159 := hid (own_keep HR3_146.out fun k o hk ho => HA2.out k o (fun e => own_neP HR3_146.out KX19_148.out (by decide) (by rw [← e]; exact hk)) ho)
      have KX16_160 := hid (HA2.out X16 _ (by omega) KX16_147.out)
      have KX19_161 := hid (HA1.out)
      clear HA1 HA2 HA3 KX3_136 HB_137 HGL_138 HRP_139 KX7_140 HR1_141 KX8_142 KX11_143 HR2_144 KX14_145 HR3_146 KX16_147 KX19_148 hNMX19 hw18_436
      have HC5 := hid (Exit_any m2 c2 pid code a2 G1 L2 u19_461 HGL_151.out (Leads.of_own1 HR2_157.out) HM2.out (by omega) HG1.out HL2.out (by omega) hc)
      rw [HO.out.again] at HC5
      unfold Gives2 at HC5
      dsimp only at HC5
      go_wp2_with (refine wp_loadW rfl 25 (.tmp 14) rfl X14 _ rfl _ KX14_158.out _ Tryd.underlying25 rfl (by kernel_rfl) ?_; intro v hv; subst hv)
      refine (HC5.out).mono ?_
      rintro e w20_480 ⟨hbn, rfl⟩
      have KX3_162 := hid (keep_laid KX3_149.out hbn)
      have HB_163 := hid (HB_150.out.trans (hbn.mono HB_150.out.size))
      have HGL_164 := hid (HGL_151.out.grow hbn)
      have HRP_165 := hid (own_grow HRP_152.out hbn)
      have KX7_166 := hid (keep_laid KX7_153.out hbn)
      have HR1_167 := hid (own_grow HR1_154.out hbn)
      have KX8_168 := hid (keep_laid KX8_155.out hbn)
      have KX11_169 := hid (keep_laid KX11_156.out hbn)
      have HR2_170 := hid (own_grow HR2_157.out hbn)
      have KX14_171 := hid (keep_laid KX14_158.out hbn)
      have HR3_172 := hid (own_grow HR3_159.out hbn)
      have KX16_173 := hid (keep_laid KX16_160.out hbn)
      have KX19_174 := hid (keep_laid KX19_161.out hbn)
      clear KX3_149 HB_150 HGL_151 HRP_152 KX7_153 HR1_154 KX8_155 KX11_156 HR2_157 KX14_158 HR3_159 KX16_160 KX19_161 hbn HC5
      obtain ⟨w21_497, hw21_497, hbn, hsn, hln⟩ := laid w20_480 #[.int .i64 0, .int .i64 0, .int .i64 0, .int .i64 0, .int .i64 0, .int .i64 0, .int .i64 0, .int .i64 0, .int .i64 0, .int .i64 0, .int .i64 0, .int .i64 0, .int .i64 0, .int .i64 0, .int .i64 0, .int .i64 0, .slice none 0 0] 25
      obtain ⟨X22, hNMX22⟩ : ∃ X, w20_480.heap.size = X := ⟨_, rfl⟩
      rw [hNMX22] at hln
      have nX3X22 : X3 < X22 := by have := lt_laid KX3_162.out; omega
      have nX7X22 : X7 < X22 := by have := lt_laid KX7_166.out; omega
      have nX8X22 : X8 < X22 := by have := lt_laid KX8_168.out; omega
      have nX11X22 : X11 < X22 := by have := lt_laid KX11_169.out; omega
      have nX14X22 : X14 < X22 := by have := lt_laid KX14_171.out; omega
      have nX16X22 : X16 < X22 := by have := lt_laid KX16_173.out; omega
      have nX19X22 : X19 < X22 := by have := lt_laid KX19_174.out; omega
      have hVX22 : V.heap.size ≤ X22 := by have := HB_163.out.size; omega
      have KX3_175 := hid (keep_laid KX3_162.out hbn)
      have HB_176 := hid (HB_163.out.trans (hbn.mono HB_163.out.size))
      have HGL_177 := hid (HGL_164.out.grow hbn)
      have HRP_178 := hid (own_grow HRP_165.out hbn)
      have KX7_179 := hid (keep_laid KX7_166.out hbn)
      have HR1_180 := hid (own_grow HR1_167.out hbn)
      have KX8_181 := hid (keep_laid KX8_168.out hbn)
      have KX11_182 := hid (keep_laid KX11_169.out hbn)
      have HR2_183 := hid (own_grow HR2_170.out hbn)
      have KX14_184 := hid (keep_laid KX14_171.out hbn)
      have HR3_185 := hid (own_grow HR3_172.out hbn)
      have KX16_186 := hid (keep_laid KX16_173.out hbn)
      have KX19_187 := hid (keep_laid KX19_174.out hbn)
      clear KX3_162 HB_163 HGL_164 HRP_165 KX7_166 HR1_167 KX8_168 KX11_169 HR2_170 KX14_171 HR3_172 KX16_173 KX19_174 hbn hsn
      have KX22_188 := hid (hln)
      clear hln
      go_upto_region 12 with (refine wp_storeW rfl 25 (.tmp 22) (.tmp 91) rfl X22 _ _ rfl rfl _ KX22_188.out (by kernel_rfl) (by rfl) (by simp [Value.oneCell']) ?_; intro u22_524 a1 a2 a3 a4; have HA1 := hid a1; have HA2 := hid a2; have HA3 := hid a3; clear a1 a2 a3 a4)
      have KX3_189 := hid (HA2.out X3 _ (by omega) KX3_175.out)
      have HB_190 := hid (HA3.out _ _ (by omega) HB_176.out)
      have HGL_191 := hid (Glob.far HGL_177.out HA2.out (by omega))
      have HRP_192 := hid (own_keep HRP_178.out fun k o hk ho => HA2.out k o (fun e => own_neP HRP_178.out KX22_188.out (by decide) (by rw [← e]; exact hk)) ho)
      have KX7_193 := hid (HA2.out X7 _ (by omega) KX7_179.out)
      have HR1_194 := hid (own_keep HR1_180.out fun k o hk ho => HA2.out k o (fun e => own_neP HR1_180.out KX22_188.out (by decide) (by rw [← e]; exact hk)) ho)
      have KX8_195 := hid (HA2.out X8 _ (by omega) KX8_181.out)
      have KX11_196 := hid (HA2.out X11 _ (by omega) KX11_182.out)
      have HR2_197 := hid (own_keep HR2_183.out fun k o hk ho => HA2.out k o (fun e => own_neP HR2_183.out KX22_188.out (by decide) (by rw [← e]; exact hk)) ho)
      have KX14_198 := hid (HA2.out X14 _ (by omega) KX14_184.out)
      have HR3_199 := hid (own_keep HR3_185.out fun k o hk ho => HA2.out k o (fun e => own_neP HR3_185.out KX22_188.out (by decide) (by rw [← e]; exact hk)) ho)
      have KX16_200 := hid (HA2.out X16 _ (by omega) KX16_186.out)
      have KX19_201 := hid (HA2.out X19 _ (by omega) KX19_187.out)
      have KX22_202 := hid (HA1.out)
      clear HA1 HA2 HA3 KX3_175 HB_176 HGL_177 HRP_178 KX7_179 HR1_180 KX8_181 KX11_182 HR2_183 KX14_184 HR3_185 KX16_186 KX19_187 KX22_188 hNMX22 hw21_497
      have HFI := hid (Find_any m2 c2 pid a2 G1 L2 u22_524 HGL_191.out (Leads.of_own1 HR2_197.out) HM2.out (by omega) HG1.out HL2.out)
      rw [HO.out.find] at HFI
      unfold prV at HFI
      dsimp only at HFI
      go_wp2_with (refine wp_loadW rfl 25 (.tmp 14) rfl X14 _ rfl _ KX14_198.out _ Tryd.underlying25 rfl (by kernel_rfl) ?_; intro v hv; subst hv)
      refine (HFI.out).mono ?_
      rintro e w23_544 ⟨rfl, hbn⟩
      have KX3_203 := hid (keep_laid KX3_189.out hbn)
      have HB_204 := hid (HB_190.out.trans (hbn.mono HB_190.out.size))
      have HGL_205 := hid (HGL_191.out.grow hbn)
      have HRP_206 := hid (own_grow HRP_192.out hbn)
      have KX7_207 := hid (keep_laid KX7_193.out hbn)
      have HR1_208 := hid (own_grow HR1_194.out hbn)
      have KX8_209 := hid (keep_laid KX8_195.out hbn)
      have KX11_210 := hid (keep_laid KX11_196.out hbn)
      have HR2_211 := hid (own_grow HR2_197.out hbn)
      have KX14_212 := hid (keep_laid KX14_198.out hbn)
      have HR3_213 := hid (own_grow HR3_199.out hbn)
      have KX16_214 := hid (keep_laid KX16_200.out hbn)
      have KX19_215 := hid (keep_laid KX19_201.out hbn)
      have KX22_216 := hid (keep_laid KX22_202.out hbn)
      clear KX3_189 HB_190 HGL_191 HRP_192 KX7_193 HR1_194 KX8_195 KX11_196 HR2_197 KX14_198 HR3_199 KX16_200 KX19_201 KX22_202 hbn HFI
      have LTX24_HRP := hid (fun k hk => own_lt HRP_206.out k hk)
      have LTX24_HR1 := hid (fun k hk => own_lt HR1_208.out k hk)
      have LTX24_HR2 := hid (fun k hk => own_lt HR2_211.out k hk)
      have LTX24_HR3 := hid (fun k hk => own_lt HR3_213.out k hk)
      obtain ⟨w24_566, hw24_566, hbn, hsn, hln⟩ := laid w23_544 #[.int .u64 0, .int .u64 0, .bool false, .int .u64 0] 45
      obtain ⟨X24, hNMX24⟩ : ∃ X, w23_544.heap.size = X := ⟨_, rfl⟩
      rw [hNMX24] at hln
      have nX3X24 : X3 < X24 := by have := lt_laid KX3_203.out; omega
      have nX7X24 : X7 < X24 := by have := lt_laid KX7_207.out; omega
      have nX8X24 : X8 < X24 := by have := lt_laid KX8_209.out; omega
      have nX11X24 : X11 < X24 := by have := lt_laid KX11_210.out; omega
      have nX14X24 : X14 < X24 := by have := lt_laid KX14_212.out; omega
      have nX16X24 : X16 < X24 := by have := lt_laid KX16_214.out; omega
      have nX19X24 : X19 < X24 := by have := lt_laid KX19_215.out; omega
      have nX22X24 : X22 < X24 := by have := lt_laid KX22_216.out; omega
      have hVX24 : V.heap.size ≤ X24 := by have := HB_204.out.size; omega
      have KX3_217 := hid (keep_laid KX3_203.out hbn)
      have HB_218 := hid (HB_204.out.trans (hbn.mono HB_204.out.size))
      have HGL_219 := hid (HGL_205.out.grow hbn)
      have HRP_220 := hid (own_grow HRP_206.out hbn)
      have KX7_221 := hid (keep_laid KX7_207.out hbn)
      have HR1_222 := hid (own_grow HR1_208.out hbn)
      have KX8_223 := hid (keep_laid KX8_209.out hbn)
      have KX11_224 := hid (keep_laid KX11_210.out hbn)
      have HR2_225 := hid (own_grow HR2_211.out hbn)
      have KX14_226 := hid (keep_laid KX14_212.out hbn)
      have HR3_227 := hid (own_grow HR3_213.out hbn)
      have KX16_228 := hid (keep_laid KX16_214.out hbn)
      have KX19_229 := hid (keep_laid KX19_215.out hbn)
      have KX22_230 := hid (keep_laid KX22_216.out hbn)
      clear KX3_203 HB_204 HGL_205 HRP_206 KX7_207 HR1_208 KX8_209 KX11_210 HR2_211 KX14_212 HR3_213 KX16_214 KX19_215 KX22_216 hbn hsn
      have KX24_231 := hid (hln)
      clear hln
      have KX24_231_o := KX24_231.out
      obtain ⟨u25_596, hu25_596, a1, a2, a3, a4⟩ := putN4 KX24_231.out (.int .u64 ((pid : Nat) : Int)) (.int .u64 ((parent : Nat) : Int)) (.bool true) (.int .u64 ((code : Nat) : Int))
      obtain ⟨z0, zf0, z1, zf1, z2, zf2, z3, zf3⟩ := fcl4 (KX24_231.out)
      have E26_596 := hid hu25_596
      have KX3_232 := hid (a2 X3 _ (by omega) KX3_217.out)
      have HB_233 := hid (a3 _ _ (by omega) HB_218.out)
      have HGL_234 := hid (Glob.far HGL_219.out a2 (by omega))
      have HRP_235 := hid (own_keep HRP_220.out fun k o hk ho => a2 k o (by have := LTX24_HRP.out k hk; omega) ho)
      have KX7_236 := hid (a2 X7 _ (by omega) KX7_221.out)
      have HR1_237 := hid (own_keep HR1_222.out fun k o hk ho => a2 k o (by have := LTX24_HR1.out k hk; omega) ho)
      have KX8_238 := hid (a2 X8 _ (by omega) KX8_223.out)
      have KX11_239 := hid (a2 X11 _ (by omega) KX11_224.out)
      have HR2_240 := hid (own_keep HR2_225.out fun k o hk ho => a2 k o (by have := LTX24_HR2.out k hk; omega) ho)
      have KX14_241 := hid (a2 X14 _ (by omega) KX14_226.out)
      have HR3_242 := hid (own_keep HR3_227.out fun k o hk ho => a2 k o (by have := LTX24_HR3.out k hk; omega) ho)
      have KX16_243 := hid (a2 X16 _ (by omega) KX16_228.out)
      have KX19_244 := hid (a2 X19 _ (by omega) KX19_229.out)
      have KX22_245 := hid (a2 X22 _ (by omega) KX22_230.out)
      have KX24_246 := hid (a1)
      clear KX3_217 HB_218 HGL_219 HRP_220 KX7_221 HR1_222 KX8_223 KX11_224 HR2_225 KX14_226 HR3_227 KX16_228 KX19_229 KX22_230 KX24_231 hu25_596 a1 a2 a3 a4
      clear KX24_231_o
      go_upto_region 13 with (fail)
      rw [← E26_596.out]
      clear z0 z1 z2 z3 zf0 zf1 zf2 zf3 hNMX24 hw24_566
      obtain ⟨z0, z1, z2, z3⟩ := ncl4 (KX24_246.out)
      have y16 := cell_laid (i := 16) KX16_243.out rfl
      have x16 := cell_laid (i := 16) KX7_236.out rfl
      have HEQ := hid (EqPr_any LL LL a3 ap q q c3 cp u25_596 HQ.out HQ.out HPL.out HPL.out (Leads.of_own1 HR3_242.out) (Leads.of_own1 HRP_235.out))
      rw [show decide (LL = LL) = true from decide_eq_true rfl] at HEQ
      go_wp2_with fail
      refine (HEQ.out).mono ?_
      rintro e w27_624 ⟨rfl, hbn⟩
      have KX3_247 := hid (keep_laid KX3_232.out hbn)
      have HB_248 := hid (HB_233.out.trans (hbn.mono HB_233.out.size))
      have HGL_249 := hid (HGL_234.out.grow hbn)
      have HRP_250 := hid (own_grow HRP_235.out hbn)
      have KX7_251 := hid (keep_laid KX7_236.out hbn)
      have HR1_252 := hid (own_grow HR1_237.out hbn)
      have KX8_253 := hid (keep_laid KX8_238.out hbn)
      have KX11_254 := hid (keep_laid KX11_239.out hbn)
      have HR2_255 := hid (own_grow HR2_240.out hbn)
      have KX14_256 := hid (keep_laid KX14_241.out hbn)
      have HR3_257 := hid (own_grow HR3_242.out hbn)
      have KX16_258 := hid (keep_laid KX16_243.out hbn)
      have KX19_259 := hid (keep_laid KX19_244.out hbn)
      have KX22_260 := hid (keep_laid KX22_245.out hbn)
      have KX24_261 := hid (keep_laid KX24_246.out hbn)
      clear KX3_232 HB_233 HGL_234 HRP_235 KX7_236 HR1_237 KX8_238 KX11_239 HR2_240 KX14_241 HR3_242 KX16_243 KX19_244 KX22_245 KX24_246 hbn HEQ y16 x16 z0 z1 z2 z3
      go_wp2
      go_ret
      exact ⟨rfl, HB_248.out⟩
end Go.Proofs.YtmnbkhmphhgdiaaDoor
