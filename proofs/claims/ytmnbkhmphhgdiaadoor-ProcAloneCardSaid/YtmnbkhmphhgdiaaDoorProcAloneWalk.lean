/- ProcAlone: the walk (printed by gen_prw2.py). -/
import Derived.Test.YtmnbkhmphhgdiaaDoorPrPlain4
namespace Go.Proofs.YtmnbkhmphhgdiaaDoor
open Go.RowKit Go.Shelf
open Go.Proofs
set_option linter.unusedVariables false
attribute [local go_sem] Oper.semAt_some
set_option maxRecDepth 100000 in
set_option maxHeartbeats 32000000 in
theorem procAlone_walk (n c : Nat) (a : Option Addr) (G : Nat → Int) (L : List Pr) (V : World) (hg : Glob V) (hl : Leads V a n c (prcells L)) (hn : L.length = n) (hG : GOk G) (hL : PrsOk L) :
    Calls Tryd.prog 5 #[.agg #[.int .i64 (G 0), .int .i64 (G 1), .int .i64 (G 2), .int .i64 (G 3), .int .i64 (G 4), .int .i64 (G 5), .int .i64 (G 6), .int .i64 (G 7), .int .i64 (G 8), .int .i64 (G 9), .int .i64 (G 10), .int .i64 (G 11), .int .i64 (G 12), .int .i64 (G 13), .int .i64 (G 14), .int .i64 (G 15), .slice a n c]] V (Ret (.bool true) V) := by
  obtain ⟨V1, hV1, hbV1, hsV1, hlV1⟩ := laid V #[.int .i64 (G 0), .int .i64 (G 1), .int .i64 (G 2), .int .i64 (G 3), .int .i64 (G 4), .int .i64 (G 5), .int .i64 (G 6), .int .i64 (G 7), .int .i64 (G 8), .int .i64 (G 9), .int .i64 (G 10), .int .i64 (G 11), .int .i64 (G 12), .int .i64 (G 13), .int .i64 (G 14), .int .i64 (G 15), .slice a n c] 25
  obtain ⟨X1, hX1⟩ : ∃ X, V.heap.size = X := ⟨_, rfl⟩
  rw [hX1] at hlV1
  have KX1 := hid hlV1
  have HB := hid hbV1
  have hVX1 : V.heap.size ≤ X1 := by omega
  clear hbV1 hsV1 hlV1
  have hv1 := hg.one
  have HGL := hid (hg.grow HB.out)
  have HL := hid (hl.grow HB.out)
  have HGG := hid hG
  obtain ⟨LL, hLL⟩ : ∃ l, L.take 20 = l := ⟨_, rfl⟩
  have hPL : PrsOk LL := by rw [← hLL]; exact fun x hx => hL x (List.mem_of_mem_take hx)
  have HPL := hid hPL
  have HLL := hid hLL
  have HLN := hid hn
  obtain ⟨q, hq⟩ : ∃ q, LL.length = q := ⟨_, rfl⟩
  have hq20 : q ≤ 20 := by rw [← hq, ← hLL, List.length_take]; omega
  have HQ := hid hq
  have HWK := hid (Wakes_any V1 HGL.out)
  clear hg hl hn hG hL hLL hPL hq
  go_enter Tryd.func5, Tryd.ntmps5
  go_wp2_with fail
  refine (HWK.out).mono ?_
  rintro e w1_28 ⟨rfl, hbn⟩
  have KX1_1 := hid (keep_laid KX1.out hbn)
  have HB_2 := hid (HB.out.trans (hbn.mono HB.out.size))
  have HGL_3 := hid (HGL.out.grow hbn)
  have HL_4 := hid (HL.out.grow hbn)
  clear KX1 HB HGL HL hbn HWK hX1 hV1
  have HOWN := hid (Own_any n c a G L w1_28 HL_4.out HLN.out)
  rw [HLL.out] at HOWN
  unfold GivesPs at HOWN
  rw [HQ.out] at HOWN
  go_wp2_with (refine wp_loadW rfl 25 (.tmp 1) rfl X1 _ rfl _ KX1_1.out _ Tryd.underlying25 rfl (by kernel_rfl) ?_; intro v hv; subst hv)
  refine (HOWN.out).mono ?_
  rintro e w2_40 ⟨ap, cp, rfl, hrow, hbn⟩
  have hwV : V.heap.size ≤ w1_28.heap.size := HB_2.out.size
  have KX1_5 := hid (keep_laid KX1_1.out hbn)
  have HB_6 := hid (HB_2.out.trans (hbn.mono HB_2.out.size))
  have HGL_7 := hid (HGL_3.out.grow hbn)
  have HL_8 := hid (HL_4.out.grow hbn)
  clear KX1_1 HB_2 HGL_3 HL_4 hbn
  have HRP := hid (own_base hrow hwV)
  have hlp := (Leads.of_own1 hrow).len
  clear hrow hwV
  obtain ⟨w3_52, hw3_52, hbn, hsn, hln⟩ := laid w2_40 #[.int .i64 0, .int .i64 0, .int .i64 0, .int .i64 0, .int .i64 0, .int .i64 0, .int .i64 0, .int .i64 0, .int .i64 0, .int .i64 0, .int .i64 0, .int .i64 0, .int .i64 0, .int .i64 0, .int .i64 0, .int .i64 0, .slice none 0 0] 25
  obtain ⟨X3, hNMX3⟩ : ∃ X, w2_40.heap.size = X := ⟨_, rfl⟩
  rw [hNMX3] at hln
  have nX1X3 : X1 < X3 := by have := lt_laid KX1_5.out; omega
  have hVX3 : V.heap.size ≤ X3 := by have := HB_6.out.size; omega
  have KX1_9 := hid (keep_laid KX1_5.out hbn)
  have HB_10 := hid (HB_6.out.trans (hbn.mono HB_6.out.size))
  have HGL_11 := hid (HGL_7.out.grow hbn)
  have HL_12 := hid (HL_8.out.grow hbn)
  have HRP_13 := hid (own_grow HRP.out hbn)
  clear KX1_5 HB_6 HGL_7 HL_8 HRP hbn hsn
  have KX3_14 := hid (hln)
  clear hln
  clear HL_12
  go_upto_region 4 with (refine wp_storeW rfl 25 (.tmp 3) (.tmp 18) rfl X3 _ _ rfl rfl _ KX3_14.out (by kernel_rfl) (by rfl) (by simp [Value.oneCell']) ?_; intro u4_66 a1 a2 a3 a4; have HA1 := hid a1; have HA2 := hid a2; have HA3 := hid a3; clear a1 a2 a3 a4)
  have KX1_15 := hid (HA2.out X1 _ (by omega) KX1_9.out)
  have HB_16 := hid (HA3.out _ _ (by omega) HB_10.out)
  have HGL_17 := hid (Glob.far HGL_11.out HA2.out (by omega))
  have HRP_18 := hid (own_keep HRP_13.out fun k o hk ho => HA2.out k o (fun e => own_neP HRP_13.out KX3_14.out (by decide) (by rw [← e]; exact hk)) ho)
  have KX3_19 := hid (HA1.out)
  clear HA1 HA2 HA3 KX1_9 HB_10 HGL_11 HRP_13 KX3_14 hNMX3 hw3_52
  have HCK := hid (Check_any q cp ap G LL u4_66 HGL_17.out (Leads.of_own1 HRP_18.out) HQ.out (by omega) HGG.out HPL.out)
  cases hok : okP G LL with
  | false =>
    as_aux_lemma =>
      have HOK := hid hok
      rw [hok, if_neg (by decide)] at HCK
      clear hok
      go_wp2_with (refine wp_loadW rfl 25 (.tmp 3) rfl X3 _ rfl _ KX3_19.out _ Tryd.underlying25 rfl (by kernel_rfl) ?_; intro v hv; subst hv)
      refine (HCK.out).mono ?_
      rintro e w5_80 ⟨rfl, hbn⟩
      have KX1_20 := hid (keep_laid KX1_15.out hbn)
      have HB_21 := hid (HB_16.out.trans (hbn.mono HB_16.out.size))
      have HGL_22 := hid (HGL_17.out.grow hbn)
      have HRP_23 := hid (own_grow HRP_18.out hbn)
      have KX3_24 := hid (keep_laid KX3_19.out hbn)
      clear KX1_15 HB_16 HGL_17 HRP_18 KX3_19 hbn HCK
      have HKI := hid (Kids_any q cp 1 ap G LL w5_80 HGL_22.out (Leads.of_own1 HRP_23.out) HQ.out (by omega) HGG.out HPL.out (by omega))
      rw [show kidsP G LL 1 = [] by unfold kidsP; rw [if_neg (fun h => by rw [HOK.out] at h; cases h.2)]] at HKI
      unfold GivesW at HKI
      go_wp2_with (refine wp_loadW rfl 25 (.tmp 3) rfl X3 _ rfl _ KX3_24.out _ Tryd.underlying25 rfl (by kernel_rfl) ?_; intro v hv; subst hv)
      refine (HKI.out).mono ?_
      rintro e w6_92 ⟨v, rfl, hro, hbn⟩
      have KX1_25 := hid (keep_laid KX1_20.out hbn)
      have HB_26 := hid (HB_21.out.trans (hbn.mono HB_21.out.size))
      have HGL_27 := hid (HGL_22.out.grow hbn)
      have HRP_28 := hid (own_grow HRP_23.out hbn)
      have KX3_29 := hid (keep_laid KX3_24.out hbn)
      clear KX1_20 HB_21 HGL_22 HRP_23 KX3_24 hbn HKI
      obtain ⟨va, vc, rfl, -⟩ := Leads.of_own hro
      clear hro
      go_wp2
      go_ret
      exact ⟨rfl, HB_26.out⟩
  | true =>
    as_aux_lemma =>
      have HOK := hid ((okP_iff G LL).1 hok)
      have hq16 : q ≤ 16 := by rw [← HQ.out]; exact ok_len HOK.out
      rw [hok, if_pos rfl] at HCK
      clear hok
      go_wp2_with (refine wp_loadW rfl 25 (.tmp 3) rfl X3 _ rfl _ KX3_19.out _ Tryd.underlying25 rfl (by kernel_rfl) ?_; intro v hv; subst hv)
      refine (HCK.out).mono ?_
      rintro e w5_112 ⟨rfl, hbn⟩
      have KX1_20 := hid (keep_laid KX1_15.out hbn)
      have HB_21 := hid (HB_16.out.trans (hbn.mono HB_16.out.size))
      have HGL_22 := hid (HGL_17.out.grow hbn)
      have HRP_23 := hid (own_grow HRP_18.out hbn)
      have KX3_24 := hid (keep_laid KX3_19.out hbn)
      clear KX1_15 HB_16 HGL_17 HRP_18 KX3_19 hbn HCK
      have HCL := hid (ClonePr_any ap q cp (prcells LL) w5_112 (Leads.of_own1 HRP_23.out) (by rw [prcells_len, HQ.out, Nat.mul_comm]) (by omega) (prcells_one _))
      have x16 := cell_laid (i := 16) KX3_24.out rfl
      go_wp2_with fail
      refine (HCL.out).mono ?_
      rintro e w6_123 ⟨v, rfl, hrow, hbn⟩
      have hwV : V.heap.size ≤ w5_112.heap.size := HB_21.out.size
      have KX1_25 := hid (keep_laid KX1_20.out hbn)
      have HB_26 := hid (HB_21.out.trans (hbn.mono HB_21.out.size))
      have HGL_27 := hid (HGL_22.out.grow hbn)
      have HRP_28 := hid (own_grow HRP_23.out hbn)
      have KX3_29 := hid (keep_laid KX3_24.out hbn)
      clear KX1_20 HB_21 HGL_22 HRP_23 KX3_24 hbn
      have HRC := hid (own_base hrow hwV)
      obtain ⟨ca, cc, rfl, -⟩ := Leads.of_own hrow
      have hlc := (Leads.of_own1 hrow).len
      clear hrow hwV
      go_wp2
      go_loopg [30, 5, 6, 7] q (fun g t30 t5 t6 t7 wr => ∃ (k : Nat) (P : List Pr) (pm : Nat) (pa : Option Addr) (pc : Nat) (v5 v6 v7 : Value), g + k = q ∧ t30 = .int .i64 ((k : Nat) : Int) ∧ t5 = v5 ∧ t6 = v6 ∧ t7 = v7 ∧ Hid (AloneK G LL k P) ∧ Hid (P.length = pm) ∧ Hid (wr.heap[X3]? = some (.cells #[.int .i64 (G 0), .int .i64 (G 1), .int .i64 (G 2), .int .i64 (G 3), .int .i64 (G 4), .int .i64 (G 5), .int .i64 (G 6), .int .i64 (G 7), .int .i64 (G 8), .int .i64 (G 9), .int .i64 (G 10), .int .i64 (G 11), .int .i64 (G 12), .int .i64 (G 13), .int .i64 (G 14), .int .i64 (G 15), .slice pa pm pc] 25 (0, 0))) ∧ Hid (wr.ownsRow V.heap.size 45 4 (.slice pa pm pc) pm (prcells P)) ∧ Hid (wr.heap[X1]? = some (.cells #[.int .i64 (G 0), .int .i64 (G 1), .int .i64 (G 2), .int .i64 (G 3), .int .i64 (G 4), .int .i64 (G 5), .int .i64 (G 6), .int .i64 (G 7), .int .i64 (G 8), .int .i64 (G 9), .int .i64 (G 10), .int .i64 (G 11), .int .i64 (G 12), .int .i64 (G 13), .int .i64 (G 14), .int .i64 (G 15), .slice a n c] 25 (0, 0))) ∧ Hid (Glob wr) ∧ Hid (Below V.heap.size V wr) ∧ Hid (wr.ownsRow V.heap.size 45 4 (.slice ca q cc) q (prcells LL)))
      case atStart => exact ⟨0, LL, q, ap, cp, _, _, _, rfl, rfl, rfl, rfl, rfl, hid (alone_0 HOK.out HPL.out), HQ, KX3_29, HRP_28, KX1_25, HGL_27, HB_26, HRC⟩
      case round =>
        obtain ⟨k, P, pm, pa, pc, v5, v6, v7, hk, rfl, hv5, hv6, hv7, HA, HPM, KX3, HRP, KX1, HGL, HB, HRC⟩ := hrel
        subst hv5 hv6 hv7
        have HK := hid hk
        have hpm : pm ≤ 16 := by rw [← HPM.out]; exact ok_len HA.out.ok
        have hlpm := (Leads.of_own1 HRP.out).len
        clear hk
        by_cases hlt : k < q
        · obtain ⟨⟨z0, z1, z2, z3⟩, hz⟩ : ∃ z, LL[k]? = some z := ⟨_, List.getElem?_eq_getElem (by rw [HQ.out]; exact hlt)⟩
          obtain ⟨b, off, rfl, -, hcx⟩ := (Leads.of_own1 HRC.out).pr hlt hz
          obtain ⟨f0, f1, f2, f3⟩ := hcx wr (Below.refl _ _)
          have HZ := hid hz
          dsimp only at f0 f1 f2 f3
          clear hcx hz
          have LTX5_HRP := hid (fun k hk => own_lt HRP.out k hk)
          have LTX5_HRC := hid (fun k hk => own_lt HRC.out k hk)
          obtain ⟨w7_158, hw7_158, hbn, hsn, hln⟩ := laid wr #[.int .u64 0, .int .u64 0, .bool false, .int .u64 0] 45
          obtain ⟨X5, hNMX5⟩ : ∃ X, wr.heap.size = X := ⟨_, rfl⟩
          rw [hNMX5] at hln
          have nX3X5 : X3 < X5 := by have := lt_laid KX3.out; omega
          have nX1X5 : X1 < X5 := by have := lt_laid KX1.out; omega
          have hVX5 : V.heap.size ≤ X5 := by have := HB.out.size; omega
          have KX3_30 := hid (keep_laid KX3.out hbn)
          have HRP_31 := hid (own_grow HRP.out hbn)
          have KX1_32 := hid (keep_laid KX1.out hbn)
          have HGL_33 := hid (HGL.out.grow hbn)
          have HB_34 := hid (HB.out.trans (hbn.mono HB.out.size))
          have HRC_35 := hid (own_grow HRC.out hbn)
          clear KX3 HRP KX1 HGL HB HRC hbn hsn
          have KX5_36 := hid (hln)
          clear hln
          have KX5_36_o := KX5_36.out
          obtain ⟨u8_174, hu8_174, a1, a2, a3, a4⟩ := putN4 KX5_36.out (.int .u64 ((z0 : Nat) : Int)) (.int .u64 ((z1 : Nat) : Int)) (.bool z2) (.int .u64 ((z3 : Nat) : Int))
          obtain ⟨z0, zf0, z1, zf1, z2, zf2, z3, zf3⟩ := fcl4 (KX5_36.out)
          have E9_174 := hid hu8_174
          have KX3_37 := hid (a2 X3 _ (by omega) KX3_30.out)
          have HRP_38 := hid (own_keep HRP_31.out fun k o hk ho => a2 k o (by have := LTX5_HRP.out k hk; omega) ho)
          have KX1_39 := hid (a2 X1 _ (by omega) KX1_32.out)
          have HGL_40 := hid (Glob.far HGL_33.out a2 (by omega))
          have HB_41 := hid (a3 _ _ (by omega) HB_34.out)
          have HRC_42 := hid (own_keep HRC_35.out fun k o hk ho => a2 k o (by have := LTX5_HRC.out k hk; omega) ho)
          have KX5_43 := hid (a1)
          clear KX3_30 HRP_31 KX1_32 HGL_33 HB_34 HRC_35 KX5_36 hu8_174 a1 a2 a3 a4
          clear KX5_36_o
          go_upto_region 9 with (fail)
          rw [← E9_174.out]
          clear z0 z1 z2 z3 zf0 zf1 zf2 zf3 hNMX5 hw7_158 f0 f1 f2 f3
          obtain ⟨f0, f1, f2, f3⟩ := ncl4 (KX5_43.out)
          clear f1 f2 f3
          have HRU := hid (Runs_any pm pc z0 pa G P u8_174 HGL_40.out (Leads.of_own1 HRP_38.out) HPM.out (by omega) HGG.out HA.out.bnd)
          unfold runsP at HRU
          rw [(okP_iff G P).2 HA.out.ok, Bool.true_and] at HRU
          by_cases h1 : z0 = 1
          · have t1 : (((z0 : Nat) : Int) == 1) = true := by simp; omega
            have H1 := hid h1
            clear h1
            go_wp2
            go_roundg (gk - 1)
            case measure => have := HK.out; omega
            case rel => exact ⟨k + 1, P, pm, pa, pc, _, _, _, by have := HK.out; omega, by go_num, rfl, rfl, rfl, hid (alone_skip HA.out HZ.out (.inl H1.out)), HPM, KX3_37, HRP_38, KX1_39, HGL_40, HB_41, HRC_42⟩
          · have t1 : (((z0 : Nat) : Int) == 1) = false := by simp; omega
            have H1 := hid h1
            clear h1
            cases hr : runsB P z0 with
            | false =>
              have HR := hid hr
              rw [hr] at HRU
              clear hr
              go_wp2_with (refine wp_loadG rfl 25 (.tmp 3) rfl X3 _ rfl _ KX3_37.out _ Tryd.underlying25 rfl (by kernel_rfl) ?_; intro v hv; subst hv)
              refine (HRU.out).mono ?_
              rintro e w10_210 ⟨rfl, hbn⟩
              have KX3_44 := hid (keep_laid KX3_37.out hbn)
              have HRP_45 := hid (own_grow HRP_38.out hbn)
              have KX1_46 := hid (keep_laid KX1_39.out hbn)
              have HGL_47 := hid (HGL_40.out.grow hbn)
              have HB_48 := hid (HB_41.out.trans (hbn.mono HB_41.out.size))
              have HRC_49 := hid (own_grow HRC_42.out hbn)
              have KX5_50 := hid (keep_laid KX5_43.out hbn)
              clear KX3_37 HRP_38 KX1_39 HGL_40 HB_41 HRC_42 KX5_43 hbn HRU f0
              go_wp2
              go_roundg (gk - 1)
              case measure => have := HK.out; omega
              case rel => exact ⟨k + 1, P, pm, pa, pc, _, _, _, by have := HK.out; omega, by go_num, rfl, rfl, rfl, hid (alone_skip HA.out HZ.out (.inr HR.out)), HPM, KX3_44, HRP_45, KX1_46, HGL_47, HB_48, HRC_49⟩
            | true =>
              have HR := hid hr
              rw [hr] at HRU
              clear hr
              go_wp2_with (refine wp_loadG rfl 25 (.tmp 3) rfl X3 _ rfl _ KX3_37.out _ Tryd.underlying25 rfl (by kernel_rfl) ?_; intro v hv; subst hv)
              refine (HRU.out).mono ?_
              rintro e w10_229 ⟨rfl, hbn⟩
              have KX3_44 := hid (keep_laid KX3_37.out hbn)
              have HRP_45 := hid (own_grow HRP_38.out hbn)
              have KX1_46 := hid (keep_laid KX1_39.out hbn)
              have HGL_47 := hid (HGL_40.out.grow hbn)
              have HB_48 := hid (HB_41.out.trans (hbn.mono HB_41.out.size))
              have HRC_49 := hid (own_grow HRC_42.out hbn)
              have KX5_50 := hid (keep_laid KX5_43.out hbn)
              clear KX3_37 HRP_38 KX1_39 HGL_40 HB_41 HRC_42 KX5_43 hbn HRU f0
              obtain ⟨hex, hnx⟩ := alone_exit HA.out HZ.out H1.out HR.out
              dsimp only at hex hnx
              obtain ⟨P2, hP2⟩ : ∃ l, P.filterMap (exitF z0 3) = l := ⟨_, rfl⟩
              obtain ⟨m2, hm2⟩ : ∃ m, P2.length = m := ⟨_, rfl⟩
              rw [hP2] at hex hnx
              have HNX := hid hnx
              have HM2 := hid hm2
              have HEX := hid (Exit_any pm pc z0 3 pa G P w10_229 HGL_47.out (Leads.of_own1 HRP_45.out) HPM.out (by omega) HGG.out HA.out.bnd (HPL.out _ (List.mem_of_getElem? HZ.out)).1 (by omega))
              rw [hex] at HEX
              unfold Gives2 at HEX
              dsimp only at HEX
              rw [hm2] at HEX
              clear hex hnx hP2 hm2
              obtain ⟨f0, f1, f2, f3⟩ := ncl4 (KX5_50.out)
              clear f1 f2 f3
              go_wp2_with (refine wp_loadW rfl 25 (.tmp 3) rfl X3 _ rfl _ KX3_44.out _ Tryd.underlying25 rfl (by kernel_rfl) ?_; intro v hv; subst hv)
              refine (HEX.out).mono ?_
              rintro e w11_255 ⟨hbn, a2, c2, rfl, hrow⟩
              have hwV : V.heap.size ≤ w10_229.heap.size := HB_48.out.size
              have KX3_51 := hid (keep_laid KX3_44.out hbn)
              have HRP_52 := hid (own_grow HRP_45.out hbn)
              have KX1_53 := hid (keep_laid KX1_46.out hbn)
              have HGL_54 := hid (HGL_47.out.grow hbn)
              have HB_55 := hid (HB_48.out.trans (hbn.mono HB_48.out.size))
              have HRC_56 := hid (own_grow HRC_49.out hbn)
              have KX5_57 := hid (keep_laid KX5_50.out hbn)
              clear KX3_44 HRP_45 KX1_46 HGL_47 HB_48 HRC_49 KX5_50 hbn
              have HR2 := hid (own_base hrow hwV)
              have hlr2 := (Leads.of_own1 hrow).len
              clear hrow hwV
              obtain ⟨w12_270, hw12_270, hbn, hsn, hln⟩ := laid w11_255 #[.int .i64 0, .int .i64 0, .int .i64 0, .int .i64 0, .int .i64 0, .int .i64 0, .int .i64 0, .int .i64 0, .int .i64 0, .int .i64 0, .int .i64 0, .int .i64 0, .int .i64 0, .int .i64 0, .int .i64 0, .int .i64 0, .slice none 0 0] 25
              obtain ⟨X6, hNMX6⟩ : ∃ X, w11_255.heap.size = X := ⟨_, rfl⟩
              rw [hNMX6] at hln
              have nX3X6 : X3 < X6 := by have := lt_laid KX3_51.out; omega
              have nX1X6 : X1 < X6 := by have := lt_laid KX1_53.out; omega
              have nX5X6 : X5 < X6 := by have := lt_laid KX5_57.out; omega
              have hVX6 : V.heap.size ≤ X6 := by have := HB_55.out.size; omega
              have KX3_58 := hid (keep_laid KX3_51.out hbn)
              have HRP_59 := hid (own_grow HRP_52.out hbn)
              have KX1_60 := hid (keep_laid KX1_53.out hbn)
              have HGL_61 := hid (HGL_54.out.grow hbn)
              have HB_62 := hid (HB_55.out.trans (hbn.mono HB_55.out.size))
              have HRC_63 := hid (own_grow HRC_56.out hbn)
              have KX5_64 := hid (keep_laid KX5_57.out hbn)
              have HR2_65 := hid (own_grow HR2.out hbn)
              clear KX3_51 HRP_52 KX1_53 HGL_54 HB_55 HRC_56 KX5_57 HR2 hbn hsn
              have KX6_66 := hid (hln)
              clear hln
              go_upto_region 11 with (refine wp_storeW rfl 25 (.tmp 6) (.tmp 49) rfl X6 _ _ rfl rfl _ KX6_66.out (by kernel_rfl) (by rfl) (by simp [Value.oneCell']) ?_; intro u13_288 a1 a2 a3 a4; have HA1 := hid a1; have HA2 := hid a2; have HA3 := hid a3; clear a1 a2 a3 a4)
              have KX3_67 := hid (HA2.out X3 _ (by omega) KX3_58.out)
              have HRP_68 := hid (own_keep HRP_59.out fun k o hk ho => HA2.out k o (fun e => own_neP HRP_59.out KX6_66.out (by decide) (by rw [← e]; exact hk)) ho)
              have KX1_69 := hid (HA2.out X1 _ (by omega) KX1_60.out)
              have HGL_70 := hid (Glob.far HGL_61.out HA2.out (by omega))
              have HB_71 := hid (HA3.out _ _ (by omega) HB_62.out)
              have HRC_72 := hid (own_keep HRC_63.out fun k o hk ho => HA2.out k o (fun e => own_neP HRC_63.out KX6_66.out (by decide) (by rw [← e]; exact hk)) ho)
              have KX5_73 := hid (HA2.out X5 _ (by omega) KX5_64.out)
              have HR2_74 := hid (own_keep HR2_65.out fun k o hk ho => HA2.out k o (fun e => own_neP HR2_65.out KX6_66.out (by decide) (by rw [← e]; exact hk)) ho)
              have KX6_75 := hid (HA1.out)
              clear HA1 HA2 HA3 KX3_58 HRP_59 KX1_60 HGL_61 HB_62 HRC_63 KX5_64 HR2_65 KX6_66 hNMX6 hw12_270
              go_upto_region 13 with (fail)
              go_wp2_with (first | (refine wp_loadW rfl 25 (.tmp 6) rfl X6 _ rfl _ KX6_75.out _ Tryd.underlying25 rfl (by kernel_rfl) ?_; intro v hv; subst hv) | (refine wp_storeW rfl 25 (.tmp 3) (.tmp 53) rfl X3 _ _ rfl rfl _ KX3_67.out (by kernel_rfl) (by rfl) (by simp [Value.oneCell']) ?_; intro u20 a1 a2 a3 a4; have HA1 := hid a1; have HA2 := hid a2; have HA3 := hid a3; clear a1 a2 a3 a4))
              have KX3_76 := hid (HA1.out)
              have HRP_77 := hid (own_keep HRP_68.out fun k o hk ho => HA2.out k o (fun e => own_neP HRP_68.out KX3_67.out (by decide) (by rw [← e]; exact hk)) ho)
              have KX1_78 := hid (HA2.out X1 _ (by omega) KX1_69.out)
              have HGL_79 := hid (Glob.far HGL_70.out HA2.out (by omega))
              have HB_80 := hid (HA3.out _ _ (by omega) HB_71.out)
              have HRC_81 := hid (own_keep HRC_72.out fun k o hk ho => HA2.out k o (fun e => own_neP HRC_72.out KX3_67.out (by decide) (by rw [← e]; exact hk)) ho)
              have KX5_82 := hid (HA2.out X5 _ (by omega) KX5_73.out)
              have HR2_83 := hid (own_keep HR2_74.out fun k o hk ho => HA2.out k o (fun e => own_neP HR2_74.out KX3_67.out (by decide) (by rw [← e]; exact hk)) ho)
              have KX6_84 := hid (HA2.out X6 _ (by omega) KX6_75.out)
              clear HA1 HA2 HA3 KX3_67 HRP_68 KX1_69 HGL_70 HB_71 HRC_72 KX5_73 HR2_74 KX6_75
              go_roundg (gk - 1)
              case measure => have := HK.out; omega
              case rel => exact ⟨k + 1, P2, m2, a2, c2, _, _, _, by have := HK.out; omega, by go_num, rfl, rfl, rfl, HNX, HM2, KX3_76, HR2_83, KX1_78, HGL_79, HB_80, HRC_81⟩
        · have hkq : k = q := by have := HK.out; omega
          subst hkq
          obtain ⟨rest, hP, hleft⟩ := alone_end (by rw [HQ.out]; exact HA.out)
          have HLF := hid hleft
          have HKI := hid (Kids_any pm pc 1 pa G P wr HGL.out (Leads.of_own1 HRP.out) HPM.out (by omega) HGG.out HA.out.bnd (by omega))
          rw [hP] at HKI HPM HRP
          rw [left_kids hleft] at HKI
          unfold GivesW at HKI
          obtain ⟨r, hr⟩ : ∃ r, (rest.map (·.1)).length = r := ⟨_, rfl⟩
          rw [hr] at HKI
          have HRL := hid hr
          have hr16 : r ≤ 16 := by rw [← hr, List.length_map]; have := HPM.out; rw [List.length_cons] at this; omega
          clear hP hleft hr HA HRC HK hlt
          go_wp2_with (refine wp_loadW rfl 25 (.tmp 3) rfl X3 _ rfl _ KX3.out _ Tryd.underlying25 rfl (by kernel_rfl) ?_; intro v hv; subst hv)
          refine (HKI.out).mono ?_
          rintro e w7_327 ⟨v, rfl, hrow, hbn⟩
          have hwV : V.heap.size ≤ wr.heap.size := HB.out.size
          have KX3_30 := hid (keep_laid KX3.out hbn)
          have HRP_31 := hid (own_grow HRP.out hbn)
          have KX1_32 := hid (keep_laid KX1.out hbn)
          have HGL_33 := hid (HGL.out.grow hbn)
          have HB_34 := hid (HB.out.trans (hbn.mono HB.out.size))
          clear KX3 HRP KX1 HGL HB hbn
          have HRW := hid (own_base hrow hwV)
          obtain ⟨ka, kc, rfl, -⟩ := Leads.of_own hrow
          have hlk := (Leads.of_own1 hrow).len
          clear hrow hwV
          go_wp2
          go_loopg [58, 9, 10, 11, 12] r (fun g t58 t9 t10 t11 t12 wr => ∃ (j : Nat) (R : List Pr) (pm : Nat) (pa : Option Addr) (pc : Nat) (v9 v10 v11 v12 : Value), g + j = r ∧ t58 = .int .i64 ((j : Nat) : Int) ∧ t9 = v9 ∧ t10 = v10 ∧ t11 = v11 ∧ t12 = v12 ∧ Hid (R = rest.drop j ∧ Left G R) ∧ Hid ((firstP :: R).length = pm) ∧ Hid (wr.heap[X3]? = some (.cells #[.int .i64 (G 0), .int .i64 (G 1), .int .i64 (G 2), .int .i64 (G 3), .int .i64 (G 4), .int .i64 (G 5), .int .i64 (G 6), .int .i64 (G 7), .int .i64 (G 8), .int .i64 (G 9), .int .i64 (G 10), .int .i64 (G 11), .int .i64 (G 12), .int .i64 (G 13), .int .i64 (G 14), .int .i64 (G 15), .slice pa pm pc] 25 (0, 0))) ∧ Hid (wr.ownsRow V.heap.size 45 4 (.slice pa pm pc) pm (prcells (firstP :: R))) ∧ Hid (wr.heap[X1]? = some (.cells #[.int .i64 (G 0), .int .i64 (G 1), .int .i64 (G 2), .int .i64 (G 3), .int .i64 (G 4), .int .i64 (G 5), .int .i64 (G 6), .int .i64 (G 7), .int .i64 (G 8), .int .i64 (G 9), .int .i64 (G 10), .int .i64 (G 11), .int .i64 (G 12), .int .i64 (G 13), .int .i64 (G 14), .int .i64 (G 15), .slice a n c] 25 (0, 0))) ∧ Hid (Glob wr) ∧ Hid (Below V.heap.size V wr) ∧ Hid (wr.ownsRow V.heap.size 29 1 (.slice ka r kc) r (wcells (rest.map (·.1)))))
          case atStart => exact ⟨0, rest, pm, pa, pc, _, _, _, _, rfl, rfl, rfl, rfl, rfl, rfl, hid ⟨rfl, HLF.out⟩, HPM, KX3_30, HRP_31, KX1_32, HGL_33, HB_34, HRW⟩
          case round =>
            clear hpm hlpm
            obtain ⟨j, R, pm, pa, pc, v9, v10, v11, v12, hj, rfl, hv9, hv10, hv11, hv12, HJ, HPM, KX3, HRP, KX1, HGL, HB, HRW⟩ := hrel
            subst hv9 hv10 hv11 hv12
            have HK := hid hj
            have hpm : pm ≤ 16 := by rw [← HPM.out]; exact ok_len HJ.out.2.ok
            have hlpm := (Leads.of_own1 HRP.out).len
            clear hj
            by_cases hlt : j < r
            · have hjl : j < rest.length := by have := HRL.out; rw [List.length_map] at this; omega
              obtain ⟨y, R2, hR⟩ : ∃ y R2, R = y :: R2 := by
                rw [HJ.out.1]
                exact ⟨_, _, List.drop_eq_getElem_cons hjl⟩
              have hy : rest[j]? = some y ∧ R2 = rest.drop (j + 1) := by
                have := HJ.out.1
                rw [hR, List.drop_eq_getElem_cons hjl] at this
                simp only [List.cons.injEq] at this
                exact ⟨by rw [List.getElem?_eq_getElem hjl, this.1], this.2⟩
              subst hR
              obtain ⟨hwt, hnx⟩ := left_wait HJ.out.2
              obtain ⟨b, off, rfl, -, hcx⟩ := (Leads.of_own1 HRW.out).at hlt (wcell_at (x := y.1) (by rw [List.getElem?_map, hy.1]; rfl))
              have f0 := hcx wr (Below.refl _ _)
              obtain ⟨pid, hpid⟩ : ∃ p, y.1 = p := ⟨_, rfl⟩
              obtain ⟨cd, hcd⟩ : ∃ p, y.2.2.2 = p := ⟨_, rfl⟩
              have hpb : pid < 18446744073709551616 := by rw [← hpid]; exact (HJ.out.2.bnd y (by simp)).1
              rw [hpid] at f0 hwt
              rw [hcd] at hwt
              have HY := hid hy
              have HNX := hid hnx
              obtain ⟨m2, hm2⟩ : ∃ m, (firstP :: R2).length = m := ⟨_, rfl⟩
              have HM2 := hid hm2
              have HWT := hid (Wait_any pm pc 1 pid pa G (firstP :: y :: R2) wr HGL.out (Leads.of_own1 HRP.out) HPM.out (by omega) HGG.out HJ.out.2.bnd (by omega) hpb)
              rw [hwt] at HWT
              unfold Gives3 at HWT
              dsimp only at HWT
              rw [hm2] at HWT
              clear hwt hnx hcx hy hm2 hpid hcd
              go_wp2_with (refine wp_loadW rfl 25 (.tmp 3) rfl X3 _ rfl _ KX3.out _ Tryd.underlying25 rfl (by kernel_rfl) ?_; intro v hv; subst hv)
              refine (HWT.out).mono ?_
              rintro e w8_382 ⟨hbn, a2, c2, rfl, hrow⟩
              have hwV : V.heap.size ≤ wr.heap.size := HB.out.size
              have KX3_35 := hid (keep_laid KX3.out hbn)
              have HRP_36 := hid (own_grow HRP.out hbn)
              have KX1_37 := hid (keep_laid KX1.out hbn)
              have HGL_38 := hid (HGL.out.grow hbn)
              have HB_39 := hid (HB.out.trans (hbn.mono HB.out.size))
              have HRW_40 := hid (own_grow HRW.out hbn)
              clear KX3 HRP KX1 HGL HB HRW hbn
              have HR2 := hid (own_base hrow hwV)
              have hlr2 := (Leads.of_own1 hrow).len
              clear hrow hwV
              obtain ⟨w9_396, hw9_396, hbn, hsn, hln⟩ := laid w8_382 #[.int .i64 0, .int .i64 0, .int .i64 0, .int .i64 0, .int .i64 0, .int .i64 0, .int .i64 0, .int .i64 0, .int .i64 0, .int .i64 0, .int .i64 0, .int .i64 0, .int .i64 0, .int .i64 0, .int .i64 0, .int .i64 0, .slice none 0 0] 25
              obtain ⟨X10, hNMX10⟩ : ∃ X, w8_382.heap.size = X := ⟨_, rfl⟩
              rw [hNMX10] at hln
              have nX3X10 : X3 < X10 := by have := lt_laid KX3_35.out; omega
              have nX1X10 : X1 < X10 := by have := lt_laid KX1_37.out; omega
              have hVX10 : V.heap.size ≤ X10 := by have := HB_39.out.size; omega
              have KX3_41 := hid (keep_laid KX3_35.out hbn)
              have HRP_42 := hid (own_grow HRP_36.out hbn)
              have KX1_43 := hid (keep_laid KX1_37.out hbn)
              have HGL_44 := hid (HGL_38.out.grow hbn)
              have HB_45 := hid (HB_39.out.trans (hbn.mono HB_39.out.size))
              have HRW_46 := hid (own_grow HRW_40.out hbn)
              have HR2_47 := hid (own_grow HR2.out hbn)
              clear KX3_35 HRP_36 KX1_37 HGL_38 HB_39 HRW_40 HR2 hbn hsn
              have KX10_48 := hid (hln)
              clear hln
              go_upto_region 19 with (refine wp_storeW rfl 25 (.tmp 10) (.tmp 66) rfl X10 _ _ rfl rfl _ KX10_48.out (by kernel_rfl) (by rfl) (by simp [Value.oneCell']) ?_; intro u10_412 a1 a2 a3 a4; have HA1 := hid a1; have HA2 := hid a2; have HA3 := hid a3; clear a1 a2 a3 a4)
              have KX3_49 := hid (HA2.out X3 _ (by omega) KX3_41.out)
              have HRP_50 := hid (own_keep HRP_42.out fun k o hk ho => HA2.out k o (fun e => own_neP HRP_42.out KX10_48.out (by decide) (by rw [← e]; exact hk)) ho)
              have KX1_51 := hid (HA2.out X1 _ (by omega) KX1_43.out)
              have HGL_52 := hid (Glob.far HGL_44.out HA2.out (by omega))
              have HB_53 := hid (HA3.out _ _ (by omega) HB_45.out)
              have HRW_54 := hid (own_keep HRW_46.out fun k o hk ho => HA2.out k o (fun e => own_neP HRW_46.out KX10_48.out (by decide) (by rw [← e]; exact hk)) ho)
              have HR2_55 := hid (own_keep HR2_47.out fun k o hk ho => HA2.out k o (fun e => own_neP HR2_47.out KX10_48.out (by decide) (by rw [← e]; exact hk)) ho)
              have KX10_56 := hid (HA1.out)
              clear HA1 HA2 HA3 KX3_41 HRP_42 KX1_43 HGL_44 HB_45 HRW_46 HR2_47 KX10_48 hNMX10 hw9_396
              go_upto_region 21 with (fail)
              go_wp2_with (first | (refine wp_loadW rfl 25 (.tmp 10) rfl X10 _ rfl _ KX10_56.out _ Tryd.underlying25 rfl (by kernel_rfl) ?_; intro v hv; subst hv) | (refine wp_storeW rfl 25 (.tmp 3) (.tmp 71) rfl X3 _ _ rfl rfl _ KX3_49.out (by kernel_rfl) (by rfl) (by simp [Value.oneCell']) ?_; intro u20 a1 a2 a3 a4; have HA1 := hid a1; have HA2 := hid a2; have HA3 := hid a3; clear a1 a2 a3 a4))
              have KX3_57 := hid (HA1.out)
              have HRP_58 := hid (own_keep HRP_50.out fun k o hk ho => HA2.out k o (fun e => own_neP HRP_50.out KX3_49.out (by decide) (by rw [← e]; exact hk)) ho)
              have KX1_59 := hid (HA2.out X1 _ (by omega) KX1_51.out)
              have HGL_60 := hid (Glob.far HGL_52.out HA2.out (by omega))
              have HB_61 := hid (HA3.out _ _ (by omega) HB_53.out)
              have HRW_62 := hid (own_keep HRW_54.out fun k o hk ho => HA2.out k o (fun e => own_neP HRW_54.out KX3_49.out (by decide) (by rw [← e]; exact hk)) ho)
              have HR2_63 := hid (own_keep HR2_55.out fun k o hk ho => HA2.out k o (fun e => own_neP HR2_55.out KX3_49.out (by decide) (by rw [← e]; exact hk)) ho)
              have KX10_64 := hid (HA2.out X10 _ (by omega) KX10_56.out)
              clear HA1 HA2 HA3 KX3_49 HRP_50 KX1_51 HGL_52 HB_53 HRW_54 HR2_55 KX10_56
              go_roundg (gk - 1)
              case measure => have := HK.out; omega
              case rel => exact ⟨j + 1, R2, m2, a2, c2, _, _, _, _, by have := HK.out; omega, by go_num, rfl, rfl, rfl, rfl, hid ⟨HY.out.2, HNX.out⟩, HM2, KX3_57, HR2_63, KX1_59, HGL_60, HB_61, HRW_62⟩
            · have hjr : j = r := by have := HK.out; omega
              subst hjr
              obtain rfl : R = [] := by rw [HJ.out.1, List.drop_eq_nil_of_le (by have := HRL.out; rw [List.length_map] at this; omega)]
              obtain rfl : pm = 1 := HPM.out.symm
              have HEX := hid (Exit_any 1 pc 1 0 pa G [firstP] wr HGL.out (Leads.of_own1 HRP.out) rfl (by omega) HGG.out HJ.out.2.bnd (by omega) (by omega))
              rw [left_end HJ.out.2] at HEX
              go_wp2_with (refine wp_loadW rfl 25 (.tmp 3) rfl X3 _ rfl _ KX3.out _ Tryd.underlying25 rfl (by kernel_rfl) ?_; intro v hv; subst hv)
              refine (HEX.out).mono ?_
              rintro e w8_443 ⟨hbn, rfl⟩
              have KX3_35 := hid (keep_laid KX3.out hbn)
              have HRP_36 := hid (own_grow HRP.out hbn)
              have KX1_37 := hid (keep_laid KX1.out hbn)
              have HGL_38 := hid (HGL.out.grow hbn)
              have HB_39 := hid (HB.out.trans (hbn.mono HB.out.size))
              clear KX3 HRP KX1 HGL HB hbn HEX
              obtain ⟨w9_452, hw9_452, hbn, hsn, hln⟩ := laid w8_443 #[.int .i64 0, .int .i64 0, .int .i64 0, .int .i64 0, .int .i64 0, .int .i64 0, .int .i64 0, .int .i64 0, .int .i64 0, .int .i64 0, .int .i64 0, .int .i64 0, .int .i64 0, .int .i64 0, .int .i64 0, .int .i64 0, .slice none 0 0] 25
              obtain ⟨X13, hNMX13⟩ : ∃ X, w8_443.heap.size = X := ⟨_, rfl⟩
              rw [hNMX13] at hln
              have nX3X13 : X3 < X13 := by have := lt_laid KX3_35.out; omega
              have nX1X13 : X1 < X13 := by have := lt_laid KX1_37.out; omega
              have hVX13 : V.heap.size ≤ X13 := by have := HB_39.out.size; omega
              have KX3_40 := hid (keep_laid KX3_35.out hbn)
              have HRP_41 := hid (own_grow HRP_36.out hbn)
              have KX1_42 := hid (keep_laid KX1_37.out hbn)
              have HGL_43 := hid (HGL_38.out.grow hbn)
              have HB_44 := hid (HB_39.out.trans (hbn.mono HB_39.out.size))
              clear KX3_35 HRP_36 KX1_37 HGL_38 HB_39 hbn hsn
              have KX13_45 := hid (hln)
              clear hln
              go_upto_region 24 with (refine wp_storeW rfl 25 (.tmp 13) (.tmp 76) rfl X13 _ _ rfl rfl _ KX13_45.out (by kernel_rfl) (by rfl) (by simp [Value.oneCell']) ?_; intro u10_466 a1 a2 a3 a4; have HA1 := hid a1; have HA2 := hid a2; have HA3 := hid a3; clear a1 a2 a3 a4)
              have KX3_46 := hid (HA2.out X3 _ (by omega) KX3_40.out)
              have HRP_47 := hid (own_keep HRP_41.out fun k o hk ho => HA2.out k o (fun e => own_neP HRP_41.out KX13_45.out (by decide) (by rw [← e]; exact hk)) ho)
              have KX1_48 := hid (HA2.out X1 _ (by omega) KX1_42.out)
              have HGL_49 := hid (Glob.far HGL_43.out HA2.out (by omega))
              have HB_50 := hid (HA3.out _ _ (by omega) HB_44.out)
              have KX13_51 := hid (HA1.out)
              clear HA1 HA2 HA3 KX3_40 HRP_41 KX1_42 HGL_43 HB_44 KX13_45 hNMX13 hw9_452
              obtain ⟨b, off, rfl, -, hcx⟩ := (Leads.of_own1 HRP_47.out).pr (k := 0) (t := firstP) (by omega) rfl
              obtain ⟨f0, f1, f2, f3⟩ := hcx u10_466 (Below.refl _ _)
              rw [Nat.zero_mul, Nat.add_zero] at f0 f1 f2 f3
              dsimp only at f0 f1 f2 f3
              have hpe : ∀ w, (Op.equalIn 10000 45 (.agg #[.int .u64 1, .int .u64 0, .bool false, .int .u64 0]) (.agg #[.int .u64 1, .int .u64 0, .bool false, .int .u64 0])).run Tryd.prog w = .ok true w := fun w => (pr_eq 1 0 0 1 0 0 false false (by decide) (by decide) w)
              have hge := gens_eq G G HGG.out HGG.out
              rw [show gEq G G = true from (gEq_iff G G).2 fun _ _ => rfl] at hge
              obtain ⟨x0, x1, x2, x3, x4, x5, x6, x7, x8, x9, x10, x11, x12, x13, x14, x15, x16⟩ := ncl17 (KX3_46.out)
              obtain ⟨y0, y1, y2, y3, y4, y5, y6, y7, y8, y9, y10, y11, y12, y13, y14, y15, y16⟩ := ncl17 (KX1_48.out)
              go_wp2
              go_ret
              exact ⟨rfl, HB_50.out⟩
end Go.Proofs.YtmnbkhmphhgdiaaDoor
