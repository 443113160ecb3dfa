/- TableKeeps: the walk of the law (printed by gen_keeps.py). -/
import Derived.Test.YtahicokokfcieaaDoorTgBb
import Derived.Deep.LoopGhost
namespace Go.Proofs.YtahicokokfcieaaDoor
open Go.RowKit
open Go.Proofs
set_option linter.unusedVariables false
attribute [local go_sem] Oper.semAt_some
set_option maxRecDepth 100000 in
set_option maxHeartbeats 16000000 in
theorem tableKeeps_walk (M : Mem) (wa la : Option Addr) (wc lc root : Nat) (a2 : Option Addr) (cap2 : Nat) (ns : List Nd) (V : World) (hg : Glob V) (h : MemL V wa wc la lc M) (hr : root < 18446744073709551616) (h2 : Leads V a2 ns.length cap2 (ndcells ns)) (hW : ∀ x ∈ M.W, x < 18446744073709551616) (hno : ∀ t ∈ ns, t.Ok) :
    Calls Tryd.prog 5 #[memV wa wc la lc M, .int .u64 ((root : Nat) : Int), .slice a2 ns.length cap2] V (Ret (.bool true) V) := by
  obtain ⟨n, hn⟩ : ∃ n, ns.length = n := ⟨_, rfl⟩
  rw [hn] at h2 ⊢
  have HN := hid hn
  have H2 := hid h2
  have HNO := hid hno
  have HG := hid hg
  have hnl := h2.len.1
  have hV0 : 0 < V.heap.size := hg.one
  have hwl := h.w.len
  have hll := h.l.len
  have HW := hid hW
  have HM0 := hid h
  clear hn h2 hno hg hW h
  unfold memV
  obtain ⟨V1, hV1, hb, hs, hl⟩ := laid V #[.slice wa M.W.length wc, .slice la M.L.length lc, .bool M.F] 38
  obtain ⟨X, hX⟩ : ∃ X, V.heap.size = X := ⟨_, rfl⟩
  rw [hX] at hl
  have hVX : V.heap.size ≤ X := by omega
  have KX_1 := hid (hl)
  have HB_2 := hid (hb)
  clear hb hs hl
  go_enter Tryd.func5, Tryd.ntmps5
  go_wp2_with fail
  refine (wakes_any V1 (HG.out.grow HB_2.out)).mono ?_
  rintro e w3 ⟨rfl, hb⟩
  have KX_4 := hid (keep_laid KX_1.out hb)
  have HB_5 := hid (step HB_2.out hb)
  clear KX_1 HB_2 hb hX
  have x0 := cell_laid (i := 0) KX_4.out rfl
  have x1 := cell_laid (i := 1) KX_4.out rfl
  have x2 := cell_laid (i := 2) KX_4.out rfl
  have hbz := HB_5.out.size
  go_wp2_with fail
  refine (lawown_any M wa la wc lc w3 (HM0.out.grow HB_5.out)).mono ?_
  rintro e w6 ⟨ya, yc, za, zc, rfl, ho, hb⟩
  have KX_7 := hid (keep_laid KX_4.out hb)
  have HB_8 := hid (step HB_5.out hb)
  clear KX_4 HB_5 hb x0 x1 x2
  obtain ⟨M1, hM1⟩ : ∃ x, take96 M = x := ⟨_, rfl⟩
  have hW1 := take96_wok HW.out
  rw [hM1] at ho hW1 ⊢
  have HW1 := hid hW1
  clear hM1 hW1
  have HO_9 : Hid (MemO V.heap.size ya yc za zc M1 w6) := hid (ho.base hbz)
  clear ho hbz
  unfold memV
  have yl := HO_9.out.memL.w.len
  have zl := HO_9.out.memL.l.len
  obtain ⟨w10, hw10, hb, hs, hl⟩ := laid w6 #[.slice none 0 0, .slice none 0 0, .bool false] 38
  obtain ⟨Y, hY⟩ : ∃ X, w6.heap.size = X := ⟨_, rfl⟩
  rw [hY] at hl
  have nXY : X ≠ Y := by have := lt_laid KX_7.out; omega
  have hVY : V.heap.size ≤ Y := by have := HB_8.out.size; omega
  have KX_11 := hid (keep_laid KX_7.out hb)
  have HB_12 := hid (step HB_8.out hb)
  have HO_13 := hid (HO_9.out.grow hb)
  clear KX_7 HB_8 HO_9
  have KY_14 := hid (hl)
  clear hb hs hl
  go_wp2_with (refine wp_storeP rfl 38 (.tmp 7) (.tmp 32) rfl Y 0 _ #[.slice ya M1.W.length yc, .slice za M1.L.length zc, .bool M1.F] _ rfl rfl _ KY_14.out (by kernel_rfl) (Nat.le_of_ble_eq_true rfl) (by kernel_rfl) rfl ?_; intro w15 a1 a2 a3 a4; have KX_16 := hid (a2 _ _ (by first | exact nXY | exact Ne.symm nYX) KX_11.out); have HB_17 := hid (a3 V.heap.size V hVY HB_12.out); have HO_18 : Hid (MemO V.heap.size ya yc za zc M1 w15) := hid (⟨own_keep HO_13.out.w fun k o hk ho => a2 k o (own_neT HO_13.out.w KY_14.out (by decide) k hk) ho, own_keep HO_13.out.l fun k o hk ho => a2 k o (own_neT HO_13.out.l KY_14.out (by decide) k hk) ho⟩); have KY_19 := hid (a1); clear a1 a2 a3 a4 KX_11 HB_12 HO_13 KY_14; (try simp only [Act.put]))
  clear hY yl zl
  clear KX_16
  have HK0 : Hid (KInv V Y M1 ya yc za zc w15) := hid ⟨KY_19.out, HO_18.out, HW1.out, HB_17.out⟩
  clear HW1
  clear KY_19 HO_18 HB_17
  go_loopg [35] n (fun g i wr => ∃ (k : Nat) (Mc : Mem) (ya za : Option Addr) (yc zc : Nat), i = .int .i64 ((k : Nat) : Int) ∧ Hid (g + k = n) ∧ Hid (KInv V Y Mc ya yc za zc wr))
  case atStart => exact ⟨0, M1, ya, za, yc, zc, rfl, hid rfl, HK0⟩
  case round =>
    clear HK0
    obtain ⟨k, Mc, ya, za, yc, zc, rfl, hk, hK⟩ := hrel
    have HK := hk
    by_cases hlt : k < n
    · skip
      have KY_20 := hid (hK.out.by_)
      have HO_21 : Hid (MemO V.heap.size ya yc za zc Mc wr) := hid (hK.out.mem)
      have HB_22 := hid (hK.out.bel)
      have HWC := hid hK.out.wok
      clear hK hk
      obtain ⟨⟨t0, t1, t2, t3⟩, htk⟩ : ∃ x, ns[k]? = some x := ⟨_, List.getElem?_eq_getElem (by rw [HN.out]; exact hlt)⟩
      obtain ⟨b, off, rfl, -, hcc⟩ := H2.out.nd hlt htk
      obtain ⟨ht0, ht1, ht2, ht3⟩ := HNO.out _ (List.mem_of_getElem? htk)
      dsimp only at ht0 ht1 ht2 ht3
      obtain ⟨f0, f1, f2, f3⟩ := hcc wr HB_22.out
      have HLT := hid hlt
      have hlt' : ((k : Nat) : Int) < ((n : Nat) : Int) := by omega
      clear hcc htk
      obtain ⟨w23, hw23, hb, hs, hl⟩ := laid wr #[.int .u64 0, .int .u64 0, .int .u64 0, .int .u64 0] 57
      obtain ⟨N, hN⟩ : ∃ X, wr.heap.size = X := ⟨_, rfl⟩
      rw [hN] at hl
      have nYN : Y ≠ N := by have := lt_laid KY_20.out; omega
      have hVN : V.heap.size ≤ N := by have := HB_22.out.size; omega
      have KY_24 := hid (keep_laid KY_20.out hb)
      have HO_25 := hid (HO_21.out.grow hb)
      have HB_26 := hid (step HB_22.out hb)
      clear KY_20 HO_21 HB_22
      have KN_27 := hid (hl)
      clear hb hs hl
      cases h8 : (((k : Nat) : Int) == 8) with
      | true =>
        go_wp2_with (refine wp_storeP rfl 57 (.tmp 9) (.tmp 39) rfl N 0 _ #[.int .u64 ((t0 : Nat) : Int), .int .u64 ((t1 : Nat) : Int), .int .u64 ((t2 : Nat) : Int), .int .u64 ((t3 : Nat) : Int)] _ rfl rfl _ KN_27.out (by kernel_rfl) (Nat.le_of_ble_eq_true rfl) (by kernel_rfl) rfl ?_; intro w28 a1 a2 a3 a4; have KY_29 := hid (a2 _ _ (by first | exact nYN | exact Ne.symm nNY) KY_24.out); have HO_30 : Hid (MemO V.heap.size ya yc za zc Mc w28) := hid (⟨own_keep HO_25.out.w fun k o hk ho => a2 k o (own_neT HO_25.out.w KN_27.out (by decide) k hk) ho, own_keep HO_25.out.l fun k o hk ho => a2 k o (own_neT HO_25.out.l KN_27.out (by decide) k hk) ho⟩); have HB_31 := hid (a3 V.heap.size V hVN HB_26.out); have KN_32 := hid (a1); clear a1 a2 a3 a4 KY_24 HO_25 HB_26 KN_27; (try simp only [Act.put]))
        go_ret
        exact ⟨rfl, HB_31.out⟩
      | false =>
        skip
        go_wp2_with (refine wp_storeP rfl 57 (.tmp 9) (.tmp 39) rfl N 0 _ #[.int .u64 ((t0 : Nat) : Int), .int .u64 ((t1 : Nat) : Int), .int .u64 ((t2 : Nat) : Int), .int .u64 ((t3 : Nat) : Int)] _ rfl rfl _ KN_27.out (by kernel_rfl) (Nat.le_of_ble_eq_true rfl) (by kernel_rfl) rfl ?_; intro w28 a1 a2 a3 a4; have KY_29 := hid (a2 _ _ (by first | exact nYN | exact Ne.symm nNY) KY_24.out); have HO_30 : Hid (MemO V.heap.size ya yc za zc Mc w28) := hid (⟨own_keep HO_25.out.w fun k o hk ho => a2 k o (own_neT HO_25.out.w KN_27.out (by decide) k hk) ho, own_keep HO_25.out.l fun k o hk ho => a2 k o (own_neT HO_25.out.l KN_27.out (by decide) k hk) ho⟩); have HB_31 := hid (a3 V.heap.size V hVN HB_26.out); have KN_32 := hid (a1); clear a1 a2 a3 a4 KY_24 HO_25 HB_26 KN_27; (try simp only [Act.put]); have yl := HO_30.out.memL.w.len; have zl := HO_30.out.memL.l.len; have x0 := cell_laid (i := 0) KY_29.out rfl; have x1 := cell_laid (i := 1) KY_29.out rfl; have x2 := cell_laid (i := 2) KY_29.out rfl)
        clear hN f0 f1 f2 f3
        have HRW := hid (Rows_any root ya yc za zc Mc w28 hr HWC.out HO_30.out.memL (HG.out.grow HB_31.out))
        unfold memV at HRW
        refine HRW.out.mono ?_
        clear HRW
        rintro e w33 ⟨hb, ⟨-, rfl⟩ | ⟨-, -, rfl⟩ | ⟨hok, xs, met, v, hxs, rfl, hrow⟩⟩
        · skip
          have KY_34 := hid (keep_laid KY_29.out hb)
          have HO_35 := hid (HO_30.out.grow hb)
          have HB_36 := hid (step HB_31.out hb)
          have KN_37 := hid (keep_laid KN_32.out hb)
          clear KY_29 HO_30 HB_31 KN_32 hb x0 x1 x2
          go_wp2
          go_ret
          exact ⟨rfl, HB_36.out⟩
        · skip
          have KY_38 := hid (keep_laid KY_29.out hb)
          have HO_39 := hid (HO_30.out.grow hb)
          have HB_40 := hid (step HB_31.out hb)
          have KN_41 := hid (keep_laid KN_32.out hb)
          clear KY_29 HO_30 HB_31 KN_32 hb x0 x1 x2
          go_wp2
          go_ret
          exact ⟨rfl, HB_40.out⟩
        · skip
          have KY_42 := hid (keep_laid KY_29.out hb)
          have HO_43 := hid (HO_30.out.grow hb)
          have HB_44 := hid (step HB_31.out hb)
          have KN_45 := hid (keep_laid KN_32.out hb)
          clear KY_29 HO_30 HB_31 KN_32
          have HR_46 := hid (hrow)
          clear hb hrow x0 x1 x2
          obtain ⟨va, vc, rfl, -⟩ := Leads.of_own HR_46.out
          have HOK := hid hok
          have HXS := hid hxs
          obtain ⟨hxok, hx4⟩ := rows_ok hok HWC.out hxs
          have HXO := hid hxok
          obtain ⟨m, hm⟩ : ∃ m, xs.length = m := ⟨_, rfl⟩
          rw [hm] at hx4 HR_46
          have HM := hid hm
          clear hok hxs hxok
          have hvl := (Leads.of_own1 HR_46.out).len
          rw [hm]
          clear hm
          obtain ⟨⟨Mi, ci, ei⟩, hi⟩ : ∃ x, insT Mc root t0 t1 t2 = x := ⟨_, rfl⟩
          have x0 := cell_laid (i := 0) KY_42.out rfl
          have x1 := cell_laid (i := 1) KY_42.out rfl
          have x2 := cell_laid (i := 2) KY_42.out rfl
          have n0 : w33.cell? ⟨N, 0, none⟩ = some (.int .u64 ((t0 : Nat) : Int)) := cell_laid (i := 0) KN_45.out rfl
          have n1 : w33.cell? ⟨N, 1, none⟩ = some (.int .u64 ((t1 : Nat) : Int)) := cell_laid (i := 1) KN_45.out rfl
          have n2 : w33.cell? ⟨N, 2, none⟩ = some (.int .u64 ((t2 : Nat) : Int)) := cell_laid (i := 2) KN_45.out rfl
          have hmf : ∀ (fn : Fn) (first cap : Array Value) (w : World), (Instr.makeFunc fn first cap).run Tryd.prog w = .ok (.func fn first cap) w := fun _ _ _ _ => rfl
          have HIN := hid (TInsert_any Mc root t0 t1 t2 ya za yc zc w33 HO_43.out.memL (HG.out.grow HB_44.out) HWC.out hr ht0 ht1 ht2)
          rw [hi] at HIN
          unfold memV at HIN
          have HI := hid hi
          clear hi
          go_wp2_with fail
          refine (HIN.out).mono ?_
          rintro e w47 ⟨ia, ic, ja, jc, rfl, hoi, hb⟩
          have hoi2 := hoi.base HB_44.out.size
          have KY_48 := hid (keep_laid KY_42.out hb)
          have HO_49 := hid (HO_43.out.grow hb)
          have HB_50 := hid (step HB_44.out hb)
          have KN_51 := hid (keep_laid KN_45.out hb)
          have HR_52 := hid (own_grow HR_46.out hb)
          clear KY_42 HO_43 HB_44 KN_45 HR_46 hb hoi x0 x1 x2 n0 n1 n2 HIN
          have HOI_53 : Hid (MemO V.heap.size ia ic ja jc Mi w47) := hid (hoi2)
          clear hoi2
          have il := HOI_53.out.memL.w.len
          have jl := HOI_53.out.memL.l.len
          unfold memV
          dsimp only
          obtain ⟨w54, hw54, hb, hs, hl⟩ := laid w47 #[.slice none 0 0, .slice none 0 0, .bool false] 38
          obtain ⟨A, hA⟩ : ∃ X, w47.heap.size = X := ⟨_, rfl⟩
          rw [hA] at hl
          have nYA : Y ≠ A := by have := lt_laid KY_48.out; omega
          have nNA : N ≠ A := by have := lt_laid KN_51.out; omega
          have hVA : V.heap.size ≤ A := by have := HB_50.out.size; omega
          have KY_55 := hid (keep_laid KY_48.out hb)
          have HO_56 := hid (HO_49.out.grow hb)
          have HB_57 := hid (step HB_50.out hb)
          have KN_58 := hid (keep_laid KN_51.out hb)
          have HR_59 := hid (own_grow HR_52.out hb)
          have HOI_60 := hid (HOI_53.out.grow hb)
          clear KY_48 HO_49 HB_50 KN_51 HR_52 HOI_53
          have KA_61 := hid (hl)
          clear hb hs hl
          by_cases hei : ei = 0
          · skip
            subst hei
            obtain ⟨okI, wI, hnk, ⟨ys1, ys2, bk, met', hbk, hxs12, hrows'⟩, ⟨fn, hfind⟩⟩ := law_ins HOK.out HWC.out hr ht0 ht1 ht2 HXS.out HI.out
            have HOKI := hid okI
            have HWI := hid wI
            have HNK := hid hnk
            have HX12 := hid hxs12
            have HR2 := hid hrows'
            have HFI := hid hfind
            obtain ⟨hxok2, -⟩ := rows_ok okI wI hrows'
            have HXO2 := hid hxok2
            clear okI wI hnk hxs12 hrows' hfind hxok2
            go_wp2_with (refine wp_storeP rfl 38 (.tmp 13) (.tmp 67) rfl A 0 _ #[.slice ia Mi.W.length ic, .slice ja Mi.L.length jc, .bool Mi.F] _ rfl rfl _ KA_61.out (by kernel_rfl) (Nat.le_of_ble_eq_true rfl) (by kernel_rfl) rfl ?_; intro w62 a1 a2 a3 a4; have KY_63 := hid (a2 _ _ (by first | exact nYA | exact Ne.symm nAY) KY_55.out); have HO_64 : Hid (MemO V.heap.size ya yc za zc Mc w62) := hid (⟨own_keep HO_56.out.w fun k o hk ho => a2 k o (own_neT HO_56.out.w KA_61.out (by decide) k hk) ho, own_keep HO_56.out.l fun k o hk ho => a2 k o (own_neT HO_56.out.l KA_61.out (by decide) k hk) ho⟩); have HB_65 := hid (a3 V.heap.size V hVA HB_57.out); have KN_66 := hid (a2 _ _ (by first | exact nNA | exact Ne.symm nAN) KN_58.out); have HR_67 := hid (own_keep HR_59.out fun k o hk ho => a2 k o (own_neT HR_59.out KA_61.out (by decide) k hk) ho); have HOI_68 : Hid (MemO V.heap.size ia ic ja jc Mi w62) := hid (⟨own_keep HOI_60.out.w fun k o hk ho => a2 k o (own_neT HOI_60.out.w KA_61.out (by decide) k hk) ho, own_keep HOI_60.out.l fun k o hk ho => a2 k o (own_neT HOI_60.out.l KA_61.out (by decide) k hk) ho⟩); have KA_69 := hid (a1); clear a1 a2 a3 a4 KY_55 HO_56 HB_57 KN_58 HR_59 HOI_60 KA_61; (try simp only [Act.put]); have x0 := cell_laid (i := 0) KA_69.out rfl; have x1 := cell_laid (i := 1) KA_69.out rfl; have x2 := cell_laid (i := 2) KA_69.out rfl)
            clear hA
            have HRW := hid (Rows_any root ia ic ja jc Mi w62 hr HWI.out HOI_68.out.memL (HG.out.grow HB_65.out))
            unfold memV at HRW
            refine HRW.out.mono ?_
            clear HRW
            rintro e w70 ⟨hb, ⟨hok, -⟩ | ⟨-, hno, -⟩ | ⟨-, xs', met'', v', hxs', rfl, hrow'⟩⟩
            · rw [HOKI.out] at hok; cases hok
            · rw [HR2.out] at hno; cases hno
            rw [HR2.out] at hxs'
            simp only [Option.some.injEq, Prod.mk.injEq] at hxs'
            obtain ⟨hxe, -⟩ := hxs'
            subst hxe
            have KY_71 := hid (keep_laid KY_63.out hb)
            have HO_72 := hid (HO_64.out.grow hb)
            have HB_73 := hid (step HB_65.out hb)
            have KN_74 := hid (keep_laid KN_66.out hb)
            have HR_75 := hid (own_grow HR_67.out hb)
            have HOI_76 := hid (HOI_68.out.grow hb)
            have KA_77 := hid (keep_laid KA_69.out hb)
            clear KY_63 HO_64 HB_65 KN_66 HR_67 HOI_68 KA_69
            have HQ_78 := hid (hrow')
            clear hb hrow' x0 x1 x2
            obtain ⟨ua, uc, rfl, -⟩ := Leads.of_own HQ_78.out
            have hxl : (ys1 ++ (bk, t0, t1, t2) :: ys2).length = m + 1 := by have e := congrArg List.length HX12.out; rw [HM.out] at e; simp at e ⊢; omega
            rw [hxl] at HQ_78 ⊢
            have HXL := hid hxl
            clear hxl
            have hul := (Leads.of_own1 HQ_78.out).len
            have x0 := cell_laid (i := 0) KA_77.out rfl
            have x1 := cell_laid (i := 1) KA_77.out rfl
            have x2 := cell_laid (i := 2) KA_77.out rfl
            have n1 : w70.cell? ⟨N, 1, none⟩ = some (.int .u64 ((t1 : Nat) : Int)) := cell_laid (i := 1) KN_74.out rfl
            have HFD := hid (TFind_any Mi root t1 ia ja ic jc w70 HOI_76.out.memL (HG.out.grow HB_73.out) HWI.out hr ht1)
            rw [HFI.out] at HFD
            unfold memV findTV at HFD
            dsimp only at HFD
            go_wp2_with fail
            refine (HFD.out).mono ?_
            rintro e w79 ⟨rfl, hb⟩
            have KY_80 := hid (keep_laid KY_71.out hb)
            have HO_81 := hid (HO_72.out.grow hb)
            have HB_82 := hid (step HB_73.out hb)
            have KN_83 := hid (keep_laid KN_74.out hb)
            have HR_84 := hid (own_grow HR_75.out hb)
            have HOI_85 := hid (HOI_76.out.grow hb)
            have KA_86 := hid (keep_laid KA_77.out hb)
            have HQ_87 := hid (own_grow HQ_78.out hb)
            clear KY_71 HO_72 HB_73 KN_74 HR_75 HOI_76 KA_77 HQ_78 hb x0 x1 x2 n1 HFD
            have n2 : w79.cell? ⟨N, 2, none⟩ = some (.int .u64 ((t2 : Nat) : Int)) := cell_laid (i := 2) KN_83.out rfl
            have hN1 : w79.cell? ⟨N, 1, none⟩ = some (.int .u64 ((t1 : Nat) : Int)) := cell_laid (i := 1) KN_83.out rfl
            have HCN := hid (Contains_no xs t1 va m vc N w79 (Leads.of_own1 HR_84.out) HM.out (by omega) hN1 (lt_laid KN_83.out) HNK.out)
            clear hN1
            go_wp2_with fail
            refine (HCN.out).mono ?_
            rintro e w88 ⟨rfl, hb⟩
            have KY_89 := hid (keep_laid KY_80.out hb)
            have HO_90 := hid (HO_81.out.grow hb)
            have HB_91 := hid (step HB_82.out hb)
            have KN_92 := hid (keep_laid KN_83.out hb)
            have HR_93 := hid (own_grow HR_84.out hb)
            have HOI_94 := hid (HOI_85.out.grow hb)
            have KA_95 := hid (keep_laid KA_86.out hb)
            have HQ_96 := hid (own_grow HQ_87.out hb)
            clear KY_80 HO_81 HB_82 KN_83 HR_84 HOI_85 KA_86 HQ_87 hb n2 HCN
            have HCL := hid (CloneRw_any ua (m + 1) uc _ w88 (Leads.of_own1 HQ_96.out) (by rw [rwcells_len', HXL.out]) (by omega) (rwcells_one _))
            go_wp2_with fail
            refine HCL.out.mono ?_
            rintro e w97 ⟨v2, rfl, hrow2, hb2⟩
            obtain ⟨g2, c2, rfl, hg2, hg2l⟩ := own_blk hrow2 (by omega)
            have hNl := lt_laid KN_92.out
            have hN1 : w97.cell? ⟨N, 1, none⟩ = some (.int .u64 ((t1 : Nat) : Int)) := cell_laid (i := 1) (keep_laid KN_92.out hb2) rfl
            have HDF := hid (DelFunc_any ys1 ys2 (bk, t0, t1, t2) g2 (m + 1) m c2 w88.heap.size t1 N w97 hrow2 rfl HXL.out (by omega) hN1 (by omega) (by omega) (fun x hx => HNK.out x (by rw [HX12.out]; exact List.mem_append_left _ hx)) rfl (fun x hx => HNK.out x (by rw [HX12.out]; exact List.mem_append_right _ hx)))
            have HB2 := hid hb2
            clear hrow2 hb2 hN1 HCL hNl
            go_wp2_with fail
            refine HDF.out.mono ?_
            rintro e w98 ⟨rfl, hrow3, -, hbel3⟩
            have hb3 := hbel3 w88.heap.size w88 hg2 HB2.out.size HB2.out
            have KY_99 := hid (keep_laid KY_89.out hb3)
            have HO_100 := hid (HO_90.out.grow hb3)
            have HB_101 := hid (step HB_91.out hb3)
            have KN_102 := hid (keep_laid KN_92.out hb3)
            have HR_103 := hid (own_grow HR_93.out hb3)
            have HOI_104 := hid (HOI_94.out.grow hb3)
            have KA_105 := hid (keep_laid KA_95.out hb3)
            have HQ_106 := hid (own_grow HQ_96.out hb3)
            clear KY_89 HO_90 HB_91 KN_92 HR_93 HOI_94 KA_95 HQ_96
            rw [← HX12.out] at hrow3
            have H3_107 := hid (hrow3)
            clear hb3 hrow3 hbel3 HDF HB2
            have HEQ := hid (EqRw_any xs xs (some ⟨g2, 0, none⟩) va m m c2 vc w98 HM.out HM.out HXO.out HXO.out (Leads.of_own1 H3_107.out) (Leads.of_own1 HR_103.out))
            rw [decide_eq_true (rfl : xs = xs)] at HEQ
            clear H3_107 HQ_106 HR_103
            clear hg2 hg2l
            go_wp2_with fail
            refine (HEQ.out).mono ?_
            rintro e w108 ⟨rfl, hb⟩
            have KY_109 := hid (keep_laid KY_99.out hb)
            have HO_110 := hid (HO_100.out.grow hb)
            have HB_111 := hid (step HB_101.out hb)
            have KN_112 := hid (keep_laid KN_102.out hb)
            have HOI_113 := hid (HOI_104.out.grow hb)
            have KA_114 := hid (keep_laid KA_105.out hb)
            clear KY_99 HO_100 HB_101 KN_102 HOI_104 KA_105 hb HEQ
            have z0 := cell_laid (i := 0) KA_114.out rfl
            have z1 := cell_laid (i := 1) KA_114.out rfl
            have z2 := cell_laid (i := 2) KA_114.out rfl
            have hne : ((((m + 1 : Nat)) : Int) != ((m : Nat) : Int) + 1) = false := by simp
            clear HO_110
            go_wp2_with (refine wp_storeP rfl 38 (.tmp 7) (.tmp 121) rfl Y 0 _ #[.slice ia Mi.W.length ic, .slice ja Mi.L.length jc, .bool Mi.F] _ rfl rfl _ KY_109.out (by kernel_rfl) (Nat.le_of_ble_eq_true rfl) (by kernel_rfl) rfl ?_; intro w115 a1 a2 a3 a4; have KY_116 := hid (a1); have HB_117 := hid (a3 V.heap.size V hVY HB_111.out); have KN_118 := hid (a2 _ _ (by first | exact nNY | exact Ne.symm nYN) KN_112.out); have HOI_119 : Hid (MemO V.heap.size ia ic ja jc Mi w115) := hid (⟨own_keep HOI_113.out.w fun k o hk ho => a2 k o (own_neT HOI_113.out.w KY_109.out (by decide) k hk) ho, own_keep HOI_113.out.l fun k o hk ho => a2 k o (own_neT HOI_113.out.l KY_109.out (by decide) k hk) ho⟩); have KA_120 := hid (a2 _ _ (by first | exact nAY | exact Ne.symm nYA) KA_114.out); clear a1 a2 a3 a4 KY_109 HB_111 KN_112 HOI_113 KA_114; (try simp only [Act.put]))
            have HK9 : Hid (KInv V Y Mi ia ic ja jc w115) := hid ⟨KY_116.out, HOI_119.out, HWI.out, HB_117.out⟩
            go_roundg (gk - 1)
            case measure => have := HK.out; omega
            case rel => exact ⟨k + 1, Mi, ia, ja, ic, jc, by go_num, hid (by have := HK.out; have := HLT.out; omega), HK9⟩
          · skip
            obtain ⟨hz1, hz2⟩ : (((ei : Nat) : Int) == 0) = false ∧ ¬ ((ei : Nat) : Int) = 0 := ⟨by simp [hei], by omega⟩
            obtain ⟨⟨Mr, ar, er⟩, hrm⟩ : ∃ x, remT Mc root t1 = x := ⟨_, rfl⟩
            have HRM := hid hrm
            clear hrm
            go_wp2_with (refine wp_storeP rfl 38 (.tmp 13) (.tmp 67) rfl A 0 _ #[.slice ia Mi.W.length ic, .slice ja Mi.L.length jc, .bool Mi.F] _ rfl rfl _ KA_61.out (by kernel_rfl) (Nat.le_of_ble_eq_true rfl) (by kernel_rfl) rfl ?_; intro w62 a1 a2 a3 a4; have KY_63 := hid (a2 _ _ (by first | exact nYA | exact Ne.symm nAY) KY_55.out); have HO_64 : Hid (MemO V.heap.size ya yc za zc Mc w62) := hid (⟨own_keep HO_56.out.w fun k o hk ho => a2 k o (own_neT HO_56.out.w KA_61.out (by decide) k hk) ho, own_keep HO_56.out.l fun k o hk ho => a2 k o (own_neT HO_56.out.l KA_61.out (by decide) k hk) ho⟩); have HB_65 := hid (a3 V.heap.size V hVA HB_57.out); have KN_66 := hid (a2 _ _ (by first | exact nNA | exact Ne.symm nAN) KN_58.out); have HR_67 := hid (own_keep HR_59.out fun k o hk ho => a2 k o (own_neT HR_59.out KA_61.out (by decide) k hk) ho); have HOI_68 : Hid (MemO V.heap.size ia ic ja jc Mi w62) := hid (⟨own_keep HOI_60.out.w fun k o hk ho => a2 k o (own_neT HOI_60.out.w KA_61.out (by decide) k hk) ho, own_keep HOI_60.out.l fun k o hk ho => a2 k o (own_neT HOI_60.out.l KA_61.out (by decide) k hk) ho⟩); have KA_69 := hid (a1); clear a1 a2 a3 a4 KY_55 HO_56 HB_57 KN_58 HR_59 HOI_60 KA_61; (try simp only [Act.put]); have x0 := cell_laid (i := 0) KY_63.out rfl; have x1 := cell_laid (i := 1) KY_63.out rfl; have x2 := cell_laid (i := 2) KY_63.out rfl; have yl2 := HO_64.out.memL.w.len; have zl2 := HO_64.out.memL.l.len; have n1 : w62.cell? ⟨N, 1, none⟩ = some (.int .u64 ((t1 : Nat) : Int)) := cell_laid (i := 1) KN_66.out rfl)
            clear hA
            have HRE := hid (TRemove_any Mc root t1 ya za yc zc w62 HO_64.out.memL (HG.out.grow HB_65.out) HWC.out hr ht1)
            rw [HRM.out] at HRE
            unfold memV at HRE
            clear KA_69 HOI_68
            refine HRE.out.mono ?_
            rintro e w121 ⟨ra, rc, sa, sc, rfl, hor, hb⟩
            have hor2 := hor.base HB_65.out.size
            have KY_122 := hid (keep_laid KY_63.out hb)
            have HO_123 := hid (HO_64.out.grow hb)
            have HB_124 := hid (step HB_65.out hb)
            have KN_125 := hid (keep_laid KN_66.out hb)
            have HR_126 := hid (own_grow HR_67.out hb)
            clear KY_63 HO_64 HB_65 KN_66 HR_67 hb hor x0 x1 x2 n1 yl2 zl2 HRE
            have HOR_127 : Hid (MemO V.heap.size ra rc sa sc Mr w121) := hid (hor2)
            clear hor2
            have il2 := HOR_127.out.memL.w.len
            have jl2 := HOR_127.out.memL.l.len
            unfold memV
            dsimp only
            obtain ⟨w128, hw128, hb, hs, hl⟩ := laid w121 #[.slice none 0 0, .slice none 0 0, .bool false] 38
            obtain ⟨B, hB⟩ : ∃ X, w121.heap.size = X := ⟨_, rfl⟩
            rw [hB] at hl
            have nYB : Y ≠ B := by have := lt_laid KY_122.out; omega
            have nNB : N ≠ B := by have := lt_laid KN_125.out; omega
            have hVB : V.heap.size ≤ B := by have := HB_124.out.size; omega
            have KY_129 := hid (keep_laid KY_122.out hb)
            have HO_130 := hid (HO_123.out.grow hb)
            have HB_131 := hid (step HB_124.out hb)
            have KN_132 := hid (keep_laid KN_125.out hb)
            have HR_133 := hid (own_grow HR_126.out hb)
            have HOR_134 := hid (HOR_127.out.grow hb)
            clear KY_122 HO_123 HB_124 KN_125 HR_126 HOR_127
            have KB_135 := hid (hl)
            clear hb hs hl
            by_cases her : er = 0
            · skip
              subst her
              obtain ⟨okR, wR, ⟨ys1, ⟨bk, r1, r2, r3⟩, ys2, met', hxs12, hrk, hra, hy1, hrows'⟩, hfind⟩ := law_rem HOK.out HWC.out hr ht1 HXS.out HRM.out
              dsimp only at hrk hra
              have HOKR := hid okR
              have HWR := hid wR
              have HX12 := hid hxs12
              have HRK := hid hrk
              have HRA := hid hra
              have HY1 := hid hy1
              have HR2 := hid hrows'
              have HFI := hid hfind
              obtain ⟨hxok2, -⟩ := rows_ok okR wR hrows'
              have HXO2 := hid hxok2
              clear okR wR hxs12 hrk hra hy1 hrows' hfind hxok2
              go_wp2_with (refine wp_storeP rfl 38 (.tmp 20) (.tmp 128) rfl B 0 _ #[.slice ra Mr.W.length rc, .slice sa Mr.L.length sc, .bool Mr.F] _ rfl rfl _ KB_135.out (by kernel_rfl) (Nat.le_of_ble_eq_true rfl) (by kernel_rfl) rfl ?_; intro w136 a1 a2 a3 a4; have KY_137 := hid (a2 _ _ (by first | exact nYB | exact Ne.symm nBY) KY_129.out); have HO_138 : Hid (MemO V.heap.size ya yc za zc Mc w136) := hid (⟨own_keep HO_130.out.w fun k o hk ho => a2 k o (own_neT HO_130.out.w KB_135.out (by decide) k hk) ho, own_keep HO_130.out.l fun k o hk ho => a2 k o (own_neT HO_130.out.l KB_135.out (by decide) k hk) ho⟩); have HB_139 := hid (a3 V.heap.size V hVB HB_131.out); have KN_140 := hid (a2 _ _ (by first | exact nNB | exact Ne.symm nBN) KN_132.out); have HR_141 := hid (own_keep HR_133.out fun k o hk ho => a2 k o (own_neT HR_133.out KB_135.out (by decide) k hk) ho); have HOR_142 : Hid (MemO V.heap.size ra rc sa sc Mr w136) := hid (⟨own_keep HOR_134.out.w fun k o hk ho => a2 k o (own_neT HOR_134.out.w KB_135.out (by decide) k hk) ho, own_keep HOR_134.out.l fun k o hk ho => a2 k o (own_neT HOR_134.out.l KB_135.out (by decide) k hk) ho⟩); have KB_143 := hid (a1); clear a1 a2 a3 a4 KY_129 HO_130 HB_131 KN_132 HR_133 HOR_134 KB_135; (try simp only [Act.put]); have x0 := cell_laid (i := 0) KB_143.out rfl; have x1 := cell_laid (i := 1) KB_143.out rfl; have x2 := cell_laid (i := 2) KB_143.out rfl)
              clear hB
              have HRW := hid (Rows_any root ra rc sa sc Mr w136 hr HWR.out HOR_142.out.memL (HG.out.grow HB_139.out))
              unfold memV at HRW
              refine HRW.out.mono ?_
              clear HRW
              rintro e w144 ⟨hb, ⟨hok, -⟩ | ⟨-, hno, -⟩ | ⟨-, xs', met'', v', hxs', rfl, hrow'⟩⟩
              · rw [HOKR.out] at hok; cases hok
              · rw [HR2.out] at hno; cases hno
              rw [HR2.out] at hxs'
              simp only [Option.some.injEq, Prod.mk.injEq] at hxs'
              obtain ⟨hxe, -⟩ := hxs'
              subst hxe
              have KY_145 := hid (keep_laid KY_137.out hb)
              have HO_146 := hid (HO_138.out.grow hb)
              have HB_147 := hid (step HB_139.out hb)
              have KN_148 := hid (keep_laid KN_140.out hb)
              have HR_149 := hid (own_grow HR_141.out hb)
              have HOR_150 := hid (HOR_142.out.grow hb)
              have KB_151 := hid (keep_laid KB_143.out hb)
              clear KY_137 HO_138 HB_139 KN_140 HR_141 HOR_142 KB_143
              have HQ_152 := hid (hrow')
              clear hb hrow' x0 x1 x2
              obtain ⟨ua, uc, rfl, -⟩ := Leads.of_own HQ_152.out
              obtain ⟨m1, hm1⟩ : ∃ m1, m = m1 + 1 := ⟨m - 1, by have e := congrArg List.length HX12.out; rw [HM.out] at e; simp at e; omega⟩
              have hxl : (ys1 ++ ys2).length = m1 := by have e := congrArg List.length HX12.out; rw [HM.out] at e; simp at e ⊢; omega
              obtain ⟨k1, hk1⟩ : ∃ k1, ys1.length = k1 := ⟨_, rfl⟩
              have hk1m : k1 < m := by rw [← hk1]; have e := congrArg List.length HX12.out; rw [HM.out] at e; simp at e; omega
              rw [hxl] at HQ_152 ⊢
              have HXL := hid hxl
              have HM1 := hid hm1
              have HK1 := hid hk1
              clear hxl hm1 hk1
              have hul := (Leads.of_own1 HQ_152.out).len
              have x0 := cell_laid (i := 0) KB_151.out rfl
              have x1 := cell_laid (i := 1) KB_151.out rfl
              have x2 := cell_laid (i := 2) KB_151.out rfl
              have n1 : w144.cell? ⟨N, 1, none⟩ = some (.int .u64 ((t1 : Nat) : Int)) := cell_laid (i := 1) KN_148.out rfl
              have HFD := hid (TFind_any Mr root t1 ra sa rc sc w144 HOR_150.out.memL (HG.out.grow HB_147.out) HWR.out hr ht1)
              rw [HFI.out] at HFD
              unfold memV findTV at HFD
              dsimp only at HFD
              go_wp2_with fail
              refine (HFD.out).mono ?_
              rintro e w153 ⟨rfl, hb⟩
              have KY_154 := hid (keep_laid KY_145.out hb)
              have HO_155 := hid (HO_146.out.grow hb)
              have HB_156 := hid (step HB_147.out hb)
              have KN_157 := hid (keep_laid KN_148.out hb)
              have HR_158 := hid (own_grow HR_149.out hb)
              have HOR_159 := hid (HOR_150.out.grow hb)
              have KB_160 := hid (keep_laid KB_151.out hb)
              have HQ_161 := hid (own_grow HQ_152.out hb)
              clear KY_145 HO_146 HB_147 KN_148 HR_149 HOR_150 KB_151 HQ_152 hb x0 x1 x2 n1 HFD
              have hN1 : w153.cell? ⟨N, 1, none⟩ = some (.int .u64 ((t1 : Nat) : Int)) := cell_laid (i := 1) KN_157.out rfl
              have HIX := hid (IdxRw_at xs ys1 ys2 (bk, r1, r2, r3) (fun r => decide (r.2.2.1 = t1)) va m vc N w153 (Leads.of_own1 HR_158.out) HM.out (by omega) (isKey_from t1 N w153 hN1 (lt_laid KN_157.out)) HX12.out (fun x hx => decide_eq_false (HY1.out x hx)) (decide_eq_true HRK.out))
              rw [HK1.out] at HIX
              clear hN1
              go_wp2_with fail
              refine (HIX.out).mono ?_
              rintro e w162 ⟨rfl, hb⟩
              have KY_163 := hid (keep_laid KY_154.out hb)
              have HO_164 := hid (HO_155.out.grow hb)
              have HB_165 := hid (step HB_156.out hb)
              have KN_166 := hid (keep_laid KN_157.out hb)
              have HR_167 := hid (own_grow HR_158.out hb)
              have HOR_168 := hid (HOR_159.out.grow hb)
              have KB_169 := hid (keep_laid KB_160.out hb)
              have HQ_170 := hid (own_grow HQ_161.out hb)
              clear KY_154 HO_155 HB_156 KN_157 HR_158 HOR_159 KB_160 HQ_161 hb HIX
              have hk0 : decide (((k1 : Nat) : Int) < 0) = false := decide_eq_false (by omega)
              have hk0' : ¬ ((k1 : Nat) : Int) < 0 := by omega
              have hkm : ((k1 : Nat) : Int) < ((m : Nat) : Int) := by omega
              obtain ⟨b', off', hva, -, hcc⟩ := (Leads.of_own1 HR_167.out).rw hk1m (show xs[k1]? = some (bk, r1, r2, r3) from by rw [HX12.out, ← HK1.out, List.getElem?_append_right (Nat.le_refl _), Nat.sub_self]; rfl)
              have HVA := hid hva
              subst hva
              obtain ⟨g0, g1, g2, g3⟩ := hcc w162 (Below.refl _ _)
              have hra2 : (((r1 : Nat) : Int) != ((ar : Nat) : Int)) = false := by rw [HRA.out]; simp
              have hra3 : ((r1 : Nat) : Int) = ((ar : Nat) : Int) → True := fun _ => trivial
              clear hra3 hcc HVA
              have HCL := hid (CloneRw_any (some ⟨b', off', none⟩) m vc _ w162 (Leads.of_own1 HR_167.out) (by rw [rwcells_len', HM.out]) (by omega) (rwcells_one _))
              go_wp2_with fail
              refine HCL.out.mono ?_
              rintro e w171 ⟨v2, rfl, hrow2, hb2⟩
              obtain ⟨gg, c2, rfl, hg2, hg2l⟩ := own_blk hrow2 (by omega)
              have HDF := hid (fun z hz => DeleteRw_any xs gg m m1 c2 k1 w162.heap.size z w171 hrow2 hk1m HM1.out (by omega) hz)
              have HB2 := hid hb2
              clear hrow2 hb2 HCL g0 g1 g2 g3
              go_wp2_with fail
              refine (HDF.out _ (by go_num)).mono ?_
              rintro e w172 ⟨rfl, hrow3, -, hbel3⟩
              have hb3 := hbel3 w162.heap.size w162 hg2 HB2.out
              have KY_173 := hid (keep_laid KY_163.out hb3)
              have HO_174 := hid (HO_164.out.grow hb3)
              have HB_175 := hid (step HB_165.out hb3)
              have KN_176 := hid (keep_laid KN_166.out hb3)
              have HR_177 := hid (own_grow HR_167.out hb3)
              have HOR_178 := hid (HOR_168.out.grow hb3)
              have KB_179 := hid (keep_laid KB_169.out hb3)
              have HQ_180 := hid (own_grow HQ_170.out hb3)
              clear KY_163 HO_164 HB_165 KN_166 HR_167 HOR_168 KB_169 HQ_170
              have her : xs.eraseIdx k1 = ys1 ++ ys2 := by rw [HX12.out, ← HK1.out, List.eraseIdx_append_of_length_le (Nat.le_refl _), Nat.sub_self]; rfl
              rw [her] at hrow3
              clear her
              have H3_181 := hid (hrow3)
              clear hb3 hrow3 hbel3 HDF HB2
              have HEQ := hid (EqRw_any (ys1 ++ ys2) (ys1 ++ ys2) ua (some ⟨gg, 0, none⟩) m1 m1 uc c2 w172 HXL.out HXL.out HXO2.out HXO2.out (Leads.of_own1 HQ_180.out) (Leads.of_own1 H3_181.out))
              rw [decide_eq_true (rfl : ys1 ++ ys2 = ys1 ++ ys2)] at HEQ
              clear H3_181 HQ_180 HR_177
              clear hg2 hg2l
              go_wp2_with fail
              refine (HEQ.out).mono ?_
              rintro e w182 ⟨rfl, hb⟩
              have KY_183 := hid (keep_laid KY_173.out hb)
              have HO_184 := hid (HO_174.out.grow hb)
              have HB_185 := hid (step HB_175.out hb)
              have KN_186 := hid (keep_laid KN_176.out hb)
              have HOR_187 := hid (HOR_178.out.grow hb)
              have KB_188 := hid (keep_laid KB_179.out hb)
              clear KY_173 HO_174 HB_175 KN_176 HOR_178 KB_179 hb HEQ
              have z0 := cell_laid (i := 0) KB_188.out rfl
              have z1 := cell_laid (i := 1) KB_188.out rfl
              have z2 := cell_laid (i := 2) KB_188.out rfl
              clear HO_184
              go_wp2_with (refine wp_storeP rfl 38 (.tmp 7) (.tmp 184) rfl Y 0 _ #[.slice ra Mr.W.length rc, .slice sa Mr.L.length sc, .bool Mr.F] _ rfl rfl _ KY_183.out (by kernel_rfl) (Nat.le_of_ble_eq_true rfl) (by kernel_rfl) rfl ?_; intro w189 a1 a2 a3 a4; have KY_190 := hid (a1); have HB_191 := hid (a3 V.heap.size V hVY HB_185.out); have KN_192 := hid (a2 _ _ (by first | exact nNY | exact Ne.symm nYN) KN_186.out); have HOR_193 : Hid (MemO V.heap.size ra rc sa sc Mr w189) := hid (⟨own_keep HOR_187.out.w fun k o hk ho => a2 k o (own_neT HOR_187.out.w KY_183.out (by decide) k hk) ho, own_keep HOR_187.out.l fun k o hk ho => a2 k o (own_neT HOR_187.out.l KY_183.out (by decide) k hk) ho⟩); have KB_194 := hid (a2 _ _ (by first | exact nBY | exact Ne.symm nYB) KB_188.out); clear a1 a2 a3 a4 KY_183 HB_185 KN_186 HOR_187 KB_188; (try simp only [Act.put]))
              have HK9 : Hid (KInv V Y Mr ra rc sa sc w189) := hid ⟨KY_190.out, HOR_193.out, HWR.out, HB_191.out⟩
              go_roundg (gk - 1)
              case measure => have := HK.out; omega
              case rel => exact ⟨k + 1, Mr, ra, sa, rc, sc, by go_num, hid (by have := HK.out; have := HLT.out; omega), HK9⟩
            · skip
              obtain ⟨hy1, hy2⟩ : (((er : Nat) : Int) != 0) = true ∧ ¬ ((er : Nat) : Int) = 0 := ⟨by simp [her], by omega⟩
              have HNK := hid (law_none HOK.out ht1 HXS.out (by rw [HRM.out]; exact her))
              clear her
              go_wp2_with (refine wp_storeP rfl 38 (.tmp 20) (.tmp 128) rfl B 0 _ #[.slice ra Mr.W.length rc, .slice sa Mr.L.length sc, .bool Mr.F] _ rfl rfl _ KB_135.out (by kernel_rfl) (Nat.le_of_ble_eq_true rfl) (by kernel_rfl) rfl ?_; intro w136 a1 a2 a3 a4; have KY_137 := hid (a2 _ _ (by first | exact nYB | exact Ne.symm nBY) KY_129.out); have HO_138 : Hid (MemO V.heap.size ya yc za zc Mc w136) := hid (⟨own_keep HO_130.out.w fun k o hk ho => a2 k o (own_neT HO_130.out.w KB_135.out (by decide) k hk) ho, own_keep HO_130.out.l fun k o hk ho => a2 k o (own_neT HO_130.out.l KB_135.out (by decide) k hk) ho⟩); have HB_139 := hid (a3 V.heap.size V hVB HB_131.out); have KN_140 := hid (a2 _ _ (by first | exact nNB | exact Ne.symm nBN) KN_132.out); have HR_141 := hid (own_keep HR_133.out fun k o hk ho => a2 k o (own_neT HR_133.out KB_135.out (by decide) k hk) ho); have HOR_142 : Hid (MemO V.heap.size ra rc sa sc Mr w136) := hid (⟨own_keep HOR_134.out.w fun k o hk ho => a2 k o (own_neT HOR_134.out.w KB_135.out (by decide) k hk) ho, own_keep HOR_134.out.l fun k o hk ho => a2 k o (own_neT HOR_134.out.l KB_135.out (by decide) k hk) ho⟩); have KB_143 := hid (a1); clear a1 a2 a3 a4 KY_129 HO_130 HB_131 KN_132 HR_133 HOR_134 KB_135; (try simp only [Act.put]))
              clear hB
              have hN1 : w136.cell? ⟨N, 1, none⟩ = some (.int .u64 ((t1 : Nat) : Int)) := cell_laid (i := 1) KN_140.out rfl
              have HCN := hid (Contains_no xs t1 va m vc N w136 (Leads.of_own1 HR_141.out) HM.out (by omega) hN1 (lt_laid KN_140.out) HNK.out)
              clear hN1
              refine HCN.out.mono ?_
              rintro e w195 ⟨rfl, hb⟩
              have KY_196 := hid (keep_laid KY_137.out hb)
              have HO_197 := hid (HO_138.out.grow hb)
              have HB_198 := hid (step HB_139.out hb)
              have KN_199 := hid (keep_laid KN_140.out hb)
              have HR_200 := hid (own_grow HR_141.out hb)
              have HOR_201 := hid (HOR_142.out.grow hb)
              have KB_202 := hid (keep_laid KB_143.out hb)
              clear KY_137 HO_138 HB_139 KN_140 HR_141 HOR_142 KB_143 hb HCN
              go_wp2
              have HK9 : Hid (KInv V Y Mc ya yc za zc w195) := hid ⟨KY_196.out, HO_197.out, HWC.out, HB_198.out⟩
              go_roundg (gk - 1)
              case measure => have := HK.out; omega
              case rel => exact ⟨k + 1, Mc, ya, za, yc, zc, by go_num, hid (by have := HK.out; have := HLT.out; omega), HK9⟩
    · go_wp2
      go_ret
      exact ⟨rfl, hK.out.bel⟩
end Go.Proofs.YtahicokokfcieaaDoor
