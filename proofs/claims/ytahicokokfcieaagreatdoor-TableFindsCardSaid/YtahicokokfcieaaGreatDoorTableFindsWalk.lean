/- TableFinds: the walk of the law (printed by gen_finds19.py). -/
import Derived.Test.YtahicokokfcieaaGreatDoorTgAx
import Derived.Test.YtahicokokfcieaaGreatDoorTbW1
import Derived.Test.YtahicokokfcieaaGreatDoorTgAr
import Derived.Test.YtahicokokfcieaaGreatDoorTgAa
import Derived.Deep.LoopGhost
namespace Go.Proofs.YtahicokokfcieaaGreatDoor
open Go.RowKit
open Go.Proofs
set_option linter.unusedVariables false
attribute [local go_sem] Oper.semAt_some
theorem sameM_self19 (M : Mem) : sameM M M = true := by unfold sameM; simp
theorem take96_wok19 {M : Mem} (h : ∀ x ∈ M.W, x < 18446744073709551616) : ∀ x ∈ (take96 M).W, x < 18446744073709551616 := fun x hx => h x (List.mem_of_mem_take hx)
def FCase (M : Mem) (root : Nat) (xs : List Rw) (ev : Nat) : Prop := (okM M = false ∧ ev = 120 ∧ xs = []) ∨ (okM M = true ∧ rowsW M root = none ∧ ev = 290 ∧ xs = []) ∨ (okM M = true ∧ (∃ met, rowsW M root = some (xs, met)) ∧ ev = 0)
theorem leads_nil (w : World) : Leads w none 0 0 (rwcells []) := ⟨Nat.le_refl _, Nat.zero_le _, .inl ⟨rfl, rfl⟩⟩
def GivesF (M : Mem) (root : Nat) (V : World) (e : Ending) (W : World) : Prop := ∃ (ev : Nat) (xs : List Rw) (va : Option Addr) (vc : Nat), e = .returned (.tuple #[.slice va xs.length vc, .int .i64 ((ev : Nat) : Int)]) ∧ Below V.heap.size V W ∧ Leads W va xs.length vc (rwcells xs) ∧ RwsOk xs ∧ FCase M root xs ev
theorem givesF_of {M : Mem} {root : Nat} {V W : World} {e : Ending} (hW : ∀ x ∈ M.W, x < 18446744073709551616) (h : GivesRows M root V e W) : GivesF M root V e W := by
  obtain ⟨hb, ⟨h0, rfl⟩ | ⟨h1, h2, rfl⟩ | ⟨hok, xs, met, v, hxs, rfl, hrow⟩⟩ := h
  · exact ⟨120, [], none, 0, rfl, hb, leads_nil _, (fun t ht => by cases ht), .inl ⟨h0, rfl, rfl⟩⟩
  · exact ⟨290, [], none, 0, rfl, hb, leads_nil _, (fun t ht => by cases ht), .inr (.inl ⟨h1, h2, rfl, rfl⟩)⟩
  · obtain ⟨va, vc, rfl, hl⟩ := Leads.of_own hrow
    exact ⟨0, xs, va, vc, rfl, hb, hl, (rows_ok hok hW hxs).1, .inr (.inr ⟨hok, ⟨met, hxs⟩, rfl⟩)⟩
structure DInv (V : World) (X Y : Nat) (M M1 : Mem) (wa : Option Addr) (c1 : Nat) (la : Option Addr) (c2 : Nat) (ya : Option Addr) (yc : Nat) (za : Option Addr) (zc : Nat) (W : World) : Prop where
  bx : W.heap[X]? = some (.cells #[.slice wa M.W.length c1, .slice la M.L.length c2, .bool M.F] 25 (0, 0))
  by_ : W.heap[Y]? = some (.cells #[.slice ya M1.W.length yc, .slice za M1.L.length zc, .bool M1.F] 25 (0, 0))
  mem : MemO V.heap.size ya yc za zc M1 W
  bel : Below V.heap.size V W
set_option maxRecDepth 100000 in
set_option maxHeartbeats 16000000 in
theorem tableFinds_walk (M : Mem) (wa la : Option Addr) (c1 c2 root : Nat) (ka : Option Addr) (kc : Nat) (ks : List Nat) (V : World) (hg : Glob V) (h : MemL V wa c1 la c2 M) (hr : root < 18446744073709551616) (hks : Leads V ka ks.length kc (wcells ks)) (hW : ∀ x ∈ M.W, x < 18446744073709551616) (hko : wok ks) :
    Calls Tryz.prog 3 #[memV wa c1 la c2 M, .int .u64 ((root : Nat) : Int), .slice ka ks.length kc] V (Ret (.bool true) V) := by
  obtain ⟨n, en⟩ : ∃ n, ks.length = n := ⟨_, rfl⟩
  rw [en] at hks ⊢
  have HKS := hid (fun k hk => Leads.word (k := k) hks en hko hk)
  have hkl := hks.len
  clear en hks hko
  have HG := hid hg
  have hV0 : 0 < V.heap.size := hg.one
  have hwl := h.w.len
  have hll := h.l.len
  have HW := hid hW
  have HM0 := hid h
  clear hg hW h
  unfold memV
  obtain ⟨V1, hV1, hb, hs, hl⟩ := laid V #[.slice wa M.W.length c1, .slice la M.L.length c2, .bool M.F] 25
  obtain ⟨X, hX⟩ : ∃ X, V.heap.size = X := ⟨_, rfl⟩
  rw [hX] at hl
  have hVX : V.heap.size ≤ X := by omega
  have KX_1 := hid (hl)
  have HB_2 := hid (hb)
  clear hb hs hl
  go_enter Tryz.func3, Tryz.ntmps3
  go_wp2_with fail
  refine (wakes_any V1 (HG.out.grow HB_2.out)).mono ?_
  rintro e w3 ⟨rfl, hb⟩
  have KX_4 := hid (keep_laid KX_1.out hb)
  have HB_5 := hid (step HB_2.out hb)
  clear KX_1 HB_2 hb hX
  have x0 := cell_laid (i := 0) KX_4.out rfl
  have x1 := cell_laid (i := 1) KX_4.out rfl
  have x2 := cell_laid (i := 2) KX_4.out rfl
  have hbz := HB_5.out.size
  go_wp2_with fail
  refine (lawown_any M wa la c1 c2 w3 (HM0.out.grow HB_5.out)).mono ?_
  rintro e w6 ⟨ya, yc, za, zc, rfl, ho, hb⟩
  have KX_7 := hid (keep_laid KX_4.out hb)
  have HB_8 := hid (step HB_5.out hb)
  clear KX_4 HB_5 hb x0 x1 x2
  obtain ⟨M1, hM1⟩ : ∃ x, take96 M = x := ⟨_, rfl⟩
  have hW1 := take96_wok19 HW.out
  rw [hM1] at ho hW1 ⊢
  have HWC := hid hW1
  have HTK := hid hM1
  clear hM1 hW1
  have HO_9 : Hid (MemO V.heap.size ya yc za zc M1 w6) := hid (ho.base hbz)
  clear ho hbz
  unfold memV
  have yl := HO_9.out.memL.w.len
  have zl := HO_9.out.memL.l.len
  obtain ⟨w10, hw10, hb, hs, hl⟩ := laid w6 #[.slice none 0 0, .slice none 0 0, .bool false] 25
  obtain ⟨Y, hY⟩ : ∃ X, w6.heap.size = X := ⟨_, rfl⟩
  rw [hY] at hl
  have nXY : X ≠ Y := by have := lt_laid KX_7.out; omega
  have hVY : V.heap.size ≤ Y := by have := HB_8.out.size; omega
  have KX_11 := hid (keep_laid KX_7.out hb)
  have HB_12 := hid (step HB_8.out hb)
  have HO_13 := hid (HO_9.out.grow hb)
  clear KX_7 HB_8 HO_9
  have KY_14 := hid (hl)
  clear hb hs hl
  go_wp2_with (refine wp_storeP rfl 25 (.tmp 7) (.tmp 28) rfl Y 0 _ #[.slice ya M1.W.length yc, .slice za M1.L.length zc, .bool M1.F] _ rfl rfl _ KY_14.out (by kernel_rfl) (Nat.le_of_ble_eq_true rfl) (by kernel_rfl) rfl ?_; intro w15 a1 a2 a3 a4; have KX_16 := hid (a2 _ _ (by first | exact nXY | exact Ne.symm nYX) KX_11.out); have HB_17 := hid (a3 V.heap.size V hVY HB_12.out); have HO_18 : Hid (MemO V.heap.size ya yc za zc M1 w15) := hid (⟨own_keep HO_13.out.w fun k o hk ho => a2 k o (own_neT HO_13.out.w KY_14.out (by decide) k hk) ho, own_keep HO_13.out.l fun k o hk ho => a2 k o (own_neT HO_13.out.l KY_14.out (by decide) k hk) ho⟩); have KY_19 := hid (a1); clear a1 a2 a3 a4 KX_11 HB_12 HO_13 KY_14; (try simp only [Act.put]); have y0 := cell_laid (i := 0) KY_19.out rfl; have y1 := cell_laid (i := 1) KY_19.out rfl; have y2 := cell_laid (i := 2) KY_19.out rfl)
  clear hY
  have HRW := hid (Rows_any root ya yc za zc M1 w15 hr HWC.out HO_18.out.memL (HG.out.grow HB_17.out))
  unfold memV at HRW
  refine HRW.out.mono ?_
  clear HRW
  intro e w20 hgr
  obtain ⟨ev, xs, va, vc, rfl, hb, hlv, hxo, hcase⟩ := givesF_of HWC.out hgr
  clear hgr
  have HXO := hid hxo
  have HCS := hid hcase
  clear hxo hcase
  have KX_21 := hid (keep_laid KX_16.out hb)
  have HB_22 := hid (step HB_17.out hb)
  have HO_23 := hid (HO_18.out.grow hb)
  have KY_24 := hid (keep_laid KY_19.out hb)
  clear KX_16 HB_17 HO_18 KY_19 hb y0 y1 y2
  obtain ⟨m, hm⟩ : ∃ m, xs.length = m := ⟨_, rfl⟩
  rw [hm] at hlv ⊢
  have HM := hid hm
  clear hm
  have hvl := hlv.len
  have HLV_25 := hid (hlv)
  clear hlv
  have y0 := cell_laid (i := 0) KY_24.out rfl
  have y1 := cell_laid (i := 1) KY_24.out rfl
  have y2 := cell_laid (i := 2) KY_24.out rfl
  have HRT := hid (RefRight_any M1 ya za yc zc w20 HO_23.out.memL)
  unfold memV at HRT
  go_wp2_with fail
  refine (HRT.out).mono ?_
  rintro e w26 ⟨rfl, hb⟩
  have KX_27 := hid (keep_laid KX_21.out hb)
  have HB_28 := hid (step HB_22.out hb)
  have HO_29 := hid (HO_23.out.grow hb)
  have KY_30 := hid (keep_laid KY_24.out hb)
  have HLV_31 := hid (HLV_25.out.grow hb)
  clear KX_21 HB_22 HO_23 KY_24 HLV_25 hb y0 y1 y2 HRT
  go_upto_if 36 with (fail)
  skip
  go_cut [10, 11] (fun t10 t11 W => ∃ (ua : Option Addr) (uc : Nat), t10 = .slice ua m uc ∧ t11 = .int .i64 ((ev : Nat) : Int) ∧ Hid (Below w26.heap.size w26 W ∧ Leads W ua m uc (rwcells xs)))
  case first =>
    rcases HCS.out with ⟨hok, he, hx⟩ | ⟨hok, hno, he, hx⟩ | ⟨hok, ⟨met, hxs⟩, he⟩
    · rw [hok]
      subst he hx
      obtain rfl : 0 = m := HM.out
      go_wp2
      go_meet
      exact ⟨none, 0, rfl, rfl, hid ⟨Below.refl _ _, leads_nil _⟩⟩
    · rw [hok]
      subst he hx
      obtain rfl : 0 = m := HM.out
      have HNO := hid hno
      clear hno
      have y0 := cell_laid (i := 0) KY_30.out rfl
      have y1 := cell_laid (i := 1) KY_30.out rfl
      have y2 := cell_laid (i := 2) KY_30.out rfl
      have HOK := hid hok
      have HRR := hid (rRows19_any M1 ya za yc zc root w26 HO_29.out.memL hok hr HWC.out)
      unfold memV at HRR
      go_wp2_with fail
      refine HRR.out.mono ?_
      rintro e w9 ⟨hb9, ⟨hn, rfl⟩ | ⟨xs', met', v, u, hx', rfl, hrow, -⟩⟩
      · clear y0 y1 y2
        go_wp2
        go_meet
        exact ⟨none, 0, rfl, rfl, hid ⟨hb9, leads_nil _⟩⟩
      · rw [HNO.out] at hx'; cases hx'
    · rw [hok]
      subst he
      have HXS := hid hxs
      clear hxs
      have y0 := cell_laid (i := 0) KY_30.out rfl
      have y1 := cell_laid (i := 1) KY_30.out rfl
      have y2 := cell_laid (i := 2) KY_30.out rfl
      have HOK := hid hok
      have HRR := hid (rRows19_any M1 ya za yc zc root w26 HO_29.out.memL hok hr HWC.out)
      unfold memV at HRR
      go_wp2_with fail
      refine HRR.out.mono ?_
      rintro e w9 ⟨hb9, ⟨hn, rfl⟩ | ⟨xs', met', v, u, hx', rfl, hrow, -⟩⟩
      · rw [HXS.out] at hn; cases hn
      · rw [HXS.out] at hx'
        simp only [Option.some.injEq, Prod.mk.injEq] at hx'
        obtain ⟨hxe, -⟩ := hx'
        subst hxe
        obtain ⟨ua, uc, rfl, hl⟩ := Leads.of_own hrow
        rw [HM.out] at hl ⊢
        have HL := hid (And.intro hb9 hl)
        clear hl hb9 hrow y0 y1 y2 HRR
        go_wp2
        go_meet
        exact ⟨ua, uc, rfl, rfl, HL⟩
  case rest =>
    obtain ⟨ua, uc, rfl, rfl, hU⟩ := hcut
    have hb := hU.out.1
    have KX_32 := hid (keep_laid KX_27.out hb)
    have HB_33 := hid (step HB_28.out hb)
    have HO_34 := hid (HO_29.out.grow hb)
    have KY_35 := hid (keep_laid KY_30.out hb)
    have HLV_36 := hid (HLV_31.out.grow hb)
    clear KX_27 HB_28 HO_29 KY_30 HLV_31 hb
    have hul := hU.out.2.len
    have hne : (((ev : Nat) : Int) != ((ev : Nat) : Int)) = false := by simp
    have heq : (((ev : Nat) : Int) == ((ev : Nat) : Int)) = true := by simp
    have HSM := hid (rSameRw_any xs xs va ua m m vc uc wc HM.out HM.out HXO.out HXO.out HLV_36.out hU.out.2)
    rw [show decide (xs = xs) = true from decide_eq_true rfl] at HSM
    go_wp2_with fail
    refine (HSM.out).mono ?_
    rintro e w37 ⟨rfl, hb⟩
    have KX_38 := hid (keep_laid KX_32.out hb)
    have HB_39 := hid (step HB_33.out hb)
    have HO_40 := hid (HO_34.out.grow hb)
    have KY_41 := hid (keep_laid KY_35.out hb)
    have HLV_42 := hid (HLV_36.out.grow hb)
    clear KX_32 HB_33 HO_34 KY_35 HLV_36 hb hne heq HSM hU
    clear HLV_42
    clear hvl hul
    go_wp2
    have HF0 : Hid (DInv V X Y M M1 wa c1 la c2 ya yc za zc w37) := hid ⟨KX_38.out, KY_41.out, HO_40.out, HB_39.out⟩
    clear KX_38 KY_41 HO_40 HB_39
    go_loopg [57] n (fun g t57 wr => ∃ k : Nat, t57 = .int .i64 ((k : Nat) : Int) ∧ Hid (k + g = n) ∧ Hid (DInv V X Y M M1 wa c1 la c2 ya yc za zc wr))
    case atStart => exact ⟨0, rfl, hid (by omega), HF0⟩
    case round =>
      clear HF0
      obtain ⟨k, rfl, HK, hF⟩ := hrel
      have KX_43 := hid (hF.out.bx)
      have KY_44 := hid (hF.out.by_)
      have HO_45 : Hid (MemO V.heap.size ya yc za zc M1 wr) := hid (hF.out.mem)
      have HB_46 := hid (hF.out.bel)
      clear hF
      by_cases hlt : k < n
      · skip
        obtain ⟨b', off', x, rfl, hxb, -, hc⟩ := HKS.out k hlt
        have f1 := hc _ HB_46.out
        clear hc
        have hlt' : ((k : Nat) : Int) < ((n : Nat) : Int) := by omega
        have t1 : decide (((k : Nat) : Int) < ((n : Nat) : Int)) = true := decide_eq_true hlt'
        cases h8 : (((k : Nat) : Int) == 8) with
        | true =>
          go_upto_region 28 with (fail)
          obtain ⟨D, hD⟩ : ∃ DX, World.drew wr = DX := ⟨_, rfl⟩
          have hb : Below wr.heap.size wr D := by rw [← hD]; exact (Below.refl _ _).drew
          have HD := hid hD
          clear hD
          have KX_47 := hid (keep_laid KX_43.out hb)
          have KY_48 := hid (keep_laid KY_44.out hb)
          have HO_49 := hid (HO_45.out.grow hb)
          have HB_50 := hid (step HB_46.out hb)
          clear KX_43 KY_44 HO_45 HB_46 hb
          have r0 : ∀ z : Ext D, z.v.cell? ⟨Y, 0, none⟩ = some (.slice ya M1.W.length yc) := fun z => cell_laid (keep_laid KY_48.out z.b) rfl
          have r1 : ∀ z : Ext D, z.v.cell? ⟨Y, 1, none⟩ = some (.slice za M1.L.length zc) := fun z => cell_laid (keep_laid KY_48.out z.b) rfl
          have r2 : ∀ z : Ext D, z.v.cell? ⟨Y, 2, none⟩ = some (.bool M1.F) := fun z => cell_laid (keep_laid KY_48.out z.b) rfl
          have p0 : ∀ z : Ext D, z.v.cell? ⟨X, 0, none⟩ = some (.slice wa M.W.length c1) := fun z => cell_laid (keep_laid KX_47.out z.b) rfl
          have p1 : ∀ z : Ext D, z.v.cell? ⟨X, 1, none⟩ = some (.slice la M.L.length c2) := fun z => cell_laid (keep_laid KX_47.out z.b) rfl
          have p2 : ∀ z : Ext D, z.v.cell? ⟨X, 2, none⟩ = some (.bool M.F) := fun z => cell_laid (keep_laid KX_47.out z.b) rfl
          have HOWN := hid (lawown_any M wa la c1 c2 D (HM0.out.grow HB_50.out))
          rw [HTK.out] at HOWN
          unfold memV at HOWN
          refine wp_region_mix2 (fun W => ∃ z : Ext D, W = z.v) 5 (.q 0 (.q 1 (.h 2 (.h 3 (.q 4 .done))))) (by kernel_rfl) (by kernel_rfl) (by rw [HD.out]; exact ⟨⟨D, Below.refl _ _⟩, rfl⟩) ?_
          rw [HD.out]
          repeat (refine wpMix2_q rfl rfl ?_; go_big_quiet_step (fail); refine wpQuiet_nil ?_)
          refine wpMix2_h rfl fun R' hR' hO => ?_
          go_wp2_with fail
          refine HOWN.out.mono ?_
          rintro e v1 ⟨wao, wco, lao, lco, rfl, hoo, hbo⟩
          have hsm := RefSame_any M1 M1 ya za wao lao yc zc wco lco v1 (HO_49.out.memL.grow hbo) hoo.memL
          rw [sameM_self19] at hsm
          have HSM := hid hsm
          unfold memV at HSM
          have HBO := hid hbo
          clear hoo hbo hsm HOWN
          unfold memV
          go_wp2
          refine hR' _ _ ⟨⟨v1, HBO.out⟩, rfl⟩ ?_
          clear hR' hO R'
          refine wpMix2_h rfl fun R' hR' hO => ?_
          go_wp2_with fail
          refine HSM.out.mono ?_
          rintro e v2 ⟨rfl, hb2⟩
          have HB2 := hid (step HBO.out hb2)
          clear hb2
          go_wp2
          refine hR' _ _ ⟨⟨v2, HB2.out⟩, rfl⟩ ?_
          clear hR' hO R'
          repeat (refine wpMix2_q rfl rfl ?_; go_big_quiet_step (fail); refine wpQuiet_nil ?_)
          refine wpMix2_done ?_
          simp only [List.drop_succ_cons, List.drop_nil]
          go_wp2
          go_ret
          exact ⟨rfl, step HB_50.out HB2.out⟩
        | false =>
          have HFD := hid (TFind_any M1 root x ya za yc zc wr HO_45.out.memL (HG.out.grow HB_46.out) HWC.out hr hxb)
          unfold memV findTV at HFD
          have y0 := cell_laid (i := 0) KY_44.out rfl
          have y1 := cell_laid (i := 1) KY_44.out rfl
          have y2 := cell_laid (i := 2) KY_44.out rfl
          rcases HCS.out with ⟨hok, he, hx⟩ | ⟨hok, hno, he, hx⟩ | ⟨hok, ⟨met, hxs⟩, he⟩
          · skip
            have hfv : findT M1 root x = (0, 0, 120) := by unfold findT; rw [if_pos hok]
            rw [hfv] at HFD
            dsimp only at HFD
            subst he
            clear hfv hok hx
            go_wp2_with fail
            refine (HFD.out).mono ?_
            rintro e w51 ⟨rfl, hb⟩
            have KX_52 := hid (keep_laid KX_43.out hb)
            have KY_53 := hid (keep_laid KY_44.out hb)
            have HO_54 := hid (HO_45.out.grow hb)
            have HB_55 := hid (step HB_46.out hb)
            clear KX_43 KY_44 HO_45 HB_46 hb y0 y1 y2 f1 HFD
            go_wp2
            go_roundg (gk - 1)
            case measure => have := HK.out; omega
            case rel => exact ⟨k + 1, by go_num, hid (by have := HK.out; omega), hid ⟨KX_52.out, KY_53.out, HO_54.out, HB_55.out⟩⟩
          · skip
            have hfv : findT M1 root x = (0, 0, 290) := by unfold findT; rw [if_neg (by rw [hok]; decide), hno]; rfl
            rw [hfv] at HFD
            dsimp only at HFD
            subst he
            clear hfv hok hx hno
            go_wp2_with fail
            refine (HFD.out).mono ?_
            rintro e w56 ⟨rfl, hb⟩
            have KX_57 := hid (keep_laid KX_43.out hb)
            have KY_58 := hid (keep_laid KY_44.out hb)
            have HO_59 := hid (HO_45.out.grow hb)
            have HB_60 := hid (step HB_46.out hb)
            clear KX_43 KY_44 HO_45 HB_46 hb y0 y1 y2 f1 HFD
            go_wp2
            go_roundg (gk - 1)
            case measure => have := HK.out; omega
            case rel => exact ⟨k + 1, by go_num, hid (by have := HK.out; omega), hid ⟨KX_57.out, KY_58.out, HO_59.out, HB_60.out⟩⟩
          · skip
            subst he
            obtain ⟨hrun, hN⟩ := look_run hok HWC.out hr hxb hxs
            have hfv : findT M1 root x = if (lookT M1 root x).1.s.found = true then ((lookT M1 root x).1.s.val, (lookT M1 root x).2, 0) else (0, 0, 4) := by unfold findT; rw [if_neg (by rw [hok]; decide), hxs]; rfl
            obtain ⟨⟨⟨lp, lr, lk, larr, lm, ⟨sp, sh, sk, sl, sn, sv, sf⟩⟩, N⟩, hlt2⟩ : ∃ y, lookT M1 root x = y := ⟨_, rfl⟩
            rw [hlt2] at hrun hN hfv
            dsimp only at hrun hN hfv
            rw [hfv] at HFD
            have HOK := hid hok
            have HRUN := hid hrun
            clear hlt2 hfv hrun hok hxs
            cases sf with
            | false =>
              rw [if_neg (by decide)] at HFD
              dsimp only at HFD
              go_wp2_with fail
              refine (HFD.out).mono ?_
              rintro e w61 ⟨rfl, hb⟩
              have KX_62 := hid (keep_laid KX_43.out hb)
              have KY_63 := hid (keep_laid KY_44.out hb)
              have HO_64 := hid (HO_45.out.grow hb)
              have HB_65 := hid (step HB_46.out hb)
              clear KX_43 KY_44 HO_45 HB_46 hb y0 y1 y2 f1 HFD
              have y0 := cell_laid (i := 0) KY_63.out rfl
              have y1 := cell_laid (i := 1) KY_63.out rfl
              have y2 := cell_laid (i := 2) KY_63.out rfl
              have HLK := hid (rLook19_any root x N M1 _ ya za yc zc w61 HO_64.out.memL HOK.out HWC.out HRUN.out (by omega))
              unfold memV lkV lk12 at HLK
              dsimp only at HLK
              go_wp2_with fail
              refine (HLK.out).mono ?_
              rintro e w66 ⟨rfl, hb⟩
              have KX_67 := hid (keep_laid KX_62.out hb)
              have KY_68 := hid (keep_laid KY_63.out hb)
              have HO_69 := hid (HO_64.out.grow hb)
              have HB_70 := hid (step HB_65.out hb)
              clear KX_62 KY_63 HO_64 HB_65 hb y0 y1 y2 HLK
              obtain ⟨w71, hw71, hb, hs, hl⟩ := laid w66 #[.int .i64 0, .int .u64 0, .int .u64 0, .int .u64 0, .int .i64 0, .int .i64 0, .int .u64 0, .int .u64 0, .int .u64 0, .int .u64 0, .int .u64 0, .bool false] 43
              obtain ⟨L, hL⟩ : ∃ X, w66.heap.size = X := ⟨_, rfl⟩
              rw [hL] at hl
              have nXL : X ≠ L := by have := lt_laid KX_67.out; omega
              have nYL : Y ≠ L := by have := lt_laid KY_68.out; omega
              have hVL : V.heap.size ≤ L := by have := HB_70.out.size; omega
              have KX_72 := hid (keep_laid KX_67.out hb)
              have KY_73 := hid (keep_laid KY_68.out hb)
              have HO_74 := hid (HO_69.out.grow hb)
              have HB_75 := hid (step HB_70.out hb)
              clear KX_67 KY_68 HO_69 HB_70
              have KL_76 := hid (hl)
              clear hb hs hl
              have hv1 : (((sv : Nat) : Int) != ((sv : Nat) : Int)) = false := by simp
              have hv2 : (((N : Nat) : Int) != ((N : Nat) : Int)) = false := by simp
              go_wp2_with (refine wp_storeP rfl 43 (.tmp 23) (.tmp 80) rfl L 0 _ #[.int .i64 lp, .int .u64 ((lr : Nat) : Int), .int .u64 ((lk : Nat) : Int), .int .u64 ((larr : Nat) : Int), .int .i64 lm, .int .i64 sp, .int .u64 ((sh : Nat) : Int), .int .u64 ((sk : Nat) : Int), .int .u64 ((sl : Nat) : Int), .int .u64 ((sn : Nat) : Int), .int .u64 ((sv : Nat) : Int), .bool false] _ rfl rfl _ KL_76.out (by kernel_rfl) (Nat.le_of_ble_eq_true rfl) (by kernel_rfl) rfl ?_; intro w77 a1 a2 a3 a4; have KX_78 := hid (a2 _ _ (by first | exact nXL | exact Ne.symm nLX) KX_72.out); have KY_79 := hid (a2 _ _ (by first | exact nYL | exact Ne.symm nLY) KY_73.out); have HO_80 : Hid (MemO V.heap.size ya yc za zc M1 w77) := hid (⟨own_keep HO_74.out.w fun k o hk ho => a2 k o (own_neT HO_74.out.w KL_76.out (by decide) k hk) ho, own_keep HO_74.out.l fun k o hk ho => a2 k o (own_neT HO_74.out.l KL_76.out (by decide) k hk) ho⟩); have HB_81 := hid (a3 V.heap.size V hVL HB_75.out); have KL_82 := hid (a1); clear a1 a2 a3 a4 KX_72 KY_73 HO_74 HB_75 KL_76; (try simp only [Act.put]); have l11 := cell_laid (i := 11) KL_82.out rfl)
              go_roundg (gk - 1)
              case measure => have := HK.out; omega
              case rel => exact ⟨k + 1, by go_num, hid (by have := HK.out; omega), hid ⟨KX_78.out, KY_79.out, HO_80.out, HB_81.out⟩⟩
            | true =>
              rw [if_pos rfl] at HFD
              dsimp only at HFD
              go_wp2_with fail
              refine (HFD.out).mono ?_
              rintro e w83 ⟨rfl, hb⟩
              have KX_84 := hid (keep_laid KX_43.out hb)
              have KY_85 := hid (keep_laid KY_44.out hb)
              have HO_86 := hid (HO_45.out.grow hb)
              have HB_87 := hid (step HB_46.out hb)
              clear KX_43 KY_44 HO_45 HB_46 hb y0 y1 y2 f1 HFD
              have y0 := cell_laid (i := 0) KY_85.out rfl
              have y1 := cell_laid (i := 1) KY_85.out rfl
              have y2 := cell_laid (i := 2) KY_85.out rfl
              have HLK := hid (rLook19_any root x N M1 _ ya za yc zc w83 HO_86.out.memL HOK.out HWC.out HRUN.out (by omega))
              unfold memV lkV lk12 at HLK
              dsimp only at HLK
              go_wp2_with fail
              refine (HLK.out).mono ?_
              rintro e w88 ⟨rfl, hb⟩
              have KX_89 := hid (keep_laid KX_84.out hb)
              have KY_90 := hid (keep_laid KY_85.out hb)
              have HO_91 := hid (HO_86.out.grow hb)
              have HB_92 := hid (step HB_87.out hb)
              clear KX_84 KY_85 HO_86 HB_87 hb y0 y1 y2 HLK
              obtain ⟨w93, hw93, hb, hs, hl⟩ := laid w88 #[.int .i64 0, .int .u64 0, .int .u64 0, .int .u64 0, .int .i64 0, .int .i64 0, .int .u64 0, .int .u64 0, .int .u64 0, .int .u64 0, .int .u64 0, .bool false] 43
              obtain ⟨L, hL⟩ : ∃ X, w88.heap.size = X := ⟨_, rfl⟩
              rw [hL] at hl
              have nXL : X ≠ L := by have := lt_laid KX_89.out; omega
              have nYL : Y ≠ L := by have := lt_laid KY_90.out; omega
              have hVL : V.heap.size ≤ L := by have := HB_92.out.size; omega
              have KX_94 := hid (keep_laid KX_89.out hb)
              have KY_95 := hid (keep_laid KY_90.out hb)
              have HO_96 := hid (HO_91.out.grow hb)
              have HB_97 := hid (step HB_92.out hb)
              clear KX_89 KY_90 HO_91 HB_92
              have KL_98 := hid (hl)
              clear hb hs hl
              have hv1 : (((sv : Nat) : Int) != ((sv : Nat) : Int)) = false := by simp
              have hv2 : (((N : Nat) : Int) != ((N : Nat) : Int)) = false := by simp
              go_wp2_with (refine wp_storeP rfl 43 (.tmp 23) (.tmp 80) rfl L 0 _ #[.int .i64 lp, .int .u64 ((lr : Nat) : Int), .int .u64 ((lk : Nat) : Int), .int .u64 ((larr : Nat) : Int), .int .i64 lm, .int .i64 sp, .int .u64 ((sh : Nat) : Int), .int .u64 ((sk : Nat) : Int), .int .u64 ((sl : Nat) : Int), .int .u64 ((sn : Nat) : Int), .int .u64 ((sv : Nat) : Int), .bool true] _ rfl rfl _ KL_98.out (by kernel_rfl) (Nat.le_of_ble_eq_true rfl) (by kernel_rfl) rfl ?_; intro w99 a1 a2 a3 a4; have KX_100 := hid (a2 _ _ (by first | exact nXL | exact Ne.symm nLX) KX_94.out); have KY_101 := hid (a2 _ _ (by first | exact nYL | exact Ne.symm nLY) KY_95.out); have HO_102 : Hid (MemO V.heap.size ya yc za zc M1 w99) := hid (⟨own_keep HO_96.out.w fun k o hk ho => a2 k o (own_neT HO_96.out.w KL_98.out (by decide) k hk) ho, own_keep HO_96.out.l fun k o hk ho => a2 k o (own_neT HO_96.out.l KL_98.out (by decide) k hk) ho⟩); have HB_103 := hid (a3 V.heap.size V hVL HB_97.out); have KL_104 := hid (a1); clear a1 a2 a3 a4 KX_94 KY_95 HO_96 HB_97 KL_98; (try simp only [Act.put]); have l11 := cell_laid (i := 11) KL_104.out rfl; have l10 := cell_laid (i := 10) KL_104.out rfl)
              go_roundg (gk - 1)
              case measure => have := HK.out; omega
              case rel => exact ⟨k + 1, by go_num, hid (by have := HK.out; omega), hid ⟨KX_100.out, KY_101.out, HO_102.out, HB_103.out⟩⟩
      · skip
        have hlt' : ¬ ((k : Nat) : Int) < ((n : Nat) : Int) := by omega
        have t1 : decide (((k : Nat) : Int) < ((n : Nat) : Int)) = false := decide_eq_false hlt'
        go_upto_region 28 with (fail)
        obtain ⟨D, hD⟩ : ∃ DX, World.drew wr = DX := ⟨_, rfl⟩
        have hb : Below wr.heap.size wr D := by rw [← hD]; exact (Below.refl _ _).drew
        have HD := hid hD
        clear hD
        have KX_105 := hid (keep_laid KX_43.out hb)
        have KY_106 := hid (keep_laid KY_44.out hb)
        have HO_107 := hid (HO_45.out.grow hb)
        have HB_108 := hid (step HB_46.out hb)
        clear KX_43 KY_44 HO_45 HB_46 hb
        have r0 : ∀ z : Ext D, z.v.cell? ⟨Y, 0, none⟩ = some (.slice ya M1.W.length yc) := fun z => cell_laid (keep_laid KY_106.out z.b) rfl
        have r1 : ∀ z : Ext D, z.v.cell? ⟨Y, 1, none⟩ = some (.slice za M1.L.length zc) := fun z => cell_laid (keep_laid KY_106.out z.b) rfl
        have r2 : ∀ z : Ext D, z.v.cell? ⟨Y, 2, none⟩ = some (.bool M1.F) := fun z => cell_laid (keep_laid KY_106.out z.b) rfl
        have p0 : ∀ z : Ext D, z.v.cell? ⟨X, 0, none⟩ = some (.slice wa M.W.length c1) := fun z => cell_laid (keep_laid KX_105.out z.b) rfl
        have p1 : ∀ z : Ext D, z.v.cell? ⟨X, 1, none⟩ = some (.slice la M.L.length c2) := fun z => cell_laid (keep_laid KX_105.out z.b) rfl
        have p2 : ∀ z : Ext D, z.v.cell? ⟨X, 2, none⟩ = some (.bool M.F) := fun z => cell_laid (keep_laid KX_105.out z.b) rfl
        have HOWN := hid (lawown_any M wa la c1 c2 D (HM0.out.grow HB_108.out))
        rw [HTK.out] at HOWN
        unfold memV at HOWN
        refine wp_region_mix2 (fun W => ∃ z : Ext D, W = z.v) 5 (.q 0 (.q 1 (.h 2 (.h 3 (.q 4 .done))))) (by kernel_rfl) (by kernel_rfl) (by rw [HD.out]; exact ⟨⟨D, Below.refl _ _⟩, rfl⟩) ?_
        rw [HD.out]
        repeat (refine wpMix2_q rfl rfl ?_; go_big_quiet_step (fail); refine wpQuiet_nil ?_)
        refine wpMix2_h rfl fun R' hR' hO => ?_
        go_wp2_with fail
        refine HOWN.out.mono ?_
        rintro e v1 ⟨wao, wco, lao, lco, rfl, hoo, hbo⟩
        have hsm := RefSame_any M1 M1 ya za wao lao yc zc wco lco v1 (HO_107.out.memL.grow hbo) hoo.memL
        rw [sameM_self19] at hsm
        have HSM := hid hsm
        unfold memV at HSM
        have HBO := hid hbo
        clear hoo hbo hsm HOWN
        unfold memV
        go_wp2
        refine hR' _ _ ⟨⟨v1, HBO.out⟩, rfl⟩ ?_
        clear hR' hO R'
        refine wpMix2_h rfl fun R' hR' hO => ?_
        go_wp2_with fail
        refine HSM.out.mono ?_
        rintro e v2 ⟨rfl, hb2⟩
        have HB2 := hid (step HBO.out hb2)
        clear hb2
        go_wp2
        refine hR' _ _ ⟨⟨v2, HB2.out⟩, rfl⟩ ?_
        clear hR' hO R'
        repeat (refine wpMix2_q rfl rfl ?_; go_big_quiet_step (fail); refine wpQuiet_nil ?_)
        refine wpMix2_done ?_
        simp only [List.drop_succ_cons, List.drop_nil]
        go_wp2
        go_ret
        exact ⟨rfl, step HB_108.out HB2.out⟩
end Go.Proofs.YtahicokokfcieaaGreatDoor
