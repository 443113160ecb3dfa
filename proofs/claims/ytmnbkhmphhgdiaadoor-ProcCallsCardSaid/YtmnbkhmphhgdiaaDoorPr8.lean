/- Processes: what who waits does in a table (printed by gen_pr8.py). -/
import Derived.Test.YtmnbkhmphhgdiaaDoorPr7
namespace Go.Proofs.YtmnbkhmphhgdiaaDoor
open Go.RowKit Go.Shelf
open Go.Proofs
set_option linter.unusedVariables false
attribute [local go_sem] Oper.semAt_some
theorem wait11_any (t : Pr) (p X : Nat) (V : World) (h : V.cell? ⟨X, 0, none⟩ = some (.int .u64 ((p : Nat) : Int))) (hX : X < V.heap.size) :
    Calls Tryd.prog 44 #[prV t, .pointer (some ⟨X, 0, none⟩)] V (Ret (.bool (decide (t.1 ≠ p))) V) := by
  obtain ⟨q, q1, q2, q3⟩ := t
  obtain ⟨V1, hV1, hb1, hs1, hl1⟩ := laid V #[.int .u64 ((q : Nat) : Int), .int .u64 ((q1 : Nat) : Int), .bool q2, .int .u64 ((q3 : Nat) : Int)] 45
  have x0 : V1.cell? ⟨X, 0, none⟩ = some (.int .u64 ((p : Nat) : Int)) := (hb1.cell (p := ⟨X, 0, none⟩) hX).trans h
  have t0 := cell_laid (i := 0) hl1 rfl
  have HB1 := hid hb1
  unfold prV
  have HE : Hid ((((q : Nat) : Int) != ((p : Nat) : Int)) = decide (q ≠ p)) := hid (by rw [Bool.eq_iff_iff]; simp; omega)
  clear h hl1 hb1 hs1
  go_enter Tryd.func44, Tryd.ntmps44
  go_wp2
  go_ret
  exact ⟨retb HE.out, HB1.out⟩
set_option maxRecDepth 100000 in
set_option maxHeartbeats 8000000 in
theorem WaitDoes (T n vc base X0 X1 X2 pid child : Nat) (va : Option Addr) (G : Nat → Int) (L : List Pr) (W : World) (hT : W.heap[T]? = some (.cells #[.int .i64 (G 0), .int .i64 (G 1), .int .i64 (G 2), .int .i64 (G 3), .int .i64 (G 4), .int .i64 (G 5), .int .i64 (G 6), .int .i64 (G 7), .int .i64 (G 8), .int .i64 (G 9), .int .i64 (G 10), .int .i64 (G 11), .int .i64 (G 12), .int .i64 (G 13), .int .i64 (G 14), .int .i64 (G 15), .slice va n vc] 65 (0, 0))) (hown : W.ownsRow base 45 4 (.slice va n vc) n (prcells L)) (hn : L.length = n) (hn5 : n ≤ 999) (hok : OkL G L) (hL : PrsOk L) (hb : base ≤ W.heap.size)
    (hX0 : W.heap[X0]? = some (.cells #[.int .u64 ((pid : Nat) : Int)] 29 (0, 0))) (hX1 : W.heap[X1]? = some (.cells #[.int .u64 ((child : Nat) : Int)] 29 (0, 0))) (hX2 : W.heap[X2]? = some (.cells #[.int .u64 ((0 : Nat) : Int)] 29 (0, 0))) (h02 : X0 ≠ X2) (h12 : X1 ≠ X2) :
    Calls Tryd.prog 42 #[.pointer (some ⟨T, 0, none⟩), .pointer (some ⟨X0, 0, none⟩), .pointer (some ⟨X1, 0, none⟩), .pointer (some ⟨X2, 0, none⟩)] W (DoesOk W base T (Value.slice va n vc).ownBlock (some X2) (waitP G L pid child)) := by
  have hl := Leads.of_own1 hown
  have hlen := hl.len
  have HRT := hid (fun hr => running_t T n vc pid va G L W hT hl hn (by omega) hr)
  have HRF := hid (fun hr => running_f T n vc pid va G L W hT hl hn (by omega) hr)
  have hX1T : X1 ≠ T := type_ne hX1 hT (by decide)
  have hX2T : X2 ≠ T := type_ne hX2 hT (by decide)
  have HG2 := hid (own_neP hown hX2 (by decide))
  have HG1 := hid (own_neP hown hX1 (by decide))
  have HL := hid hl
  have HN := hid hn
  have HOK := hid hok
  have HPL := hid hL
  have KT := hid hT
  have K0 := hid hX0
  have K1 := hid hX1
  have K2 := hid hX2
  have HOW := hid hown
  have HB := hid (Below.refl W.heap.size W)
  obtain ⟨RES, hRES⟩ : ∃ r, waitP G L pid child = r := ⟨_, rfl⟩
  rw [hRES]
  have HRES := hid hRES
  have hmf : ∀ (fn : Fn) (first cap : Array Value) (w : World), (Instr.makeFunc fn first cap).run Tryd.prog w = .ok (.func fn first cap) w := fun _ _ _ _ => rfl
  clear hT hX0 hX1 hX2 hown hl hn hok hL hRES
  have x0 := cell_laid (i := 0) K0.out rfl
  cases hr : runsB L pid with
  | false =>
    have HR := hid hr
    have HRF2 := hid (HRF.out hr)
    clear hr HRF HRT
    go_enter Tryd.func42, Tryd.ntmps42
    go_wp2_with fail
    refine (HRF2.out).mono ?_
    rintro e w1_32 ⟨rfl, hbn⟩
    have KT_1 := hid (keep_laid KT.out hbn)
    have K0_2 := hid (keep_laid K0.out hbn)
    have K1_3 := hid (keep_laid K1.out hbn)
    have K2_4 := hid (keep_laid K2.out hbn)
    have HB_5 := hid (HB.out.trans (hbn.mono HB.out.size))
    have HOW_6 := hid (own_grow HOW.out hbn)
    clear KT K0 K1 K2 HB HOW hbn HRF2 x0
    go_wp2
    rw [← HRES.out]
    unfold waitP
    rw [if_neg (by rw [HR.out]; decide)]
    exact ⟨rfl, TchP.of_below HB_5.out, rfl, fun b hb => by cases hb; exact K2_4.out⟩
  | true =>
    have HR := hid hr
    have HRT2 := hid (HRT.out hr)
    clear hr HRF HRT
    go_enter Tryd.func42, Tryd.ntmps42
    go_wp2_with fail
    refine (HRT2.out).mono ?_
    rintro e w1_52 ⟨hr, hbn⟩
    have KT_1 := hid (keep_laid KT.out hbn)
    have K0_2 := hid (keep_laid K0.out hbn)
    have K1_3 := hid (keep_laid K1.out hbn)
    have K2_4 := hid (keep_laid K2.out hbn)
    have HB_5 := hid (HB.out.trans (hbn.mono HB.out.size))
    have HOW_6 := hid (own_grow HOW.out hbn)
    clear KT K0 K1 K2 HB HOW hbn HRT2 x0
    obtain ⟨k0, xx0, b0, off0, -, -, -, -, -, rfl⟩ := hr
    have HOF := hid (of_any T n vc child va G _ L w1_52 KT_1.out (HL.out.grow HB_5.out) HN.out (by omega))
    have y0 := cell_laid (i := 0) K1_3.out rfl
    go_wp2_with fail
    refine (HOF.out).mono ?_
    rintro e w2_65 ⟨r, rfl, hr, hbn⟩
    have KT_7 := hid (keep_laid KT_1.out hbn)
    have K0_8 := hid (keep_laid K0_2.out hbn)
    have K1_9 := hid (keep_laid K1_3.out hbn)
    have K2_10 := hid (keep_laid K2_4.out hbn)
    have HB_11 := hid (HB_5.out.trans (hbn.mono HB_5.out.size))
    have HOW_12 := hid (own_grow HOW_6.out hbn)
    clear KT_1 K0_2 K1_3 K2_4 HB_5 HOW_6 hbn HOF y0
    rcases hr.find with ⟨rfl, hf⟩ | ⟨k, x, b, off, hk, hx, hf, rfl, rfl⟩
    · have HF := hid hf
      clear hr hf
      go_upto_region 2 with (fail)
      have x0 : ∀ z : Ext w2_65, z.v.cell? ⟨X0, 0, none⟩ = some (.int .u64 ((pid : Nat) : Int)) := fun z => cell_laid (keep_laid K0_8.out z.b) rfl
      obtain ⟨D, hD⟩ : ∃ DX, w2_65.drew = DX := ⟨_, rfl⟩
      have hbD : Below w2_65.heap.size w2_65 D := by rw [← hD]; exact (Below.refl _ _).drew
      have HD := hid hD
      clear hD
      refine wp_region_mix3 (fun W => ∃ z : Ext w2_65, W = z.v) 10 (.q 0 (.q 1 (.q 2 (.q 3 (.q 4 (.q 5 (.q 6 (.q 7 (.q 8 (.q 9 .done)))))))))) (by kernel_rfl) (by kernel_rfl) (by rw [HD.out]; exact ⟨⟨D, hbD⟩, rfl⟩) ?_
      rw [HD.out]
      have KT_13 := hid (keep_laid KT_7.out hbD)
      have K0_14 := hid (keep_laid K0_8.out hbD)
      have K1_15 := hid (keep_laid K1_9.out hbD)
      have K2_16 := hid (keep_laid K2_10.out hbD)
      have HB_17 := hid (HB_11.out.trans (hbD.mono HB_11.out.size))
      have HOW_18 := hid (own_grow HOW_12.out hbD)
      clear KT_7 K0_8 K1_9 K2_10 HB_11 HOW_12 hbD
      repeat (refine wpMix3_q rfl rfl ?_; go_big_quiet_step (fail); refine wpQuiet_nil ?_)
      refine wpMix3_done ?_
      simp only [List.drop_succ_cons, List.drop_zero]
      clear x0
      go_wp2_with fail
      refine (need_f 324 _).mono ?_
      rintro e w3_97 ⟨rfl, hbn⟩
      have KT_19 := hid (keep_laid KT_13.out hbn)
      have K0_20 := hid (keep_laid K0_14.out hbn)
      have K1_21 := hid (keep_laid K1_15.out hbn)
      have K2_22 := hid (keep_laid K2_16.out hbn)
      have HB_23 := hid (HB_17.out.trans (hbn.mono HB_17.out.size))
      have HOW_24 := hid (own_grow HOW_18.out hbn)
      clear KT_13 K0_14 K1_15 K2_16 HB_17 HOW_18 hbn
      go_wp2
      rw [← HRES.out]
      unfold waitP
      rw [if_pos HR.out, HF.out]
      exact ⟨rfl, TchP.of_below HB_23.out, rfl, fun b hb => by cases hb; exact K2_22.out⟩
    · obtain ⟨c0, c1, c2, c3⟩ := x
      have HF := hid hf
      have HXM := hid (List.mem_of_getElem? hk)
      obtain ⟨b2, off2, hab, -, hcx⟩ := HL.out.pr (by rw [← HN.out]; exact (List.getElem?_eq_some_iff.1 hk).1) hk
      simp only [Option.some.injEq, Addr.mk.injEq, and_true] at hab
      obtain ⟨rfl, rfl⟩ := hab
      have HCX := hid hcx
      clear hr hf hcx hk hx
      have f1 : ∀ z : Ext w2_65, z.v.cell? ⟨b, off + k * 4 + 1, none⟩ = some (.int .u64 ((c1 : Nat) : Int)) := fun z => (HCX.out z.v (HB_11.out.trans (z.b.mono HB_11.out.size))).2.1
      by_cases hp : c1 = pid
      · have tp : (((c1 : Nat) : Int) == ((pid : Nat) : Int)) = true := by simp; omega
        have HP := hid hp
        clear hp
        go_upto_region 2 with (fail)
        have x0 : ∀ z : Ext w2_65, z.v.cell? ⟨X0, 0, none⟩ = some (.int .u64 ((pid : Nat) : Int)) := fun z => cell_laid (keep_laid K0_8.out z.b) rfl
        obtain ⟨D, hD⟩ : ∃ DX, w2_65.drew = DX := ⟨_, rfl⟩
        have hbD : Below w2_65.heap.size w2_65 D := by rw [← hD]; exact (Below.refl _ _).drew
        have HD := hid hD
        clear hD
        refine wp_region_mix3 (fun W => ∃ z : Ext w2_65, W = z.v) 10 (.q 0 (.q 1 (.q 2 (.q 3 (.q 4 (.q 5 (.q 6 (.q 7 (.q 8 (.q 9 .done)))))))))) (by kernel_rfl) (by kernel_rfl) (by rw [HD.out]; exact ⟨⟨D, hbD⟩, rfl⟩) ?_
        rw [HD.out]
        have KT_13 := hid (keep_laid KT_7.out hbD)
        have K0_14 := hid (keep_laid K0_8.out hbD)
        have K1_15 := hid (keep_laid K1_9.out hbD)
        have K2_16 := hid (keep_laid K2_10.out hbD)
        have HB_17 := hid (HB_11.out.trans (hbD.mono HB_11.out.size))
        have HOW_18 := hid (own_grow HOW_12.out hbD)
        clear KT_7 K0_8 K1_9 K2_10 HB_11 HOW_12 hbD
        repeat (refine wpMix3_q rfl rfl ?_; go_big_quiet_step (fail); refine wpQuiet_nil ?_)
        refine wpMix3_done ?_
        simp only [List.drop_succ_cons, List.drop_zero]
        clear x0
        clear f1
        go_wp2_with fail
        refine (need_t 324 _).mono ?_
        rintro e w3_146 ⟨rfl, hbn⟩
        have KT_19 := hid (keep_laid KT_13.out hbn)
        have K0_20 := hid (keep_laid K0_14.out hbn)
        have K1_21 := hid (keep_laid K1_15.out hbn)
        have K2_22 := hid (keep_laid K2_16.out hbn)
        have HB_23 := hid (HB_17.out.trans (hbn.mono HB_17.out.size))
        have HOW_24 := hid (own_grow HOW_18.out hbn)
        clear KT_13 K0_14 K1_15 K2_16 HB_17 HOW_18 hbn
        obtain ⟨f0, f1, f2, f3⟩ := HCX.out w3_146 HB_23.out
        try dsimp only at f0 f1 f2 f3
        clear f0 f1
        cases c2 with
        | false =>
          go_wp2_with fail
          refine (need_f 322 _).mono ?_
          rintro e w4_161 ⟨rfl, hbn⟩
          have KT_25 := hid (keep_laid KT_19.out hbn)
          have K0_26 := hid (keep_laid K0_20.out hbn)
          have K1_27 := hid (keep_laid K1_21.out hbn)
          have K2_28 := hid (keep_laid K2_22.out hbn)
          have HB_29 := hid (HB_23.out.trans (hbn.mono HB_23.out.size))
          have HOW_30 := hid (own_grow HOW_24.out hbn)
          clear KT_19 K0_20 K1_21 K2_22 HB_23 HOW_24 hbn f2 f3
          go_wp2
          rw [← HRES.out]
          unfold waitP
          rw [if_pos HR.out, HF.out]; dsimp only; rw [if_pos HP.out, if_neg (by decide)]
          exact ⟨rfl, TchP.of_below HB_29.out, rfl, fun b hb => by cases hb; exact K2_28.out⟩
        | true =>
          go_wp2_with fail
          refine (need_t 322 _).mono ?_
          rintro e w4_177 ⟨rfl, hbn⟩
          have KT_25 := hid (keep_laid KT_19.out hbn)
          have K0_26 := hid (keep_laid K0_20.out hbn)
          have K1_27 := hid (keep_laid K1_21.out hbn)
          have K2_28 := hid (keep_laid K2_22.out hbn)
          have HB_29 := hid (HB_23.out.trans (hbn.mono HB_23.out.size))
          have HOW_30 := hid (own_grow HOW_24.out hbn)
          clear KT_19 K0_20 K1_21 K2_22 HB_23 HOW_24 hbn f2 f3
          obtain ⟨f0, f1, f2, f3⟩ := HCX.out w4_177 HB_29.out
          try dsimp only at f0 f1 f2 f3
          clear f0 f1 f2
          have y0 := cell_laid (i := 0) K2_28.out rfl
          have yf0 := free_laid (i := 0) K2_28.out
          go_upto_region 5 with (fail)
          have HBK := HB_29
          obtain ⟨uu, huu, -, -, -, hg5⟩ := putN1 K2_28.out (.int .u64 ((c3 : Nat) : Int))
          have K2_28_o := K2_28.out
          obtain ⟨u5_196, hu5_196, a1, a2, a3, a4⟩ := putN1 K2_28.out (.int .u64 ((c3 : Nat) : Int))
          have E6_196 := hid hu5_196
          have KT_31 := hid (a2 T _ (by omega) KT_25.out)
          have K0_32 := hid (a2 X0 _ (by omega) K0_26.out)
          have K1_33 := hid (a2 X1 _ (by omega) K1_27.out)
          have K2_34 := hid (a1)
          have HOW_35 := hid (own_keep HOW_30.out fun k o hk ho => a2 k o (fun e => own_neP HOW_30.out K2_28_o (by decide) (by rw [← e]; exact hk)) ho)
          clear KT_25 K0_26 K1_27 K2_28 HOW_30 hu5_196 a1 a2 a3 a4
          clear K2_28_o
          rw [huu, ← E6_196.out] at hg5
          have HG5 := hid hg5
          clear hg5 huu uu
          rw [← E6_196.out]
          clear y0 yf0 f3
          have F1 : Hid (TchP (Wr T (Value.slice (some ⟨b, off, none⟩) n vc).ownBlock (some X2)) W u5_196) := hid ((TchP.of_below HBK.out).trans (TchP.of_grown HG5.out (.inr (.inr rfl))))
          have t16 := cell_laid (i := 16) KT_31.out rfl
          obtain ⟨ys, hys⟩ : ∃ ys, L.filter (fun y => decide (y.1 ≠ child)) = ys := ⟨_, rfl⟩
          have HKE := hid (KeptWait L (fun y => decide (y.1 ≠ child)) (some ⟨b, off, none⟩) n vc X1 u5_196 (Leads.of_own1 HOW_35.out) HN.out (by omega) (fun t W hW => wait11_any t child X1 W (cell_laid (keep_laid K1_33.out hW) rfl) (lt_laid (keep_laid K1_33.out hW))))
          rw [hys] at HKE
          have HYS := hid hys
          unfold GivesPr at HKE
          obtain ⟨m, hm⟩ : ∃ m, ys.length = m := ⟨_, rfl⟩
          rw [hm] at HKE
          have HM := hid hm
          clear hys hm
          go_wp2_with fail
          refine (HKE.out).mono ?_
          rintro e w7_221 ⟨v, rfl, hrow, hbn⟩
          clear HKE t16
          have F2 := hid (F1.out.trans (TchP.of_below hbn))
          have hwb : base ≤ u5_196.heap.size := Nat.le_trans hb F1.out.size
          have KT_36 := hid (keep_laid KT_31.out hbn)
          have K0_37 := hid (keep_laid K0_32.out hbn)
          have K1_38 := hid (keep_laid K1_33.out hbn)
          have K2_39 := hid (keep_laid K2_34.out hbn)
          clear KT_31 K0_32 K1_33 K2_34 hbn
          have HROW := hid (own_base hrow hwb)
          obtain ⟨na, nc, rfl, hlv⟩ := Leads.of_own hrow
          have hvl := hlv.len
          clear hrow hlv
          have t16 := cell_laid (i := 16) KT_36.out rfl
          have tf16 := free_laid (i := 16) KT_36.out
          obtain ⟨u9, hu9, a1, a2, a3, a4⟩ := put17_16 KT_36.out (.slice na m nc)
          have E9 := hid hu9
          have T9 := hid a1
          have K29 := hid (a2 X2 _ hX2T K2_39.out)
          have O9 := hid (own_keep HROW.out fun k o hk ho => a2 k o (fun e => own_neP HROW.out KT_36.out (by decide) (by rw [← e]; exact hk)) ho)
          have F9 := hid (F2.out.trans (TchP.of_grown a4 (.inl rfl)))
          clear hu9 a1 a2 a3 a4
          go_wp2
          go_end0
          rw [← E9.out, ← HRES.out]
          unfold waitP
          rw [if_pos HR.out, HF.out]
          dsimp only
          rw [if_pos HP.out, if_pos rfl, HYS.out]
          refine ⟨F9.out, rfl, fun b hb => by cases hb; exact K29.out, na, nc, ?_, ?_⟩
          · rw [HM.out]; exact T9.out
          · rw [HM.out]; exact O9.out
      · have tp : (((c1 : Nat) : Int) == ((pid : Nat) : Int)) = false := by simp; omega
        have HP := hid hp
        clear hp
        go_upto_region 2 with (fail)
        have x0 : ∀ z : Ext w2_65, z.v.cell? ⟨X0, 0, none⟩ = some (.int .u64 ((pid : Nat) : Int)) := fun z => cell_laid (keep_laid K0_8.out z.b) rfl
        obtain ⟨D, hD⟩ : ∃ DX, w2_65.drew = DX := ⟨_, rfl⟩
        have hbD : Below w2_65.heap.size w2_65 D := by rw [← hD]; exact (Below.refl _ _).drew
        have HD := hid hD
        clear hD
        refine wp_region_mix3 (fun W => ∃ z : Ext w2_65, W = z.v) 10 (.q 0 (.q 1 (.q 2 (.q 3 (.q 4 (.q 5 (.q 6 (.q 7 (.q 8 (.q 9 .done)))))))))) (by kernel_rfl) (by kernel_rfl) (by rw [HD.out]; exact ⟨⟨D, hbD⟩, rfl⟩) ?_
        rw [HD.out]
        have KT_13 := hid (keep_laid KT_7.out hbD)
        have K0_14 := hid (keep_laid K0_8.out hbD)
        have K1_15 := hid (keep_laid K1_9.out hbD)
        have K2_16 := hid (keep_laid K2_10.out hbD)
        have HB_17 := hid (HB_11.out.trans (hbD.mono HB_11.out.size))
        have HOW_18 := hid (own_grow HOW_12.out hbD)
        clear KT_7 K0_8 K1_9 K2_10 HB_11 HOW_12 hbD
        repeat (refine wpMix3_q rfl rfl ?_; go_big_quiet_step (fail); refine wpQuiet_nil ?_)
        refine wpMix3_done ?_
        simp only [List.drop_succ_cons, List.drop_zero]
        clear x0
        clear f1
        go_wp2_with fail
        refine (need_f 324 _).mono ?_
        rintro e w3_278 ⟨rfl, hbn⟩
        have KT_19 := hid (keep_laid KT_13.out hbn)
        have K0_20 := hid (keep_laid K0_14.out hbn)
        have K1_21 := hid (keep_laid K1_15.out hbn)
        have K2_22 := hid (keep_laid K2_16.out hbn)
        have HB_23 := hid (HB_17.out.trans (hbn.mono HB_17.out.size))
        have HOW_24 := hid (own_grow HOW_18.out hbn)
        clear KT_13 K0_14 K1_15 K2_16 HB_17 HOW_18 hbn
        go_wp2
        rw [← HRES.out]
        unfold waitP
        rw [if_pos HR.out, HF.out]; dsimp only; rw [if_neg HP.out]
        exact ⟨rfl, TchP.of_below HB_23.out, rfl, fun b hb => by cases hb; exact K2_22.out⟩
end Go.Proofs.YtmnbkhmphhgdiaaDoor
