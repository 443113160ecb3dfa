/- Lists linked both ways: DoubleForward, the walk (printed by gen_dblforward.py). -/
import Derived.Test.YtoihjmdpbbcbjaaDblFwdC
namespace Go.Proofs.Ytoihjmdpbbcbjaa
open Go.RowKit
open Go.Proofs
set_option linter.unusedVariables false
attribute [local go_sem] Oper.semAt_some

theorem take48_wokF {M : Mem} (h : Wok M) : Wok (take48 M) := fun x hx => h x (List.mem_of_mem_take hx)
theorem take48_lenF (M : Mem) : (take48 M).L.length ≤ 48 := by unfold take48; simp; omega
theorem dstepP_ok {M : Mem} {s : Ed} (h : okM M = true) (h0 : 0 ≤ s.ph) (h1 : s.ph ≤ 10) : dstepP M s = ((stepE M s).1, (stepE M s).2, 0) := by
  unfold dstepP
  rw [h, if_neg (by decide), if_neg (by omega)]
theorem nodesN_twF {M : Mem} {head : Nat} (hW : Wok M) : ∀ t ∈ (lookN M head).1, t.1 < 18446744073709551616 ∧ t.2.1 < 18446744073709551616 ∧ t.2.2 < 18446744073709551616 := by
  have hw : ∀ p k, wAt M p k < 18446744073709551616 := fun p k => by
    unfold wAt
    rw [List.getD_eq_getElem?_getD]
    cases hq : M.W[posN p k]? with
    | none => simp
    | some x => exact hW x (List.mem_of_getElem? hq)
  have hl : ∀ (xs : List Tw) (a : Nat), lnk M.W a xs → ∀ t ∈ xs, t.1 < 18446744073709551616 ∧ t.2.1 < 18446744073709551616 ∧ t.2.2 < 18446744073709551616 := by
    have hr : ∀ i, rdW M.W i < 18446744073709551616 := fun i => by
      unfold rdW
      rw [List.getD_eq_getElem?_getD]
      cases hq : M.W[i]? with
      | none => simp
      | some x => exact hW x (List.mem_of_getElem? hq)
    intro xs
    induction xs with
    | nil => intro a h t ht; cases ht
    | cons x xs ih =>
      intro a h t ht
      obtain ⟨q1, q2, q3, q4, q5⟩ := h
      rcases List.mem_cons.1 ht with rfl | ht'
      · exact ⟨by rw [← q1]; exact hr _, by rw [← q3]; exact hr _, by rw [← q4]; exact hr _⟩
      · exact ih _ q5 t ht'
  unfold lookN
  split
  · intro t ht; cases ht
  · cases hn : nodesN M head with
    | none => intro t ht; cases ht
    | some r => exact hl r.1 _ (chain_of (xs := r.1) (met := r.2) hn).1.fw
/-- Between two rounds. -/
structure Fdr (V : World) (Xm Mb B11 Bs : Nat) (wa la : Option Addr) (wc lc : Nat) (M : Mem) (wak : Option Addr) (wck : Nat) (lak : Option Addr) (lck : Nat) (R : Mem × Ed) (vw vi va : Value) (was is : List Nat) (aft : List Tw) (W : World) : Prop where
  bx : W.heap[Xm]? = some (.cells #[.slice wa M.W.length wc, .slice la M.L.length lc, .bool M.F] 25 (0, 0))
  bm : W.heap[Mb]? = some (.cells #[.slice wak R.1.W.length wck, .slice lak R.1.L.length lck, .bool R.1.F] 25 (0, 0))
  bs : W.heap[B11]? = some (.cells (ed8 R.2) 42 (0, 0))
  mem : MemO V.heap.size wak wck lak lck R.1 W
  below : Below V.heap.size V W
  rw_ : W.ownsRow Bs 26 1 vw was.length (wcells was)
  ri : W.ownsRow Bs 26 1 vi is.length (wcells is)
  ra : W.ownsRow Bs 28 3 va aft.length (twcells aft)
theorem Fdr.grow {V W W' : World} {Xm Mb B11 Bs : Nat} {wa la : Option Addr} {wc lc : Nat} {M : Mem} {wak : Option Addr} {wck : Nat} {lak : Option Addr} {lck : Nat} {R : Mem × Ed} {vw vi va : Value} {was is : List Nat} {aft : List Tw} (h : Fdr V Xm Mb B11 Bs wa la wc lc M wak wck lak lck R vw vi va was is aft W) (hb : Below W.heap.size W W') : Fdr V Xm Mb B11 Bs wa la wc lc M wak wck lak lck R vw vi va was is aft W' :=
  ⟨keep_laid h.bx hb, keep_laid h.bm hb, keep_laid h.bs hb, h.mem.grow hb, h.below.trans (hb.mono h.below.size), own_grow h.rw_ hb, own_grow h.ri hb, own_grow h.ra hb⟩
/-- The memory, and who changes, are written anew. -/
theorem Fdr.put {V W W' : World} {Xm Mb B11 Bs : Nat} {wa la : Option Addr} {wc lc : Nat} {M : Mem} {wak : Option Addr} {wck : Nat} {lak : Option Addr} {lck : Nat} {R : Mem × Ed} {vw vi va : Value} {was is : List Nat} {aft : List Tw} {wan : Option Addr} {wcn : Nat} {lan : Option Addr} {lcn : Nat} {R' : Mem × Ed} (h : Fdr V Xm Mb B11 Bs wa la wc lc M wak wck lak lck R vw vi va was is aft W) (hk : ∀ (k : Nat) (o : Obj), k ≠ Mb → k ≠ B11 → W.heap[k]? = some o → W'.heap[k]? = some o) (hb : Below V.heap.size V W')
    (h1 : Xm < Mb) (h2 : Mb < B11) (h3 : B11 < Bs) (hm : W'.heap[Mb]? = some (.cells #[.slice wan R'.1.W.length wcn, .slice lan R'.1.L.length lcn, .bool R'.1.F] 25 (0, 0))) (hs : W'.heap[B11]? = some (.cells (ed8 R'.2) 42 (0, 0))) (ho : MemO V.heap.size wan wcn lan lcn R'.1 W') : Fdr V Xm Mb B11 Bs wa la wc lc M wan wcn lan lcn R' vw vi va was is aft W' :=
  ⟨hk _ _ (by omega) (by omega) h.bx, hm, hs, ho, hb, own_keep h.rw_ fun k o e ho => hk k o (by have := (h.rw_.lt k e).1; omega) (by have := (h.rw_.lt k e).1; omega) ho, own_keep h.ri fun k o e ho => hk k o (by have := (h.ri.lt k e).1; omega) (by have := (h.ri.lt k e).1; omega) ho, own_keep h.ra fun k o e ho => hk k o (by have := (h.ra.lt k e).1; omega) (by have := (h.ra.lt k e).1; omega) ho⟩

set_option maxRecDepth 100000 in
set_option maxHeartbeats 16000000 in
theorem forward_walk (M : Mem) (head : Nat) (v : Mv) (wa la : Option Addr) (wc0M lc : Nat) (V : World) (h : MemL V wa wc0M la lc M) (hW : Wok M) (hh : head < 18446744073709551616) (hv : v.Ok) :
    Calls Try.prog 6 #[memV wa wc0M la lc M, .int .u64 ((head : Nat) : Int), mvV v] V (Ret (.bool true) V) := by
  obtain ⟨cuts, prev, p, q, r⟩ := v
  obtain ⟨V1, hV1, hb1, hs1, hl1⟩ := laid V #[.slice wa M.W.length wc0M, .slice la M.L.length lc, .bool M.F] 25
  obtain ⟨V2, hV2, hb2, hs2, hl2⟩ := laid V1 #[.bool cuts, .int .u64 ((prev : Nat) : Int), .int .u64 ((p : Nat) : Int), .int .u64 ((q : Nat) : Int), .int .u64 ((r : Nat) : Int)] 49
  obtain ⟨Xm, hXm⟩ : ∃ X, V.heap.size = X := ⟨_, rfl⟩
  obtain ⟨Y, hY⟩ : ∃ X, V1.heap.size = X := ⟨_, rfl⟩
  rw [hXm] at hl1
  rw [hY] at hl2
  have hVX : V.heap.size ≤ Xm := by omega
  have hXY : Xm < Y := by omega
  have HWK := hid (take48_wokF hW)
  have HL48 := hid (take48_lenF M)
  have HVO := hid hv
  have HH := hid hh
  have HFF : Hid ((take48 M).F = M.F) := hid rfl
  have hwl := h.w.len
  have hll := h.l.len
  have HOWN : Hid (∀ W : World, Below V.heap.size V W → Calls Try.prog 8 #[.agg #[.slice wa M.W.length wc0M, .slice la M.L.length lc, .bool M.F]] W (GivesM (take48 M) W)) := hid (fun W hb => lawown_any M wa la wc0M lc W (h.grow hb))
  obtain ⟨Mk, hMk⟩ : ∃ Mk, take48 M = Mk := ⟨_, rfl⟩
  rw [hMk] at HOWN HWK HL48 HFF
  unfold memV mvV
  have HX_1 := hid (keep_laid hl1 hb2)
  have HY_2 := hid (hl2)
  have HB_3 := hid (step hb1 hb2)
  dsimp only
  clear h hW hh hv hb1 hb2 hs1 hs2 hl1 hl2 hMk
  go_enter Try.func6, Try.ntmps6
  go_wp2_with fail
  refine (wakes_any V2).mono ?_
  rintro e V3 ⟨rfl, hbn⟩
  have HX_4 := hid (keep_laid HX_1.out hbn)
  have HY_5 := hid (keep_laid HY_2.out hbn)
  have HB_6 := hid (HB_3.out.trans (hbn.mono HB_3.out.size))
  clear HX_1 HY_2 HB_3 hbn
  obtain ⟨x0, x1, x2⟩ := cells3 HX_4.out
  go_wp2_with fail
  refine (HOWN.out V3 HB_6.out).mono ?_
  rintro e V4 ⟨wa0, wc0, la0, lc0, rfl, hO, hbn⟩
  have hV3s := HB_6.out.size
  have HX_7 := hid (keep_laid HX_4.out hbn)
  have HY_8 := hid (keep_laid HY_5.out hbn)
  have HB_9 := hid (HB_6.out.trans (hbn.mono HB_6.out.size))
  clear HX_4 HY_5 HB_6 hbn x0 x1 x2 HOWN
  obtain ⟨V5, hV5, hbn, hs5, hl5⟩ := laid V4 #[.slice none 0 0, .slice none 0 0, .bool false] 25
  obtain ⟨Mb, hMb⟩ : ∃ X, V4.heap.size = X := ⟨_, rfl⟩
  rw [hMb] at hl5
  have hYM : Y < Mb := by have := lt_laid HY_8.out; omega
  have hO5 := (hO.base hV3s).grow hbn
  have HX_10 := hid (keep_laid HX_7.out hbn)
  have HY_11 := hid (keep_laid HY_8.out hbn)
  have HB_12 := hid (HB_9.out.trans (hbn.mono HB_9.out.size))
  clear HX_7 HY_8 HB_9 hbn hs5
  obtain ⟨V6, hV6, a1, a2, a3, a4⟩ := put_mem hl5 (.slice wa0 Mk.W.length wc0) (.slice la0 Mk.L.length lc0) (.bool Mk.F)
  have z0 := cell_laid (i := 0) hl5 rfl
  have zf0 := free_laid (i := 0) hl5
  have z1 := cell_laid (i := 1) hl5 rfl
  have zf1 := free_laid (i := 1) hl5
  have z2 := cell_laid (i := 2) hl5 rfl
  have zf2 := free_laid (i := 2) hl5
  have HX_13 := hid (a2 _ _ (by omega) HX_10.out)
  have HY_14 := hid (a2 _ _ (by omega) HY_11.out)
  have HB_15 := hid (a3 _ _ (by omega) HB_12.out)
  have HM_16 := hid (a1)
  have HO_17 := hid (a4 _ _ _ _ _ _ hO5)
  have HV6 := hid hV6
  clear hl5 hO hO5 hV6 a1 a2 a3 a4 HX_10 HY_11 HB_12
  rw [show memV wa0 wc0 la0 lc0 Mk = .agg #[.slice wa0 Mk.W.length wc0, .slice la0 Mk.L.length lc0, .bool Mk.F] from rfl]
  go_upto_region 4 with (fail)
  rw [← HV6.out]
  clear z0 zf0 z1 zf1 z2 zf2 HV6
  have hwlk := HO_17.out.memL.w.len
  have hllk := HO_17.out.memL.l.len
  obtain ⟨m0, m1, m2⟩ := cells3 HM_16.out
  have HNO := hid (Nodes_any Mk wa0 la0 wc0 lc0 head V6 HO_17.out.memL HH.out HWK.out)
  obtain ⟨⟨xs, code⟩, hLK⟩ : ∃ R, lookN Mk head = R := ⟨_, rfl⟩
  have HLN := hid (lookN_len Mk head)
  rw [hLK] at HNO HLN
  have HLK := hid hLK
  unfold GivesL memV at HNO
  dsimp only at HNO
  clear hLK
  go_wp2_with fail
  refine HNO.out.mono ?_
  rintro e w1 ⟨vl, rfl, hro, hbn⟩
  have HX_18 := hid (keep_laid HX_13.out hbn)
  have HY_19 := hid (keep_laid HY_14.out hbn)
  have HB_20 := hid (HB_15.out.trans (hbn.mono HB_15.out.size))
  have HM_21 := hid (keep_laid HM_16.out hbn)
  have HO_22 := hid (HO_17.out.grow hbn)
  clear HX_13 HY_14 HB_15 HM_16 HO_17 hbn m0 m1 m2 HNO
  obtain ⟨vla, vlc, rfl, hlv⟩ := Leads.of_own hro
  have hlvl := hlv.len
  obtain ⟨q1, hq1⟩ : ∃ q, xs.length = q := ⟨_, rfl⟩
  rw [hq1] at hro hlvl ⊢
  have HQ1 := hid hq1
  have hq15 : q1 ≤ 1100 := by have := HLN.out; omega
  have HLV_23 := hid (hro)
  clear hq1 hro HLN hlv
  by_cases hc : code ≠ 0
  · have tc : (((code : Nat) : Int) != 0) = true := by simp; omega
    clear hc
    go_wp2
    go_ret
    exact ⟨rfl, HB_20.out⟩
  obtain rfl : code = 0 := by omega
  clear hc
  have tc : (((0 : Nat) : Int) != 0) = false := by simp
  have HPUT : Hid (∀ W, Calls Try.prog 14 #[.int .u64 ((head : Nat) : Int), .int .u64 ((prev : Nat) : Int), .agg #[.int .u64 ((p : Nat) : Int), .int .u64 ((q : Nat) : Int), .int .u64 ((r : Nat) : Int)]] W (Ret (.agg #[.int .i64 0, .bool false, .int .u64 ((head : Nat) : Int), .int .u64 ((p : Nat) : Int), .int .u64 ((q : Nat) : Int), .int .u64 ((r : Nat) : Int), .int .u64 ((prev : Nat) : Int), .int .u64 0]) W)) := hid (fun W => Put_any head prev (p, q, r) W)
  have y0 := cell_laid (i := 0) HY_19.out rfl
  have y1 := cell_laid (i := 1) HY_19.out rfl
  have y2 := cell_laid (i := 2) HY_19.out rfl
  have y3 := cell_laid (i := 3) HY_19.out rfl
  have y4 := cell_laid (i := 4) HY_19.out rfl
  go_wp2_with fail
  refine (HPUT.out w1).mono ?_
  rintro e w2 ⟨rfl, hbn⟩
  have HX_24 := hid (keep_laid HX_18.out hbn)
  have HY_25 := hid (keep_laid HY_19.out hbn)
  have HB_26 := hid (HB_20.out.trans (hbn.mono HB_20.out.size))
  have HM_27 := hid (keep_laid HM_21.out hbn)
  have HO_28 := hid (HO_22.out.grow hbn)
  have HLV_29 := hid (own_grow HLV_23.out hbn)
  clear HX_18 HY_19 HB_20 HM_21 HO_22 HLV_23 hbn y0 y1 y2 y3 y4 HPUT tc
  obtain ⟨w3, hw3, hbn, hs3, hl3⟩ := laid w2 #[.int .i64 0, .bool false, .int .u64 0, .int .u64 0, .int .u64 0, .int .u64 0, .int .u64 0, .int .u64 0] 42
  obtain ⟨B11, hB11⟩ : ∃ X, w2.heap.size = X := ⟨_, rfl⟩
  rw [hB11] at hl3
  have hM11 : Mb < B11 := by have := lt_laid HM_27.out; omega
  have HX_30 := hid (keep_laid HX_24.out hbn)
  have HY_31 := hid (keep_laid HY_25.out hbn)
  have HB_32 := hid (HB_26.out.trans (hbn.mono HB_26.out.size))
  have HM_33 := hid (keep_laid HM_27.out hbn)
  have HO_34 := hid (HO_28.out.grow hbn)
  have HLV_35 := hid (own_grow HLV_29.out hbn)
  clear HX_24 HY_25 HB_26 HM_27 HO_28 HLV_29 hbn hs3
  obtain ⟨w4, hw4, a1, a2, a3⟩ := put8 hl3 (.int .i64 0) (.bool false) (.int .u64 ((head : Nat) : Int)) (.int .u64 ((p : Nat) : Int)) (.int .u64 ((q : Nat) : Int)) (.int .u64 ((r : Nat) : Int)) (.int .u64 ((prev : Nat) : Int)) (.int .u64 0)
  have z0 := cell_laid (i := 0) hl3 rfl
  have zf0 := free_laid (i := 0) hl3
  have z1 := cell_laid (i := 1) hl3 rfl
  have zf1 := free_laid (i := 1) hl3
  have z2 := cell_laid (i := 2) hl3 rfl
  have zf2 := free_laid (i := 2) hl3
  have z3 := cell_laid (i := 3) hl3 rfl
  have zf3 := free_laid (i := 3) hl3
  have z4 := cell_laid (i := 4) hl3 rfl
  have zf4 := free_laid (i := 4) hl3
  have z5 := cell_laid (i := 5) hl3 rfl
  have zf5 := free_laid (i := 5) hl3
  have z6 := cell_laid (i := 6) hl3 rfl
  have zf6 := free_laid (i := 6) hl3
  have z7 := cell_laid (i := 7) hl3 rfl
  have zf7 := free_laid (i := 7) hl3
  have HX_36 := hid (a2 _ _ (by omega) HX_30.out)
  have HY_37 := hid (a2 _ _ (by omega) HY_31.out)
  have HB_38 := hid (a3 _ _ (by omega) HB_32.out)
  have HM_39 := hid (a2 _ _ (by omega) HM_33.out)
  have HO_40 := hid (HO_34.out.keep hl3 (by decide) (by decide) a2)
  have HLV_41 := hid (own_keep HLV_35.out fun k o e ho => a2 k o (fun ek => own_ne HLV_35.out hl3 (by decide) (by rw [e, ek])) ho)
  have HS_42 := hid (a1)
  have HW4 := hid hw4
  clear hl3 hw4 a1 a2 a3 HX_30 HY_31 HB_32 HM_33 HO_34 HLV_35
  go_upto_region 9 with (fail)
  rw [← HW4.out]
  clear z0 z1 z2 z3 z4 z5 z6 z7 zf0 zf1 zf2 zf3 zf4 zf5 zf6 zf7 HW4
  have p0 := cell_laid (i := 0) HY_37.out rfl
  go_upto_if 45 with (fail)
  clear p0
  go_cut [10] (fun t10 W => ∃ (va : Option Addr) (vc : Nat) (xs' : List Tw) (s0 : Ed), t10 = .slice va xs'.length vc ∧ Hid (W.heap[Xm]? = some (.cells #[.slice wa M.W.length wc0M, .slice la M.L.length lc, .bool M.F] 25 (0, 0)) ∧ W.heap[Mb]? = some (.cells #[.slice wa0 Mk.W.length wc0, .slice la0 Mk.L.length lc0, .bool Mk.F] 25 (0, 0)) ∧ MemO V.heap.size wa0 wc0 la0 lc0 Mk W ∧ Below V.heap.size V W ∧ W.heap[B11]? = some (.cells (ed8 s0) 42 (0, 0)) ∧ W.ownsRow V6.heap.size 28 3 (.slice vla q1 vlc) q1 (twcells xs) ∧ W.ownsRow (B11 + 1) 28 3 (.slice va xs'.length vc) xs'.length (twcells xs') ∧ FwdL Mk head s0 (xs.map (·.1)) (xs'.map (·.1)) ∧ lookN (itE 9 Mk s0).1 head = (xs', 0) ∧ s0.Ok ∧ 0 ≤ s0.ph ∧ s0.ph ≤ 10 ∧ okM Mk = true))
  case first =>
    cases cuts with
    | true =>
      obtain ⟨⟨Mn, st, cd⟩, hR⟩ : ∃ R, remP Mk head p = R := ⟨_, rfl⟩
      obtain ⟨m0, m1, m2⟩ := cells3 HM_39.out
      have y0 := cell_laid (i := 0) HY_37.out rfl
      have y1 := cell_laid (i := 1) HY_37.out rfl
      have y2 := cell_laid (i := 2) HY_37.out rfl
      have y3 := cell_laid (i := 3) HY_37.out rfl
      have y4 := cell_laid (i := 4) HY_37.out rfl
      have HCA := hid (Remove_any Mk wa0 la0 wc0 lc0 head p w4 HO_40.out.memL HH.out HVO.out.node.1 HWK.out)
      rw [hR] at HCA
      have HR := hid hR
      unfold GivesI memV at HCA
      dsimp only at HCA
      clear hR
      go_wp2_with fail
      refine HCA.out.mono ?_
      rintro e w5 ⟨wan, wcn, lan, lcn, rfl, hO, hbn⟩
      have hw4s := HB_38.out.size
      have HX_43 := hid (keep_laid HX_36.out hbn)
      have HY_44 := hid (keep_laid HY_37.out hbn)
      have HB_45 := hid (HB_38.out.trans (hbn.mono HB_38.out.size))
      have HM_46 := hid (keep_laid HM_39.out hbn)
      have HO_47 := hid (HO_40.out.grow hbn)
      have HLV_48 := hid (own_grow HLV_41.out hbn)
      have HS_49 := hid (keep_laid HS_42.out hbn)
      clear HX_36 HY_37 HB_38 HM_39 HO_40 HLV_41 HS_42 hbn m0 m1 m2 y0 y1 y2 y3 y4 HCA
      have HN_50 := hid (hO.base hw4s)
      obtain ⟨w6, hw6, hbn, hsn, hl6⟩ := laid w5 #[.slice none 0 0, .slice none 0 0, .bool false] 25
      obtain ⟨B12, hB12⟩ : ∃ X, w5.heap.size = X := ⟨_, rfl⟩
      rw [hB12] at hl6
      have h1112 : B11 < B12 := by have := lt_laid HS_49.out; omega
      have HX_51 := hid (keep_laid HX_43.out hbn)
      have HY_52 := hid (keep_laid HY_44.out hbn)
      have HB_53 := hid (HB_45.out.trans (hbn.mono HB_45.out.size))
      have HM_54 := hid (keep_laid HM_46.out hbn)
      have HO_55 := hid (HO_47.out.grow hbn)
      have HLV_56 := hid (own_grow HLV_48.out hbn)
      have HS_57 := hid (keep_laid HS_49.out hbn)
      have HN_58 := hid (HN_50.out.grow hbn)
      clear HX_43 HY_44 HB_45 HM_46 HO_47 HLV_48 HS_49 HN_50 hbn hsn hO
      have HZ_59 := hid (hl6)
      obtain ⟨w7, hw7, a1, a2, a3, a4⟩ := put_mem HZ_59.out (.slice wan Mn.W.length wcn) (.slice lan Mn.L.length lcn) (.bool Mn.F)
      have z0 := cell_laid (i := 0) HZ_59.out rfl
      have zf0 := free_laid (i := 0) HZ_59.out
      have z1 := cell_laid (i := 1) HZ_59.out rfl
      have zf1 := free_laid (i := 1) HZ_59.out
      have z2 := cell_laid (i := 2) HZ_59.out rfl
      have zf2 := free_laid (i := 2) HZ_59.out
      have HX_60 := hid (a2 _ _ (by omega) HX_51.out)
      have HY_61 := hid (a2 _ _ (by omega) HY_52.out)
      have HB_62 := hid (a3 _ _ (by omega) HB_53.out)
      have HM_63 := hid (a2 _ _ (by omega) HM_54.out)
      have HO_64 := hid (a4 _ _ _ _ _ _ HO_55.out)
      have HLV_65 := hid (own_keep HLV_56.out fun k o e ho => a2 k o (fun ek => own_ne HLV_56.out HZ_59.out (by decide) (by rw [e, ek])) ho)
      have HS_66 := hid (a2 _ _ (by omega) HS_57.out)
      have HN_67 := hid (a4 _ _ _ _ _ _ HN_58.out)
      have HZ_68 := hid (a1)
      clear HX_51 HY_52 HB_53 HM_54 HO_55 HLV_56 HS_57 HN_58
      have HW7 := hid hw7
      clear hw7 a1 a2 a3 a4 hl6
      go_upto_region 11 with (fail)
      rw [← HW7.out]
      clear z0 z1 z2 zf0 zf1 zf2 HW7 HZ_59
      by_cases hc : cd ≠ 0
      · have tc : (((cd : Nat) : Int) != 0) = true := by simp; omega
        clear hc
        go_wp2
        go_ret
        exact ⟨rfl, HB_62.out⟩
      obtain rfl : cd = 0 := by omega
      clear hc
      have tc : (((0 : Nat) : Int) != 0) = false := by simp
      obtain ⟨hok, e1, xs', hlk', hfl⟩ := rem_law HWK.out HL48.out HH.out HVO.out.node.1 HLK.out (by rw [HR.out])
      rw [HR.out] at e1
      dsimp only at e1
      have HWN : Hid (Wok Mn) := hid (by rw [e1]; exact (itE_ok hok HWK.out (cutE_ok HH.out HVO.out.node.1) (show (0 : Int) ≤ 5 by decide) (show (5 : Int) ≤ 10 by decide) 9).2.1)
      have HLK' : Hid (lookN Mn head = (xs', 0)) := hid (by rw [e1]; exact hlk')
      have HLKS := hid hlk'
      have HFL := hid hfl
      have HOK := hid hok
      clear hok e1 hlk' hfl HR
      have HCUT : Hid (∀ W, Calls Try.prog 15 #[.int .u64 ((head : Nat) : Int), .int .u64 ((p : Nat) : Int)] W (Ret (.agg #[.int .i64 5, .bool true, .int .u64 ((head : Nat) : Int), .int .u64 ((p : Nat) : Int), .int .u64 0, .int .u64 0, .int .u64 0, .int .u64 0]) W)) := hid (fun W => Cut_any head p W)
      have y0 := cell_laid (i := 0) HY_61.out rfl
      have y1 := cell_laid (i := 1) HY_61.out rfl
      have y2 := cell_laid (i := 2) HY_61.out rfl
      have y3 := cell_laid (i := 3) HY_61.out rfl
      have y4 := cell_laid (i := 4) HY_61.out rfl
      go_wp2_with fail
      refine (HCUT.out w7).mono ?_
      rintro e w8 ⟨rfl, hbn⟩
      have HX_69 := hid (keep_laid HX_60.out hbn)
      have HY_70 := hid (keep_laid HY_61.out hbn)
      have HB_71 := hid (HB_62.out.trans (hbn.mono HB_62.out.size))
      have HM_72 := hid (keep_laid HM_63.out hbn)
      have HO_73 := hid (HO_64.out.grow hbn)
      have HLV_74 := hid (own_grow HLV_65.out hbn)
      have HS_75 := hid (keep_laid HS_66.out hbn)
      have HN_76 := hid (HN_67.out.grow hbn)
      have HZ_77 := hid (keep_laid HZ_68.out hbn)
      clear HX_60 HY_61 HB_62 HM_63 HO_64 HLV_65 HS_66 HN_67 HZ_68 hbn y0 y1 y2 y3 y4 HCUT tc
      obtain ⟨w9, hw9, a1, a2, a3⟩ := put8 HS_75.out (.int .i64 5) (.bool true) (.int .u64 ((head : Nat) : Int)) (.int .u64 ((p : Nat) : Int)) (.int .u64 0) (.int .u64 0) (.int .u64 0) (.int .u64 0)
      have z0 := cell_laid (i := 0) HS_75.out rfl
      have zf0 := free_laid (i := 0) HS_75.out
      have z1 := cell_laid (i := 1) HS_75.out rfl
      have zf1 := free_laid (i := 1) HS_75.out
      have z2 := cell_laid (i := 2) HS_75.out rfl
      have zf2 := free_laid (i := 2) HS_75.out
      have z3 := cell_laid (i := 3) HS_75.out rfl
      have zf3 := free_laid (i := 3) HS_75.out
      have z4 := cell_laid (i := 4) HS_75.out rfl
      have zf4 := free_laid (i := 4) HS_75.out
      have z5 := cell_laid (i := 5) HS_75.out rfl
      have zf5 := free_laid (i := 5) HS_75.out
      have z6 := cell_laid (i := 6) HS_75.out rfl
      have zf6 := free_laid (i := 6) HS_75.out
      have z7 := cell_laid (i := 7) HS_75.out rfl
      have zf7 := free_laid (i := 7) HS_75.out
      have HX_78 := hid (a2 _ _ (by omega) HX_69.out)
      have HY_79 := hid (a2 _ _ (by omega) HY_70.out)
      have HB_80 := hid (a3 _ _ (by omega) HB_71.out)
      have HM_81 := hid (a2 _ _ (by omega) HM_72.out)
      have HO_82 := hid (HO_73.out.keep HS_75.out (by decide) (by decide) a2)
      have HLV_83 := hid (own_keep HLV_74.out fun k o e ho => a2 k o (fun ek => own_ne HLV_74.out HS_75.out (by decide) (by rw [e, ek])) ho)
      have HS_84 := hid (a1)
      have HN_85 := hid (HN_76.out.keep HS_75.out (by decide) (by decide) a2)
      have HZ_86 := hid (a2 _ _ (by omega) HZ_77.out)
      clear HX_69 HY_70 HB_71 HM_72 HO_73 HLV_74 HN_76 HZ_77
      have HW9 := hid hw9
      clear hw9 a1 a2 a3
      go_upto_region 14 with (fail)
      rw [← HW9.out]
      clear z0 z1 z2 z3 z4 z5 z6 z7 zf0 zf1 zf2 zf3 zf4 zf5 zf6 zf7 HW9 HS_75
      have HNN := hid (Nodes_any Mn wan lan wcn lcn head w9 HN_85.out.memL HH.out HWN.out)
      rw [HLK'.out] at HNN
      unfold GivesL memV at HNN
      dsimp only at HNN
      have hwn := HN_85.out.memL.w.len
      have hln := HN_85.out.memL.l.len
      obtain ⟨n0, n1, n2⟩ := cells3 HZ_86.out
      go_wp2_with fail
      refine HNN.out.mono ?_
      rintro e w10 ⟨vx, rfl, hro, hbn⟩
      have hs9 := lt_laid HS_84.out
      obtain ⟨va, vc, rfl, hlx⟩ := Leads.of_own hro
      have hxl := hlx.len
      have HX_87 := hid (keep_laid HX_78.out hbn)
      have HY_88 := hid (keep_laid HY_79.out hbn)
      have HB_89 := hid (HB_80.out.trans (hbn.mono HB_80.out.size))
      have HM_90 := hid (keep_laid HM_81.out hbn)
      have HO_91 := hid (HO_82.out.grow hbn)
      have HLV_92 := hid (own_grow HLV_83.out hbn)
      have HS_93 := hid (keep_laid HS_84.out hbn)
      have HN_94 := hid (HN_85.out.grow hbn)
      have HZ_95 := hid (keep_laid HZ_86.out hbn)
      clear HX_78 HY_79 HB_80 HM_81 HO_82 HLV_83 HS_84 HN_85 HZ_86 hbn n0 n1 n2 HNN
      have HRA_96 := hid (own_base hro hs9)
      clear hro hlx
      go_wp2
      go_meet
      exact ⟨va, vc, xs', (cutE head p), rfl, hid ⟨HX_87.out, HM_90.out, HO_91.out, HB_89.out, HS_93.out, HLV_92.out, HRA_96.out, HFL.out, HLKS.out, cutE_ok HH.out HVO.out.node.1, (show (0 : Int) ≤ 5 by decide), (show (5 : Int) ≤ 10 by decide), HOK.out⟩⟩
    | false =>
      obtain ⟨⟨Mn, st, cd⟩, hR⟩ : ∃ R, insP Mk head prev (p, q, r) = R := ⟨_, rfl⟩
      obtain ⟨m0, m1, m2⟩ := cells3 HM_39.out
      have y0 := cell_laid (i := 0) HY_37.out rfl
      have y1 := cell_laid (i := 1) HY_37.out rfl
      have y2 := cell_laid (i := 2) HY_37.out rfl
      have y3 := cell_laid (i := 3) HY_37.out rfl
      have y4 := cell_laid (i := 4) HY_37.out rfl
      have HCA := hid (Insert_any Mk wa0 la0 wc0 lc0 head prev (p, q, r) w4 HO_40.out.memL HH.out HVO.out.prev HVO.out.node HWK.out)
      rw [hR] at HCA
      have HR := hid hR
      unfold GivesI memV twV at HCA
      dsimp only at HCA
      clear hR
      go_wp2_with fail
      refine HCA.out.mono ?_
      rintro e w5 ⟨wan, wcn, lan, lcn, rfl, hO, hbn⟩
      have hw4s := HB_38.out.size
      have HX_43 := hid (keep_laid HX_36.out hbn)
      have HY_44 := hid (keep_laid HY_37.out hbn)
      have HB_45 := hid (HB_38.out.trans (hbn.mono HB_38.out.size))
      have HM_46 := hid (keep_laid HM_39.out hbn)
      have HO_47 := hid (HO_40.out.grow hbn)
      have HLV_48 := hid (own_grow HLV_41.out hbn)
      have HS_49 := hid (keep_laid HS_42.out hbn)
      clear HX_36 HY_37 HB_38 HM_39 HO_40 HLV_41 HS_42 hbn m0 m1 m2 y0 y1 y2 y3 y4 HCA
      have HN_50 := hid (hO.base hw4s)
      obtain ⟨w6, hw6, hbn, hsn, hl6⟩ := laid w5 #[.slice none 0 0, .slice none 0 0, .bool false] 25
      obtain ⟨B12, hB12⟩ : ∃ X, w5.heap.size = X := ⟨_, rfl⟩
      rw [hB12] at hl6
      have h1112 : B11 < B12 := by have := lt_laid HS_49.out; omega
      have HX_51 := hid (keep_laid HX_43.out hbn)
      have HY_52 := hid (keep_laid HY_44.out hbn)
      have HB_53 := hid (HB_45.out.trans (hbn.mono HB_45.out.size))
      have HM_54 := hid (keep_laid HM_46.out hbn)
      have HO_55 := hid (HO_47.out.grow hbn)
      have HLV_56 := hid (own_grow HLV_48.out hbn)
      have HS_57 := hid (keep_laid HS_49.out hbn)
      have HN_58 := hid (HN_50.out.grow hbn)
      clear HX_43 HY_44 HB_45 HM_46 HO_47 HLV_48 HS_49 HN_50 hbn hsn hO
      have HZ_59 := hid (hl6)
      obtain ⟨w7, hw7, a1, a2, a3, a4⟩ := put_mem HZ_59.out (.slice wan Mn.W.length wcn) (.slice lan Mn.L.length lcn) (.bool Mn.F)
      have z0 := cell_laid (i := 0) HZ_59.out rfl
      have zf0 := free_laid (i := 0) HZ_59.out
      have z1 := cell_laid (i := 1) HZ_59.out rfl
      have zf1 := free_laid (i := 1) HZ_59.out
      have z2 := cell_laid (i := 2) HZ_59.out rfl
      have zf2 := free_laid (i := 2) HZ_59.out
      have HX_60 := hid (a2 _ _ (by omega) HX_51.out)
      have HY_61 := hid (a2 _ _ (by omega) HY_52.out)
      have HB_62 := hid (a3 _ _ (by omega) HB_53.out)
      have HM_63 := hid (a2 _ _ (by omega) HM_54.out)
      have HO_64 := hid (a4 _ _ _ _ _ _ HO_55.out)
      have HLV_65 := hid (own_keep HLV_56.out fun k o e ho => a2 k o (fun ek => own_ne HLV_56.out HZ_59.out (by decide) (by rw [e, ek])) ho)
      have HS_66 := hid (a2 _ _ (by omega) HS_57.out)
      have HN_67 := hid (a4 _ _ _ _ _ _ HN_58.out)
      have HZ_68 := hid (a1)
      clear HX_51 HY_52 HB_53 HM_54 HO_55 HLV_56 HS_57 HN_58
      have HW7 := hid hw7
      clear hw7 a1 a2 a3 a4 hl6
      go_upto_region 16 with (fail)
      rw [← HW7.out]
      clear z0 z1 z2 zf0 zf1 zf2 HW7 HZ_59
      by_cases hc : cd ≠ 0
      · have tc : (((cd : Nat) : Int) != 0) = true := by simp; omega
        clear hc
        go_wp2
        go_ret
        exact ⟨rfl, HB_62.out⟩
      obtain rfl : cd = 0 := by omega
      clear hc
      have tc : (((0 : Nat) : Int) != 0) = false := by simp
      obtain ⟨hok, e1, xs', hlk', hfl⟩ := ins_law HWK.out HL48.out HH.out HVO.out.prev HVO.out.node HLK.out (by rw [HR.out])
      rw [HR.out] at e1
      dsimp only at e1
      have HWN : Hid (Wok Mn) := hid (by rw [e1]; exact (itE_ok hok HWK.out (putE_ok HH.out HVO.out.prev HVO.out.node) (show (0 : Int) ≤ 0 by decide) (show (0 : Int) ≤ 10 by decide) 9).2.1)
      have HLK' : Hid (lookN Mn head = (xs', 0)) := hid (by rw [e1]; exact hlk')
      have HLKS := hid hlk'
      have HFL := hid hfl
      have HOK := hid hok
      clear hok e1 hlk' hfl HR
      have HNN := hid (Nodes_any Mn wan lan wcn lcn head w7 HN_67.out.memL HH.out HWN.out)
      rw [HLK'.out] at HNN
      unfold GivesL memV at HNN
      dsimp only at HNN
      have hwn := HN_67.out.memL.w.len
      have hln := HN_67.out.memL.l.len
      obtain ⟨n0, n1, n2⟩ := cells3 HZ_68.out
      go_wp2_with fail
      refine HNN.out.mono ?_
      rintro e w10 ⟨vx, rfl, hro, hbn⟩
      have hs9 := lt_laid HS_66.out
      obtain ⟨va, vc, rfl, hlx⟩ := Leads.of_own hro
      have hxl := hlx.len
      have HX_69 := hid (keep_laid HX_60.out hbn)
      have HY_70 := hid (keep_laid HY_61.out hbn)
      have HB_71 := hid (HB_62.out.trans (hbn.mono HB_62.out.size))
      have HM_72 := hid (keep_laid HM_63.out hbn)
      have HO_73 := hid (HO_64.out.grow hbn)
      have HLV_74 := hid (own_grow HLV_65.out hbn)
      have HS_75 := hid (keep_laid HS_66.out hbn)
      have HN_76 := hid (HN_67.out.grow hbn)
      have HZ_77 := hid (keep_laid HZ_68.out hbn)
      clear HX_60 HY_61 HB_62 HM_63 HO_64 HLV_65 HS_66 HN_67 HZ_68 hbn n0 n1 n2 HNN tc
      have HRA_78 := hid (own_base hro hs9)
      clear hro hlx
      go_wp2
      go_meet
      exact ⟨va, vc, xs', (putE head prev (p, q, r)), rfl, hid ⟨HX_69.out, HM_72.out, HO_73.out, HB_71.out, HS_75.out, HLV_74.out, HRA_78.out, HFL.out, HLKS.out, putE_ok HH.out HVO.out.prev HVO.out.node, (show (0 : Int) ≤ 0 by decide), (show (0 : Int) ≤ 10 by decide), HOK.out⟩⟩
  case rest =>
    clear HX_36 HY_37 HB_38 HM_39 HO_40 HLV_41 HS_42
    obtain ⟨va, vc, xs', s0, rfl, hX, hM, hO, hB, hS, hLV, hRA, hFL, hLK9, hsok, hp0, hp10, hok⟩ := hcut
    obtain ⟨u0, hu0⟩ : ∃ W, W = wc := ⟨_, rfl⟩
    subst hu0
    have HFL := hid hFL
    have HLK9 := hid hLK9
    have HIT := hid (itE_ok hok HWK.out hsok hp0 hp10)
    clear hFL hLK9 hsok hp0 hp10 hok
    have HX_43 := hid (hX)
    have HM_44 := hid (hM)
    have HO_45 := hid (hO)
    have HB_46 := hid (hB)
    have HS_47 := hid (hS)
    have HLV_48 := hid (hLV)
    have HRA_49 := hid (hRA)
    obtain ⟨q2, hq2⟩ : ∃ q, xs'.length = q := ⟨_, rfl⟩
    have hq25 : q2 ≤ 1100 := by have := lookN_len (itE 9 Mk s0).1 head; rw [HLK9.out] at this; dsimp only at this; omega
    have HQ2 := hid hq2
    obtain ⟨_, _, e1, hlv⟩ := Leads.of_own hLV
    cases e1
    obtain ⟨_, _, e2, hlx⟩ := Leads.of_own hRA
    cases e2
    rw [hq2] at hlx ⊢
    have hvl := hlv.len
    have hxl := hlx.len
    have HP1 := hid (places_any xs vla q1 vlc u0 hlv HQ1.out (by omega))
    have HLX := hid hlx
    obtain ⟨was, hwas⟩ : ∃ l, xs.map (·.1) = l := ⟨_, rfl⟩
    obtain ⟨isl, hisl⟩ : ∃ l, xs'.map (·.1) = l := ⟨_, rfl⟩
    obtain ⟨nw, hnw⟩ : ∃ n, was.length = n := ⟨_, rfl⟩
    obtain ⟨ni, hni⟩ : ∃ n, isl.length = n := ⟨_, rfl⟩
    unfold GivesP at HP1
    rw [hwas, hnw] at HP1
    rw [hwas, hisl] at HFL
    have HNW := hid hnw
    have HNI := hid hni
    have HISL := hid hisl
    clear hX hM hO hB hS hLV hRA hlv hlx hq2 hwas hisl hnw hni
    go_wp2_with fail
    refine HP1.out.mono ?_
    rintro e u1 ⟨v1, rfl, hro, hbn⟩
    have hs1 := lt_laid HS_47.out
    obtain ⟨aw, cw, rfl, hlw⟩ := Leads.of_own hro
    have hwl1 := hlw.len
    have HX_50 := hid (keep_laid HX_43.out hbn)
    have HM_51 := hid (keep_laid HM_44.out hbn)
    have HO_52 := hid (HO_45.out.grow hbn)
    have HB_53 := hid (HB_46.out.trans (hbn.mono HB_46.out.size))
    have HS_54 := hid (keep_laid HS_47.out hbn)
    have HLV_55 := hid (own_grow HLV_48.out hbn)
    have HRA_56 := hid (own_grow HRA_49.out hbn)
    clear HX_43 HM_44 HO_45 HB_46 HS_47 HLV_48 HRA_49 hbn HP1
    have HRW_57 := hid (own_base hro hs1)
    have HP2 := hid (places_any xs' va q2 vc u1 (by have := Leads.of_own HRA_56.out; obtain ⟨_, _, e, h⟩ := this; cases e; rw [HQ2.out] at h; exact h) HQ2.out (by omega))
    clear hro hlw HLX
    unfold GivesP at HP2
    rw [HISL.out, HNI.out] at HP2
    go_wp2_with fail
    refine HP2.out.mono ?_
    rintro e u2 ⟨v2, rfl, hro, hbn⟩
    have hs2 := lt_laid HS_54.out
    obtain ⟨ai, ci, rfl, hli⟩ := Leads.of_own hro
    have hwl2 := hli.len
    have HX_58 := hid (keep_laid HX_50.out hbn)
    have HM_59 := hid (keep_laid HM_51.out hbn)
    have HO_60 := hid (HO_52.out.grow hbn)
    have HB_61 := hid (HB_53.out.trans (hbn.mono HB_53.out.size))
    have HS_62 := hid (keep_laid HS_54.out hbn)
    have HLV_63 := hid (own_grow HLV_55.out hbn)
    have HRA_64 := hid (own_grow HRA_56.out hbn)
    have HRW_65 := hid (own_grow HRW_57.out hbn)
    clear HX_50 HM_51 HO_52 HB_53 HS_54 HLV_55 HRA_56 HRW_57 hbn HP2
    have HRI_66 := hid (own_base hro hs2)
    have HFD : Hid (Fdr V Xm Mb B11 (B11 + 1) wa la wc0M lc M wa0 wc0 la0 lc0 (itE 0 Mk s0) (.slice aw nw cw) (.slice ai ni ci) (.slice va q2 vc) was isl xs' u2) := hid ⟨HX_58.out, HM_59.out, HS_62.out, HO_60.out, HB_61.out, by rw [HNW.out]; exact HRW_65.out, by rw [HNI.out]; exact HRI_66.out, by have := HRA_64.out; rw [HQ2.out] at this ⊢; exact this⟩
    clear hro hli HISL HX_58 HM_59 HO_60 HB_61 HS_62 HLV_63 HRA_64 HRW_65 HRI_66
    go_wp2
    go_loopg [94] 9 (fun g t94 wr => ∃ (k : Nat) (wak : Option Addr) (wck : Nat) (lak : Option Addr) (lck : Nat), g + k = 9 ∧ t94 = .int .i64 ((k : Nat) : Int) ∧ Hid (Fdr V Xm Mb B11 (B11 + 1) wa la wc0M lc M wak wck lak lck (itE k Mk s0) (.slice aw nw cw) (.slice ai ni ci) (.slice va q2 vc) was isl xs' wr))
    case atStart => exact ⟨0, _, _, _, _, rfl, rfl, HFD⟩
    case round =>
      clear HFD
      obtain ⟨k, wak, wck, lak, lck, hk, rfl, hS⟩ := hrel
      have HK := hid hk
      clear hk
      obtain ⟨hI1, hI2, hI3, hI4, hI5, -, -⟩ := HIT.out k
      have HEA := hid (fun h => HFL.out.each k h)
      have HNX : Hid (itE (k + 1) Mk s0 = (dstepP (itE k Mk s0).1 (itE k Mk s0).2 |>.1, (dstepP (itE k Mk s0).1 (itE k Mk s0).2).2.1)) := hid (by rw [dstepP_ok hI1 hI4 hI5]; rfl)
      have HDS := hid (dstepP_ok hI1 hI4 hI5)
      have HE9 : Hid (k = 9 → (itE k Mk s0).2.ph = 9 ∧ (itE k Mk s0).1.F = M.F ∧ lookN (itE k Mk s0).1 head = (xs', 0)) := hid (by rintro rfl; exact ⟨HFL.out.last.1, HFL.out.last.2.1.trans HFF.out, HLK9.out⟩)
      have hS' := hS
      have HNX' := HNX
      obtain ⟨⟨Mt, sk⟩, hR⟩ : ∃ R, itE k Mk s0 = R := ⟨_, rfl⟩
      rw [hR] at hI1 hI2 hI3 hI4 hI5 HEA HDS HE9 hS' HNX'
      dsimp only at hI1 hI2 hI3 hI4 hI5 HEA HDS HE9 HNX'
      rw [HDS.out] at HNX'
      dsimp only at HNX'
      have HI2 := hid hI2
      have HI3 := hid hI3
      clear hI1 hI2 hI3 hI4 hI5 hR hS HNX
      have HS := hS'
      clear hS'
      have hwk := HS.out.mem.memL.w.len
      have hlk := HS.out.mem.memL.l.len
      dsimp only at hwk hlk
      obtain ⟨m0, m1, m2⟩ := cells3 HS.out.bm
      by_cases hlt : k < 9
      · have HFW := hid (forward_any Mt wak lak wck lck head wr HS.out.mem.memL HH.out HI2.out)
        rw [HEA.out hlt] at HFW
        unfold GivesF memV at HFW
        clear HE9
        by_cases h7 : 7 < sk.ph
        · have t7 : decide ((7 : Int) < sk.ph) = true := decide_eq_true (by omega)
          rw [if_pos h7] at HFW
          rw [HNI.out] at HFW
          dsimp only at HFW
          clear h7 HEA
          go_wp2_with fail
          refine HFW.out.mono ?_
          rintro e w1 ⟨vf, rfl, hro, hbn⟩
          obtain ⟨af, cf, rfl, hlf⟩ := Leads.of_own hro
          have hfl := hlf.len
          have HS_67 := hid (HS.out.grow hbn)
          clear HS hbn m0 m1 m2 HFW
          have y0 := cell_laid (i := 0) HS_67.out.bs rfl
          have HEQ := hid (EqU_any isl isl af ai ni ni cf ci w1 HNI.out HNI.out hlf (by have := Leads.of_own HS_67.out.ri; obtain ⟨_, _, e, h⟩ := this; cases e; rw [HNI.out] at h; exact h))
          rw [decide_eq_true rfl] at HEQ
          clear hro hlf
          go_wp2_with fail
          refine HEQ.out.mono ?_
          rintro e w2 ⟨rfl, hbn⟩
          have HS_68 := hid (HS_67.out.grow hbn)
          clear HS_67 hbn y0 HEQ t7
          obtain ⟨m0, m1, m2⟩ := cells3 HS_68.out.bm
          have y0 := cell_laid (i := 0) HS_68.out.bs rfl
          have y1 := cell_laid (i := 1) HS_68.out.bs rfl
          have y2 := cell_laid (i := 2) HS_68.out.bs rfl
          have y3 := cell_laid (i := 3) HS_68.out.bs rfl
          have y4 := cell_laid (i := 4) HS_68.out.bs rfl
          have y5 := cell_laid (i := 5) HS_68.out.bs rfl
          have y6 := cell_laid (i := 6) HS_68.out.bs rfl
          have y7 := cell_laid (i := 7) HS_68.out.bs rfl
          have HST := hid (dStep_any Mt sk wak lak wck lck w2 HS_68.out.mem.memL HI2.out HI3.out)
          rw [HDS.out] at HST
          unfold GivesS memV edV at HST
          dsimp only at HST
          obtain ⟨⟨Mn, sn⟩, hRn⟩ : ∃ R, stepE Mt sk = R := ⟨_, rfl⟩
          rw [hRn] at HST HNX'
          dsimp only at HST HNX'
          clear hRn
          go_wp2_with fail
          refine HST.out.mono ?_
          rintro e w3 ⟨wan, wcn, lan, lcn, rfl, hO, hbn⟩
          have hw2s := HS_68.out.below.size
          have HS_69 := hid (HS_68.out.grow hbn)
          clear HS_68 hbn m0 m1 m2 y0 y1 y2 y3 y4 y5 y6 y7 HST
          obtain ⟨w4, w5, hw4, hw5, a1, a2, a3, a4, k6, k7, a5, a6⟩ := put_me HS_69.out.bm HS_69.out.bs (by omega) (.slice wan Mn.W.length wcn) (.slice lan Mn.L.length lcn) (.bool Mn.F) (.int .i64 sn.ph) (.bool sn.cuts) (.int .u64 ((sn.head : Nat) : Int)) (.int .u64 ((sn.pl : Nat) : Int)) (.int .u64 ((sn.key : Nat) : Int)) (.int .u64 ((sn.val : Nat) : Int)) (.int .u64 ((sn.prev : Nat) : Int)) (.int .u64 ((sn.next : Nat) : Int))
          have z0 := cell_laid (i := 0) HS_69.out.bm rfl
          have zf0 := free_laid (i := 0) HS_69.out.bm
          have z1 := cell_laid (i := 1) HS_69.out.bm rfl
          have zf1 := free_laid (i := 1) HS_69.out.bm
          have z2 := cell_laid (i := 2) HS_69.out.bm rfl
          have zf2 := free_laid (i := 2) HS_69.out.bm
          have g0 := cell_laid (i := 0) HS_69.out.bs rfl
          have gf0 := free_laid (i := 0) HS_69.out.bs
          have g1 := cell_laid (i := 1) HS_69.out.bs rfl
          have gf1 := free_laid (i := 1) HS_69.out.bs
          have g2 := cell_laid (i := 2) HS_69.out.bs rfl
          have gf2 := free_laid (i := 2) HS_69.out.bs
          have g3 := cell_laid (i := 3) HS_69.out.bs rfl
          have gf3 := free_laid (i := 3) HS_69.out.bs
          have g4 := cell_laid (i := 4) HS_69.out.bs rfl
          have gf4 := free_laid (i := 4) HS_69.out.bs
          have g5 := cell_laid (i := 5) HS_69.out.bs rfl
          have gf5 := free_laid (i := 5) HS_69.out.bs
          have g6 := cell_laid (i := 6) HS_69.out.bs rfl
          have gf6 := free_laid (i := 6) HS_69.out.bs
          have g7 := cell_laid (i := 7) HS_69.out.bs rfl
          have gf7 := free_laid (i := 7) HS_69.out.bs
          have n1 : B11 ≠ Mb := by omega
          have n2 : Mb ≠ B11 := by omega
          have HSN : Hid (Fdr V Xm Mb B11 (B11 + 1) wa la wc0M lc M wan wcn lan lcn (itE (k + 1) Mk s0) (.slice aw nw cw) (.slice ai ni ci) (.slice va q2 vc) was isl xs' w5) := hid (by rw [HNX'.out]; exact HS_69.out.put k7 (a5 _ _ (by omega) (by omega) HS_69.out.below) (by omega) (by omega) (by omega) a3 a4 (a6 _ _ _ _ _ _ (hO.base hw2s)))
          have HW4 := hid hw4
          have HW5 := hid hw5
          have tc : (((0 : Nat) : Int) != 0) = false := by simp
          clear hO hw4 hw5 a1 a2 a3 a4 k6 k7 a5 a6
          go_upto_region 30 with (fail)
          rw [← HW4.out, ← HW5.out]
          clear z0 z1 z2 zf0 zf1 zf2 g0 g1 g2 g3 g4 g5 g6 g7 gf0 gf1 gf2 gf3 gf4 gf5 gf6 gf7
          go_wp2
          go_roundg (gk - 1)
          case measure => have := HK.out; omega
          case rel => exact ⟨k + 1, _, _, _, _, by have := HK.out; omega, by go_num, HSN⟩
        · have t7 : decide ((7 : Int) < sk.ph) = false := decide_eq_false (by omega)
          rw [if_neg h7] at HFW
          rw [HNW.out] at HFW
          dsimp only at HFW
          clear h7 HEA
          go_wp2_with fail
          refine HFW.out.mono ?_
          rintro e w1 ⟨vf, rfl, hro, hbn⟩
          obtain ⟨af, cf, rfl, hlf⟩ := Leads.of_own hro
          have hfl := hlf.len
          have HS_67 := hid (HS.out.grow hbn)
          clear HS hbn m0 m1 m2 HFW
          have y0 := cell_laid (i := 0) HS_67.out.bs rfl
          have HEQ := hid (EqU_any was was af aw nw nw cf cw w1 HNW.out HNW.out hlf (by have := Leads.of_own HS_67.out.rw_; obtain ⟨_, _, e, h⟩ := this; cases e; rw [HNW.out] at h; exact h))
          rw [decide_eq_true rfl] at HEQ
          clear hro hlf
          go_wp2_with fail
          refine HEQ.out.mono ?_
          rintro e w2 ⟨rfl, hbn⟩
          have HS_68 := hid (HS_67.out.grow hbn)
          clear HS_67 hbn y0 HEQ t7
          obtain ⟨m0, m1, m2⟩ := cells3 HS_68.out.bm
          have y0 := cell_laid (i := 0) HS_68.out.bs rfl
          have y1 := cell_laid (i := 1) HS_68.out.bs rfl
          have y2 := cell_laid (i := 2) HS_68.out.bs rfl
          have y3 := cell_laid (i := 3) HS_68.out.bs rfl
          have y4 := cell_laid (i := 4) HS_68.out.bs rfl
          have y5 := cell_laid (i := 5) HS_68.out.bs rfl
          have y6 := cell_laid (i := 6) HS_68.out.bs rfl
          have y7 := cell_laid (i := 7) HS_68.out.bs rfl
          have HST := hid (dStep_any Mt sk wak lak wck lck w2 HS_68.out.mem.memL HI2.out HI3.out)
          rw [HDS.out] at HST
          unfold GivesS memV edV at HST
          dsimp only at HST
          obtain ⟨⟨Mn, sn⟩, hRn⟩ : ∃ R, stepE Mt sk = R := ⟨_, rfl⟩
          rw [hRn] at HST HNX'
          dsimp only at HST HNX'
          clear hRn
          go_wp2_with fail
          refine HST.out.mono ?_
          rintro e w3 ⟨wan, wcn, lan, lcn, rfl, hO, hbn⟩
          have hw2s := HS_68.out.below.size
          have HS_69 := hid (HS_68.out.grow hbn)
          clear HS_68 hbn m0 m1 m2 y0 y1 y2 y3 y4 y5 y6 y7 HST
          obtain ⟨w4, w5, hw4, hw5, a1, a2, a3, a4, k6, k7, a5, a6⟩ := put_me HS_69.out.bm HS_69.out.bs (by omega) (.slice wan Mn.W.length wcn) (.slice lan Mn.L.length lcn) (.bool Mn.F) (.int .i64 sn.ph) (.bool sn.cuts) (.int .u64 ((sn.head : Nat) : Int)) (.int .u64 ((sn.pl : Nat) : Int)) (.int .u64 ((sn.key : Nat) : Int)) (.int .u64 ((sn.val : Nat) : Int)) (.int .u64 ((sn.prev : Nat) : Int)) (.int .u64 ((sn.next : Nat) : Int))
          have z0 := cell_laid (i := 0) HS_69.out.bm rfl
          have zf0 := free_laid (i := 0) HS_69.out.bm
          have z1 := cell_laid (i := 1) HS_69.out.bm rfl
          have zf1 := free_laid (i := 1) HS_69.out.bm
          have z2 := cell_laid (i := 2) HS_69.out.bm rfl
          have zf2 := free_laid (i := 2) HS_69.out.bm
          have g0 := cell_laid (i := 0) HS_69.out.bs rfl
          have gf0 := free_laid (i := 0) HS_69.out.bs
          have g1 := cell_laid (i := 1) HS_69.out.bs rfl
          have gf1 := free_laid (i := 1) HS_69.out.bs
          have g2 := cell_laid (i := 2) HS_69.out.bs rfl
          have gf2 := free_laid (i := 2) HS_69.out.bs
          have g3 := cell_laid (i := 3) HS_69.out.bs rfl
          have gf3 := free_laid (i := 3) HS_69.out.bs
          have g4 := cell_laid (i := 4) HS_69.out.bs rfl
          have gf4 := free_laid (i := 4) HS_69.out.bs
          have g5 := cell_laid (i := 5) HS_69.out.bs rfl
          have gf5 := free_laid (i := 5) HS_69.out.bs
          have g6 := cell_laid (i := 6) HS_69.out.bs rfl
          have gf6 := free_laid (i := 6) HS_69.out.bs
          have g7 := cell_laid (i := 7) HS_69.out.bs rfl
          have gf7 := free_laid (i := 7) HS_69.out.bs
          have n1 : B11 ≠ Mb := by omega
          have n2 : Mb ≠ B11 := by omega
          have HSN : Hid (Fdr V Xm Mb B11 (B11 + 1) wa la wc0M lc M wan wcn lan lcn (itE (k + 1) Mk s0) (.slice aw nw cw) (.slice ai ni ci) (.slice va q2 vc) was isl xs' w5) := hid (by rw [HNX'.out]; exact HS_69.out.put k7 (a5 _ _ (by omega) (by omega) HS_69.out.below) (by omega) (by omega) (by omega) a3 a4 (a6 _ _ _ _ _ _ (hO.base hw2s)))
          have HW4 := hid hw4
          have HW5 := hid hw5
          have tc : (((0 : Nat) : Int) != 0) = false := by simp
          clear hO hw4 hw5 a1 a2 a3 a4 k6 k7 a5 a6
          go_upto_region 30 with (fail)
          rw [← HW4.out, ← HW5.out]
          clear z0 z1 z2 zf0 zf1 zf2 g0 g1 g2 g3 g4 g5 g6 g7 gf0 gf1 gf2 gf3 gf4 gf5 gf6 gf7
          go_wp2
          go_roundg (gk - 1)
          case measure => have := HK.out; omega
          case rel => exact ⟨k + 1, _, _, _, _, by have := HK.out; omega, by go_num, HSN⟩
      · have hk9 : k = 9 := by have := HK.out; omega
        obtain ⟨e1, e2, e3⟩ := HE9.out hk9
        have HNN := hid (Nodes_any Mt wak lak wck lck head wr HS.out.mem.memL HH.out HI2.out)
        rw [e3] at HNN
        unfold GivesL memV at HNN
        dsimp only at HNN
        rw [HQ2.out] at HNN
        have t9 : (sk.ph == 9) = true := by simp; omega
        have tF : (Mt.F == M.F) = true := by rw [e2]; simp
        have HTW := hid (nodesN_twF (M := Mt) (head := head) HI2.out)
        rw [e3] at HTW
        dsimp only at HTW
        clear e1 e2 e3 HE9 HEA HDS HNX'
        go_wp2_with fail
        refine HNN.out.mono ?_
        rintro e w1 ⟨vx, rfl, hro, hbn⟩
        obtain ⟨ax, cx, rfl, hlx⟩ := Leads.of_own hro
        have hxl2 := hlx.len
        have HS_67 := hid (HS.out.grow hbn)
        clear HS hbn m0 m1 m2 HNN
        have y0 := cell_laid (i := 0) HS_67.out.bs rfl
        obtain ⟨m0, m1, m2⟩ := cells3 HS_67.out.bm
        obtain ⟨x0, x1, x2⟩ := cells3 HS_67.out.bx
        have HEQ := hid (EqT_any xs' xs' ax va q2 q2 cx vc w1 HQ2.out HQ2.out HTW.out HTW.out hlx (by have := Leads.of_own HS_67.out.ra; obtain ⟨_, _, e, h⟩ := this; cases e; rw [HQ2.out] at h; exact h))
        rw [decide_eq_true rfl] at HEQ
        clear hro hlx
        have tc : (((0 : Nat) : Int) == 0) = true := by simp
        go_wp2_with fail
        refine HEQ.out.mono ?_
        rintro e w2 ⟨rfl, hbn⟩
        go_wp2
        go_ret
        exact ⟨rfl, HS_67.out.below.trans (hbn.mono HS_67.out.below.size)⟩
end Go.Proofs.Ytoihjmdpbbcbjaa
