/- Processes: the layer does something (printed by gen_pr12.py). -/
import Derived.Test.YtmnbkhmphhgdiaaDoorPr11
import Derived.Test.YtmnbkhmphhgdiaaDoorPr4
namespace Go.Proofs.YtmnbkhmphhgdiaaDoor
open Go.RowKit Go.Shelf
open Go.Proofs
set_option linter.unusedVariables false
attribute [local go_sem] Oper.semAt_some
theorem GOk.upd {G : Nat → Int} (h : GOk G) (i : Nat) (v : Int) (hv : -9223372036854775808 ≤ v ∧ v ≤ 9223372036854775807) : GOk (updG G i v) := by
  intro j
  unfold updG
  split
  · exact hv
  · exact h j
theorem newG_ok : GOk newG := by
  intro i
  show _ ≤ (if i = 0 then (1 : Int) else 0) ∧ (if i = 0 then (1 : Int) else 0) ≤ _
  split <;> decide
abbrev wG1 : Nat → Int := updG newG 1 1
abbrev wG2 : Nat → Int := updG wG1 2 1
abbrev wG3 : Nat → Int := updG wG2 1 2
abbrev wL1 : List Pr := [(1, 0, false, 0), (2, 1, false, 0)]
abbrev wL2 : List Pr := [(1, 0, false, 0), (2, 1, false, 0), (3, 1, false, 0)]
abbrev wL3 : List Pr := [(1, 0, false, 0), (2, 1, true, 7), (3, 1, false, 0)]
abbrev wL4 : List Pr := [(1, 0, false, 0), (3, 1, false, 0)]
abbrev wL5 : List Pr := [(1, 0, false, 0), (66, 1, false, 0), (3, 1, false, 0)]
theorem wok1 : okRes newG [firstP] (spawnP newG [firstP] 1) = .ok (wG1, wL1, 2) := by rfl
theorem wok2 : okRes wG1 wL1 (spawnP wG1 wL1 1) = .ok (wG2, wL2, 3) := by rfl
theorem wok3 : okRes wG2 wL2 (exitP wG2 wL2 2 7) = .ok (wG2, wL3, 0) := by rfl
theorem wok4 : okRes wG2 wL3 (waitP wG2 wL3 1 2) = .ok (wG2, wL4, 7) := by rfl
theorem wok5 : okRes wG2 wL4 (waitP wG2 wL4 1 2) = .error 324 := by rfl
theorem wok6 : okRes wG2 wL4 (spawnP wG2 wL4 1) = .ok (wG3, wL5, 66) := by rfl
theorem wok7 : kidsP wG3 wL5 1 = [66, 3] := by rfl
theorem wok8 : runsP wG3 wL5 66 = true := by rfl
theorem wok9 : runsP wG3 wL5 2 = false := by rfl
theorem wg1 : GOk wG1 := newG_ok.upd 1 1 (by decide)
theorem wg2 : GOk wG2 := wg1.upd 2 1 (by decide)
theorem wg3 : GOk wG3 := wg2.upd 1 2 (by decide)
theorem prsOk_of {L : List Pr} (h : (L.all fun x => decide (x.1 < 18446744073709551616) && (decide (x.2.1 < 18446744073709551616) && decide (x.2.2.2 < 18446744073709551616))) = true) : PrsOk L := by
  intro x hx
  have := List.all_eq_true.1 h x hx
  simp only [Bool.and_eq_true, decide_eq_true_eq] at this
  exact this
theorem wp1 : PrsOk [firstP] := prsOk_of (by decide)
theorem wpl1 : PrsOk wL1 := prsOk_of (by decide)
theorem wpl2 : PrsOk wL2 := prsOk_of (by decide)
theorem wpl3 : PrsOk wL3 := prsOk_of (by decide)
theorem wpl4 : PrsOk wL4 := prsOk_of (by decide)
theorem wpl5 : PrsOk wL5 := prsOk_of (by decide)
theorem Glob.far {w w' : World} {b : Nat} (h : Glob w) (k : ∀ (k : Nat) (o : Obj), k ≠ b → w.heap[k]? = some o → w'.heap[k]? = some o) (hb : 1 ≤ b) : Glob w' := by
  have hlt := h.one
  obtain ⟨o, ho⟩ : ∃ o, w.heap[0]? = some o := ⟨_, Array.getElem?_eq_getElem hlt⟩
  have ho' := k 0 o (by omega) ho
  have hc : ∀ i, w'.cell? ⟨0, i, none⟩ = w.cell? ⟨0, i, none⟩ := fun i => by simp only [World.cell?, ho, ho']
  have h1 : 1 ≤ w'.heap.size := by have := (Array.getElem?_eq_some_iff.1 ho').1; omega
  exact ⟨h1, (hc 0).trans h.c0, (hc 1).trans h.c1, (hc 2).trans h.c2, (hc 3).trans h.c3⟩
set_option maxRecDepth 100000 in
set_option maxHeartbeats 16000000 in
theorem Wakes_any (V : World) (hg : Glob V) : Calls Tryd.prog 7 #[] V (Ret (.bool true) V) := by
  have HGL := hid hg
  have hv1 := hg.one
  have HB := hid (Below.refl V.heap.size V)
  have HNW := hid (New_any V hg)
  clear hg
  go_enter Tryd.func7, Tryd.ntmps7
  go_wp2_with fail
  refine HNW.out.mono ?_
  rintro e w1 ⟨a1, c1, rfl, hrow, hbn⟩
  have HB_1 := hid (HB.out.trans (hbn.mono HB.out.size))
  have HGL_2 := hid (HGL.out.grow hbn)
  clear HB HGL hbn
  have HRW := hid hrow
  have hlr := (Leads.of_own1 hrow).len
  clear hrow HNW
  have HC1 := hid (Spawn_any 1 c1 1 a1 newG [firstP] w1 HGL_2.out (Leads.of_own1 HRW.out) rfl (by omega) newG_ok wp1 (by omega))
  rw [wok1] at HC1
  go_wp2_with fail
  refine HC1.out.mono ?_
  rintro e w2 ⟨hbn, a2, c2, rfl, hrow⟩
  have hwV1 : V.heap.size ≤ w1.heap.size := HB_1.out.size
  have HRN := hid (own_base hrow hwV1)
  have hlr1 := (Leads.of_own1 hrow).len
  clear hrow HC1 HRW
  have HB_3 := hid (HB_1.out.trans (hbn.mono HB_1.out.size))
  have HGL_4 := hid (HGL_2.out.grow hbn)
  clear HB_1 HGL_2 hbn
  have HRW_5 := HRN
  clear HRN
  obtain ⟨w1_74, hw1_74, hbn, hsn, hln⟩ := laid w2 #[.int .i64 0, .int .i64 0, .int .i64 0, .int .i64 0, .int .i64 0, .int .i64 0, .int .i64 0, .int .i64 0, .int .i64 0, .int .i64 0, .int .i64 0, .int .i64 0, .int .i64 0, .int .i64 0, .int .i64 0, .int .i64 0, .slice none 0 0] 25
  obtain ⟨X1, hNMX1⟩ : ∃ X, w2.heap.size = X := ⟨_, rfl⟩
  rw [hNMX1] at hln
  have hVX1 : V.heap.size ≤ X1 := by have := HB_3.out.size; omega
  have HB_6 := hid (HB_3.out.trans (hbn.mono HB_3.out.size))
  have HGL_7 := hid (HGL_4.out.grow hbn)
  have HRW_8 := hid (own_grow HRW_5.out hbn)
  clear HB_3 HGL_4 HRW_5 hbn hsn
  have KX1_9 := hid (hln)
  clear hln
  go_upto_region 2 with (refine wp_storeW rfl 25 (.tmp 1) (.tmp 17) rfl X1 _ _ rfl rfl _ KX1_9.out (by kernel_rfl) (by rfl) (by simp [Value.oneCell']) ?_; intro u1 a1 a2 a3 a4; have HA1 := hid a1; have HA2 := hid a2; have HA3 := hid a3; clear a1 a2 a3 a4)
  have HB_10 := hid (HA3.out _ _ (by omega) HB_6.out)
  have HGL_11 := hid (Glob.far HGL_7.out HA2.out (by omega))
  have HRW_12 := hid (own_keep HRW_8.out fun k o hk ho => HA2.out k o (fun e => own_neP HRW_8.out KX1_9.out (by decide) (by rw [← e]; exact hk)) ho)
  have KX1_13 := hid (HA1.out)
  clear HA1 HA2 HA3 HB_6 HGL_7 HRW_8 KX1_9 hNMX1 hw1_74
  have HC2 := hid (Spawn_any 2 c2 1 a2 wG1 wL1 u1 HGL_11.out (Leads.of_own1 HRW_12.out) rfl (by omega) wg1 wpl1 (by omega))
  rw [wok2] at HC2
  go_wp2_with (refine wp_loadW rfl 25 (.tmp 1) rfl X1 _ rfl _ KX1_13.out _ Tryd.underlying25 rfl (by kernel_rfl) ?_; intro v hv; subst hv)
  refine HC2.out.mono ?_
  rintro e w3 ⟨hbn, a3, c3, rfl, hrow⟩
  have hwV2 : V.heap.size ≤ u1.heap.size := HB_10.out.size
  have HRN := hid (own_base hrow hwV2)
  have hlr2 := (Leads.of_own1 hrow).len
  clear hrow HC2 HRW_12
  have HB_14 := hid (HB_10.out.trans (hbn.mono HB_10.out.size))
  have HGL_15 := hid (HGL_11.out.grow hbn)
  have KX1_16 := hid (keep_laid KX1_13.out hbn)
  clear HB_10 HGL_11 KX1_13 hbn
  have HRW_17 := HRN
  clear HRN
  go_upto_region 3 with (refine wp_storeW rfl 25 (.tmp 1) (.tmp 23) rfl X1 _ _ rfl rfl _ KX1_16.out (by kernel_rfl) (by rfl) (by simp [Value.oneCell']) ?_; intro u2 a1 a2 a3 a4; have HA1 := hid a1; have HA2 := hid a2; have HA3 := hid a3; clear a1 a2 a3 a4)
  have HB_18 := hid (HA3.out _ _ (by omega) HB_14.out)
  have HGL_19 := hid (Glob.far HGL_15.out HA2.out (by omega))
  have KX1_20 := hid (HA1.out)
  have HRW_21 := hid (own_keep HRW_17.out fun k o hk ho => HA2.out k o (fun e => own_neP HRW_17.out KX1_16.out (by decide) (by rw [← e]; exact hk)) ho)
  clear HA1 HA2 HA3 HB_14 HGL_15 KX1_16 HRW_17
  have HC3 := hid (Exit_any 3 c3 2 7 a3 wG2 wL2 u2 HGL_19.out (Leads.of_own1 HRW_21.out) rfl (by omega) wg2 wpl2 (by omega) (by omega))
  rw [wok3] at HC3
  go_wp2_with (refine wp_loadW rfl 25 (.tmp 1) rfl X1 _ rfl _ KX1_20.out _ Tryd.underlying25 rfl (by kernel_rfl) ?_; intro v hv; subst hv)
  refine HC3.out.mono ?_
  rintro e w4 ⟨hbn, a4, c4, rfl, hrow⟩
  have hwV3 : V.heap.size ≤ u2.heap.size := HB_18.out.size
  have HRN := hid (own_base hrow hwV3)
  have hlr3 := (Leads.of_own1 hrow).len
  clear hrow HC3 HRW_21
  have HB_22 := hid (HB_18.out.trans (hbn.mono HB_18.out.size))
  have HGL_23 := hid (HGL_19.out.grow hbn)
  have KX1_24 := hid (keep_laid KX1_20.out hbn)
  clear HB_18 HGL_19 KX1_20 hbn
  have HRW_25 := HRN
  clear HRN
  go_upto_region 4 with (refine wp_storeW rfl 25 (.tmp 1) (.tmp 29) rfl X1 _ _ rfl rfl _ KX1_24.out (by kernel_rfl) (by rfl) (by simp [Value.oneCell']) ?_; intro u3 a1 a2 a3 a4; have HA1 := hid a1; have HA2 := hid a2; have HA3 := hid a3; clear a1 a2 a3 a4)
  have HB_26 := hid (HA3.out _ _ (by omega) HB_22.out)
  have HGL_27 := hid (Glob.far HGL_23.out HA2.out (by omega))
  have KX1_28 := hid (HA1.out)
  have HRW_29 := hid (own_keep HRW_25.out fun k o hk ho => HA2.out k o (fun e => own_neP HRW_25.out KX1_24.out (by decide) (by rw [← e]; exact hk)) ho)
  clear HA1 HA2 HA3 HB_22 HGL_23 KX1_24 HRW_25
  have HC4 := hid (Wait_any 3 c4 1 2 a4 wG2 wL3 u3 HGL_27.out (Leads.of_own1 HRW_29.out) rfl (by omega) wg2 wpl3 (by omega) (by omega))
  rw [wok4] at HC4
  go_wp2_with (refine wp_loadW rfl 25 (.tmp 1) rfl X1 _ rfl _ KX1_28.out _ Tryd.underlying25 rfl (by kernel_rfl) ?_; intro v hv; subst hv)
  refine HC4.out.mono ?_
  rintro e w5 ⟨hbn, a5, c5, rfl, hrow⟩
  have hwV4 : V.heap.size ≤ u3.heap.size := HB_26.out.size
  have HRN := hid (own_base hrow hwV4)
  have hlr4 := (Leads.of_own1 hrow).len
  clear hrow HC4 HRW_29
  have HB_30 := hid (HB_26.out.trans (hbn.mono HB_26.out.size))
  have HGL_31 := hid (HGL_27.out.grow hbn)
  have KX1_32 := hid (keep_laid KX1_28.out hbn)
  clear HB_26 HGL_27 KX1_28 hbn
  have HRW_33 := HRN
  clear HRN
  go_upto_region 5 with (refine wp_storeW rfl 25 (.tmp 1) (.tmp 34) rfl X1 _ _ rfl rfl _ KX1_32.out (by kernel_rfl) (by rfl) (by simp [Value.oneCell']) ?_; intro u4 a1 a2 a3 a4; have HA1 := hid a1; have HA2 := hid a2; have HA3 := hid a3; clear a1 a2 a3 a4)
  have HB_34 := hid (HA3.out _ _ (by omega) HB_30.out)
  have HGL_35 := hid (Glob.far HGL_31.out HA2.out (by omega))
  have KX1_36 := hid (HA1.out)
  have HRW_37 := hid (own_keep HRW_33.out fun k o hk ho => HA2.out k o (fun e => own_neP HRW_33.out KX1_32.out (by decide) (by rw [← e]; exact hk)) ho)
  clear HA1 HA2 HA3 HB_30 HGL_31 KX1_32 HRW_33
  have HC5 := hid (Wait_any 2 c5 1 2 a5 wG2 wL4 u4 HGL_35.out (Leads.of_own1 HRW_37.out) rfl (by omega) wg2 wpl4 (by omega) (by omega))
  rw [wok5] at HC5
  go_wp2_with (refine wp_loadW rfl 25 (.tmp 1) rfl X1 _ rfl _ KX1_36.out _ Tryd.underlying25 rfl (by kernel_rfl) ?_; intro v hv; subst hv)
  refine HC5.out.mono ?_
  rintro e w6 ⟨hbn, rfl⟩
  clear HC5
  have HB_38 := hid (HB_34.out.trans (hbn.mono HB_34.out.size))
  have HGL_39 := hid (HGL_35.out.grow hbn)
  have KX1_40 := hid (keep_laid KX1_36.out hbn)
  have HRW_41 := hid (own_grow HRW_37.out hbn)
  clear HB_34 HGL_35 KX1_36 HRW_37 hbn
  obtain ⟨w2_164, hw2_164, hbn, hsn, hln⟩ := laid w6 #[.int .i64 0, .int .i64 0, .int .i64 0, .int .i64 0, .int .i64 0, .int .i64 0, .int .i64 0, .int .i64 0, .int .i64 0, .int .i64 0, .int .i64 0, .int .i64 0, .int .i64 0, .int .i64 0, .int .i64 0, .int .i64 0, .slice none 0 0] 25
  obtain ⟨X9, hNMX9⟩ : ∃ X, w6.heap.size = X := ⟨_, rfl⟩
  rw [hNMX9] at hln
  have nX1X9 : X1 < X9 := by have := lt_laid KX1_40.out; omega
  have hVX9 : V.heap.size ≤ X9 := by have := HB_38.out.size; omega
  have HB_42 := hid (HB_38.out.trans (hbn.mono HB_38.out.size))
  have HGL_43 := hid (HGL_39.out.grow hbn)
  have KX1_44 := hid (keep_laid KX1_40.out hbn)
  have HRW_45 := hid (own_grow HRW_41.out hbn)
  clear HB_38 HGL_39 KX1_40 HRW_41 hbn hsn
  have KX9_46 := hid (hln)
  clear hln
  go_upto_region 6 with (refine wp_storeW rfl 25 (.tmp 9) (.tmp 40) rfl X9 _ _ rfl rfl _ KX9_46.out (by kernel_rfl) (by rfl) (by simp [Value.oneCell']) ?_; intro u5 a1 a2 a3 a4; have HA1 := hid a1; have HA2 := hid a2; have HA3 := hid a3; clear a1 a2 a3 a4)
  have HB_47 := hid (HA3.out _ _ (by omega) HB_42.out)
  have HGL_48 := hid (Glob.far HGL_43.out HA2.out (by omega))
  have KX1_49 := hid (HA2.out X1 _ (by omega) KX1_44.out)
  have HRW_50 := hid (own_keep HRW_45.out fun k o hk ho => HA2.out k o (fun e => own_neP HRW_45.out KX9_46.out (by decide) (by rw [← e]; exact hk)) ho)
  have KX9_51 := hid (HA1.out)
  clear HA1 HA2 HA3 HB_42 HGL_43 KX1_44 HRW_45 KX9_46 hNMX9 hw2_164
  have HC6 := hid (Spawn_any 2 c5 1 a5 wG2 wL4 u5 HGL_48.out (Leads.of_own1 HRW_50.out) rfl (by omega) wg2 wpl4 (by omega))
  rw [wok6] at HC6
  go_wp2_with (refine wp_loadW rfl 25 (.tmp 1) rfl X1 _ rfl _ KX1_49.out _ Tryd.underlying25 rfl (by kernel_rfl) ?_; intro v hv; subst hv)
  refine HC6.out.mono ?_
  rintro e w7 ⟨hbn, a6, c6, rfl, hrow⟩
  have hwV6 : V.heap.size ≤ u5.heap.size := HB_47.out.size
  have HRN := hid (own_base hrow hwV6)
  have hlr6 := (Leads.of_own1 hrow).len
  clear hrow HC6 HRW_50
  have HB_52 := hid (HB_47.out.trans (hbn.mono HB_47.out.size))
  have HGL_53 := hid (HGL_48.out.grow hbn)
  have KX1_54 := hid (keep_laid KX1_49.out hbn)
  have KX9_55 := hid (keep_laid KX9_51.out hbn)
  clear HB_47 HGL_48 KX1_49 KX9_51 hbn
  have HRW_56 := HRN
  clear HRN
  go_upto_region 7 with (refine wp_storeW rfl 25 (.tmp 1) (.tmp 46) rfl X1 _ _ rfl rfl _ KX1_54.out (by kernel_rfl) (by rfl) (by simp [Value.oneCell']) ?_; intro u6 a1 a2 a3 a4; have HA1 := hid a1; have HA2 := hid a2; have HA3 := hid a3; clear a1 a2 a3 a4)
  have HB_57 := hid (HA3.out _ _ (by omega) HB_52.out)
  have HGL_58 := hid (Glob.far HGL_53.out HA2.out (by omega))
  have KX1_59 := hid (HA1.out)
  have KX9_60 := hid (HA2.out X9 _ (by omega) KX9_55.out)
  have HRW_61 := hid (own_keep HRW_56.out fun k o hk ho => HA2.out k o (fun e => own_neP HRW_56.out KX1_54.out (by decide) (by rw [← e]; exact hk)) ho)
  clear HA1 HA2 HA3 HB_52 HGL_53 KX1_54 KX9_55 HRW_56
  have HKI := hid (Kids_any 3 c6 1 a6 wG3 wL5 u6 HGL_58.out (Leads.of_own1 HRW_61.out) rfl (by omega) wg3 wpl5 (by omega))
  rw [wok7] at HKI
  unfold GivesW at HKI
  go_wp2_with (refine wp_loadG rfl 25 (.tmp 1) rfl X1 _ rfl _ KX1_59.out _ Tryd.underlying25 rfl (by kernel_rfl) ?_; intro v hv; subst hv)
  refine HKI.out.mono ?_
  rintro e w20 ⟨vk, rfl, hok, hbn⟩
  obtain ⟨ka, kc, rfl, hlk⟩ := Leads.of_own hok
  have hlk2 := hlk.len
  clear hok HKI
  have HB_62 := hid (HB_57.out.trans (hbn.mono HB_57.out.size))
  have HGL_63 := hid (HGL_58.out.grow hbn)
  have KX1_64 := hid (keep_laid KX1_59.out hbn)
  have KX9_65 := hid (keep_laid KX9_60.out hbn)
  have HRW_66 := hid (own_grow HRW_61.out hbn)
  clear HB_57 HGL_58 KX1_59 KX9_60 HRW_61 hbn
  obtain ⟨w21, hw21, hb21, hs21, hl21⟩ := laid w20 #[.int .u64 66, .int .u64 3] 29
  have HLK := hid (hlk.grow hb21)
  have HLS : Hid (Leads w21 (some ⟨w20.heap.size, 0, none⟩) 2 2 (wcells [66, 3])) := hid ⟨Nat.le_refl _, by unfold maxLen; omega, .inr ⟨_, _, rfl, lt_laid hl21, fun i v hv => by rw [Nat.zero_add]; exact cell_laid hl21 (by rw [show wcells [66, 3] = [Value.int .u64 66, Value.int .u64 3] from rfl] at hv; simpa using hv)⟩⟩
  have HEQ := hid (EqU_any [66, 3] [66, 3] ka (some ⟨w20.heap.size, 0, none⟩) 2 2 kc 2 w21 rfl rfl HLK.out HLS.out)
  rw [show decide (([66, 3] : List Nat) = [66, 3]) = true from rfl] at HEQ
  clear hlk hl21 hs21
  have HB_67 := hid (HB_62.out.trans (hb21.mono HB_62.out.size))
  have HGL_68 := hid (HGL_63.out.grow hb21)
  have KX1_69 := hid (keep_laid KX1_64.out hb21)
  have KX9_70 := hid (keep_laid KX9_65.out hb21)
  have HRW_71 := hid (own_grow HRW_66.out hb21)
  clear HB_62 HGL_63 KX1_64 KX9_65 HRW_66 hb21
  go_wp2_with fail
  refine HEQ.out.mono ?_
  rintro e w22 ⟨rfl, hbn⟩
  clear HEQ HLK HLS hw21
  have HB_72 := hid (HB_67.out.trans (hbn.mono HB_67.out.size))
  have HGL_73 := hid (HGL_68.out.grow hbn)
  have KX1_74 := hid (keep_laid KX1_69.out hbn)
  have KX9_75 := hid (keep_laid KX9_70.out hbn)
  have HRW_76 := hid (own_grow HRW_71.out hbn)
  clear HB_67 HGL_68 KX1_69 KX9_70 HRW_71 hbn
  have HR1 := hid (Runs_any 3 c6 66 a6 wG3 wL5 w22 HGL_73.out (Leads.of_own1 HRW_76.out) rfl (by omega) wg3 wpl5)
  rw [wok8] at HR1
  go_wp2_with (refine wp_loadG rfl 25 (.tmp 1) rfl X1 _ rfl _ KX1_74.out _ Tryd.underlying25 rfl (by kernel_rfl) ?_; intro v hv; subst hv)
  refine HR1.out.mono ?_
  rintro e w23 ⟨rfl, hbn⟩
  clear HR1
  have HB_77 := hid (HB_72.out.trans (hbn.mono HB_72.out.size))
  have HGL_78 := hid (HGL_73.out.grow hbn)
  have KX1_79 := hid (keep_laid KX1_74.out hbn)
  have KX9_80 := hid (keep_laid KX9_75.out hbn)
  have HRW_81 := hid (own_grow HRW_76.out hbn)
  clear HB_72 HGL_73 KX1_74 KX9_75 HRW_76 hbn
  have HR1 := hid (Runs_any 3 c6 2 a6 wG3 wL5 w23 HGL_78.out (Leads.of_own1 HRW_81.out) rfl (by omega) wg3 wpl5)
  rw [wok9] at HR1
  go_wp2_with (refine wp_loadG rfl 25 (.tmp 1) rfl X1 _ rfl _ KX1_79.out _ Tryd.underlying25 rfl (by kernel_rfl) ?_; intro v hv; subst hv)
  refine HR1.out.mono ?_
  rintro e w24 ⟨rfl, hbn⟩
  clear HR1
  have HB_82 := hid (HB_77.out.trans (hbn.mono HB_77.out.size))
  have HGL_83 := hid (HGL_78.out.grow hbn)
  have KX1_84 := hid (keep_laid KX1_79.out hbn)
  have KX9_85 := hid (keep_laid KX9_80.out hbn)
  have HRW_86 := hid (own_grow HRW_81.out hbn)
  clear HB_77 HGL_78 KX1_79 KX9_80 HRW_81 hbn
  go_wp2
  go_ret
  exact ⟨rfl, HB_82.out⟩
end Go.Proofs.YtmnbkhmphhgdiaaDoor
