/- Lists (printed by gen_lswakes.py): the layer is awake. -/
import Derived.Test.YtdkkjcflcegeoaaLsEq
namespace Go.Proofs.Ytdkkjcflcegeoaa
open Go.RowKit
open Go.Proofs
set_option linter.unusedVariables false
attribute [local go_sem] Oper.semAt_some
def kmem (l : List Nat) : Mem := ⟨l, List.replicate 16 true, false⟩
def kl0 : List Nat := [0, 0, 0, 0, 0, 0, 0, 0, 0, 0, 0, 0, 0, 0, 0, 0]
def kl1 : List Nat := [4, 0, 0, 0, 7, 70, 0, 2, 0, 0, 0, 0, 0, 0, 0, 0]
def kl2 : List Nat := [8, 0, 0, 0, 7, 70, 0, 2, 3, 30, 4, 1, 0, 0, 0, 0]
def kl3 : List Nat := [4, 0, 0, 0, 7, 70, 0, 2, 3, 30, 4, 1, 0, 0, 0, 0]
theorem kins1 : insP (kmem kl0) 0 (4, 7, 70, 2) = (kmem kl1, 6, 0) := by kernel_rfl
theorem kins2 : insP (kmem kl1) 0 (8, 3, 30, 1) = (kmem kl2, 7, 0) := by kernel_rfl
theorem kins3 : insP (kmem kl2) 0 (12, 7, 0, 2) = (zeroM, 0, 5) := by kernel_rfl
theorem kfind : findP (kmem kl2) 0 2 7 = (⟨4, 2, 7, 10, 4, 70, true⟩, 6, 0) := by kernel_rfl
theorem krem : remP (kmem kl2) 0 1 3 = (kmem kl3, 8, 0) := by kernel_rfl
theorem knodes : nodesP (kmem kl3) 0 = ([(4, 7, 70, 2)], 0) := by kernel_rfl
theorem kwok0 : ∀ x ∈ (kmem kl0).W, x < 18446744073709551616 := by show ∀ x ∈ kl0, x < 18446744073709551616; decide
theorem kwok1 : ∀ x ∈ (kmem kl1).W, x < 18446744073709551616 := by show ∀ x ∈ kl1, x < 18446744073709551616; decide
theorem kwok2 : ∀ x ∈ (kmem kl2).W, x < 18446744073709551616 := by show ∀ x ∈ kl2, x < 18446744073709551616; decide
theorem kwok3 : ∀ x ∈ (kmem kl3).W, x < 18446744073709551616 := by show ∀ x ∈ kl3, x < 18446744073709551616; decide
/-- A memory of 16 words that are live. -/
abbrev kV (wa : Option Addr) (wc : Nat) (la : Option Addr) (lc : Nat) : Value := .agg #[.slice wa 16 wc, .slice la 16 lc, .bool false]
def GivesKl (l : List Nat) (v1 v2 : Value) (V : World) (e : Ending) (W : World) : Prop := ∃ wa wc la lc, e = .returned (.tuple #[kV wa wc la lc, v1, v2]) ∧ MemO V.heap.size wa wc la lc (kmem l) W ∧ Below V.heap.size V W
theorem kV_eq (wa : Option Addr) (wc : Nat) (la : Option Addr) (lc : Nat) (l : List Nat) (hl : l.length = 16) : memV wa wc la lc (kmem l) = kV wa wc la lc := by
  unfold memV kmem kV
  simp only [hl, List.length_replicate]
theorem laid_result {W : World} {b0 : Nat} {v0_0 v0_1 v0_2 u1 : Value} {tmps : Array Value} (h0 : W.heap[b0]? = some (.cells #[v0_0, v0_1, v0_2] 25 (0, 0))) (q0 : tmps[0]?.getD undef = .pointer (some ⟨b0, 0, none⟩)) (q1 : tmps[1]?.getD undef = u1) :
    (results Try.f36 tmps).run Try.prog W = .ok (.tuple #[.agg #[v0_0, v0_1, v0_2], u1]) W := by
  have e0_0 := cell_laid (i := 0) (v := v0_0) h0 rfl
  have e0_1 := cell_laid (i := 1) (v := v0_1) h0 rfl
  have e0_2 := cell_laid (i := 2) (v := v0_2) h0 rfl
  simp [results, Try.results36, go_sem, e0_0, e0_1, e0_2, q0, q1]
set_option maxRecDepth 100000 in
set_option maxHeartbeats 8000000 in
theorem laid_any (V : World) : Calls Try.prog 36 #[] V (fun e W => ∃ wa wc la lc, e = .returned (.tuple #[kV wa wc la lc, .bool true]) ∧ MemO V.heap.size wa wc la lc (kmem kl0) W ∧ Below V.heap.size V W) := by
  have H0 : Hid (∀ V, Calls Try.prog 59 #[.int .i64 16] V (GivesE ⟨List.replicate 16 0, List.replicate 16 false, false⟩ V)) := hid (fun V => New_any 16 V (by decide) (by decide))
  have H1 : Hid (∀ (W : World) (wa : Option Addr) (wc : Nat) (la : Option Addr) (lc : Nat), MemL W wa wc la lc ⟨List.replicate 16 0, List.replicate 16 false, false⟩ → Calls Try.prog 60 #[kV wa wc la lc, .int .i64 0, .int .i64 16] W (GivesE (kmem kl0) W)) := hid (fun W wa wc la lc h => Live_any 16 wa la wc lc W (by decide) (by decide) h)
  obtain ⟨V1, hV1, hbV1, hsV1, hlV1⟩ := laid V #[.slice none 0 0, .slice none 0 0, .bool false] 25
  obtain ⟨Z, hZ⟩ : ∃ X, V.heap.size = X := ⟨_, rfl⟩
  rw [hZ] at hlV1
  have KZ := hid hlV1
  have HB := hid hbV1
  have hVZ : V.heap.size ≤ Z := by omega
  clear hbV1 hsV1 hlV1
  go_enter Try.func36, Try.ntmps36
  have hs1 := HB.out.size
  go_wp2_with fail
  refine (H0.out V1).mono ?_
  rintro e w1_39 ⟨wa1, wc1, la1, lc1, rfl, hO, hbn⟩
  have KZ_1 := hid (keep_laid KZ.out hbn)
  have HB_2 := hid (HB.out.trans (hbn.mono HB.out.size))
  clear KZ HB hbn
  clear hZ
  rw [show memV wa1 wc1 la1 lc1 ⟨List.replicate 16 0, List.replicate 16 false, false⟩ = kV wa1 wc1 la1 lc1 from rfl]
  have HM := hid (hO.base (base' := V.heap.size) (by omega))
  clear hO
  obtain ⟨w2_49, hw2_49, hbn, hsn, hln⟩ := laid w1_39 #[.slice none 0 0, .slice none 0 0, .bool false] 25
  obtain ⟨X, hNMX⟩ : ∃ X, w1_39.heap.size = X := ⟨_, rfl⟩
  rw [hNMX] at hln
  have nZX : Z < X := by have := lt_laid KZ_1.out; omega
  have hVX : V.heap.size ≤ X := by have := HB_2.out.size; omega
  have KZ_3 := hid (keep_laid KZ_1.out hbn)
  have HB_4 := hid (HB_2.out.trans (hbn.mono HB_2.out.size))
  have HM_5 := hid (HM.out.grow hbn)
  clear KZ_1 HB_2 HM hbn hsn
  have KX_6 := hid (hln)
  clear hln
  obtain ⟨u3_60, hu3_60, a1, a2, a3, a4⟩ := put_mem KX_6.out (.slice wa1 16 wc1) (.slice la1 16 lc1) (.bool false)
  obtain ⟨z0, zf0, z1, zf1, z2, zf2⟩ := fcl3 KX_6.out
  have E4_60 := hid hu3_60
  have KZ_7 := hid (a2 Z _ (by omega) KZ_3.out)
  have HB_8 := hid (a3 _ _ (by omega) HB_4.out)
  have HM_9 := hid (a4 _ _ _ _ _ _ HM_5.out)
  have KX_10 := hid (a1)
  clear KZ_3 HB_4 HM_5 KX_6 hu3_60 a1 a2 a3 a4
  go_upto_region 2 with (fail)
  rw [← E4_60.out]
  clear z0 z1 z2 zf0 zf1 zf2 hNMX
  obtain ⟨x0, x1, x2⟩ := cells3 KX_10.out
  have hs2 := HB_8.out.size
  go_wp2_with fail
  refine (H1.out u3_60 wa1 wc1 la1 lc1 HM_9.out.memL).mono ?_
  rintro e w5_73 ⟨wa2, wc2, la2, lc2, rfl, hO, hbn⟩
  have KZ_11 := hid (keep_laid KZ_7.out hbn)
  have HB_12 := hid (HB_8.out.trans (hbn.mono HB_8.out.size))
  have KX_13 := hid (keep_laid KX_10.out hbn)
  clear KZ_7 HB_8 KX_10 hbn x0 x1 x2
  rw [show memV wa2 wc2 la2 lc2 (kmem kl0) = kV wa2 wc2 la2 lc2 from rfl]
  have HM2 := hid (hO.base (base' := V.heap.size) (by omega))
  clear hO
  obtain ⟨u6_83, hu6_83, a1, a2, a3, a4⟩ := put_mem KX_13.out (.slice wa2 16 wc2) (.slice la2 16 lc2) (.bool false)
  obtain ⟨z0, zf0, z1, zf1, z2, zf2⟩ := fcl3 KX_13.out
  have E7_83 := hid hu6_83
  have KZ_14 := hid (a2 Z _ (by omega) KZ_11.out)
  have HB_15 := hid (a3 _ _ (by omega) HB_12.out)
  have KX_16 := hid (a1)
  have HM2_17 := hid (a4 _ _ _ _ _ _ HM2.out)
  clear KZ_11 HB_12 KX_13 HM2 hu6_83 a1 a2 a3 a4
  go_upto_region 3 with (fail)
  rw [← E7_83.out]
  clear z0 z1 z2 zf0 zf1 zf2
  obtain ⟨x0, x1, x2⟩ := cells3 KX_16.out
  obtain ⟨u8_95, hu8_95, a1, a2, a3, a4⟩ := put_mem KZ_14.out (.slice wa2 16 wc2) (.slice la2 16 lc2) (.bool false)
  obtain ⟨z0, zf0, z1, zf1, z2, zf2⟩ := fcl3 KZ_14.out
  have E9_95 := hid hu8_95
  have KZ_18 := hid (a1)
  have HB_19 := hid (a3 _ _ (by omega) HB_15.out)
  have KX_20 := hid (a2 X _ (by omega) KX_16.out)
  have HM2_21 := hid (a4 _ _ _ _ _ _ HM2_17.out)
  clear KZ_14 HB_15 KX_16 HM2_17 hu8_95 a1 a2 a3 a4
  go_wp2
  rw [← E9_95.out]
  refine bodyPost_ret (laid_result KZ_18.out rfl rfl) rfl ?_
  exact ⟨_, _, _, _, rfl, HM2_21.out, HB_19.out⟩
set_option maxRecDepth 100000 in
set_option maxHeartbeats 16000000 in
theorem wakes_any (V : World) : Calls Try.prog 8 #[] V (Ret (.bool true) V) := by
  have H1 : Hid (∀ (W : World) (wa : Option Addr) (wc : Nat) (la : Option Addr) (lc : Nat), MemL W wa wc la lc (kmem kl0) → Calls Try.prog 17 #[kV wa wc la lc, .int .u64 0, .agg #[.int .u64 4, .int .u64 7, .int .u64 70, .int .u64 2]] W (GivesKl kl1 (.int .i64 6) (.int .i64 0) W)) := hid (fun W wa wc la lc h => by
    have := Insert_any (kmem kl0) wa la wc lc 0 (4, 7, 70, 2) W h kwok0 (by decide) ⟨by decide, by decide, by decide, by decide⟩
    rw [kins1] at this
    exact this.mono fun e W' ⟨wa, wc, la, lc, h1, h2, h3⟩ => ⟨wa, wc, la, lc, by rw [h1, kV_eq wa wc la lc _ rfl]; rfl, h2, h3⟩)
  have H2 : Hid (∀ (W : World) (wa : Option Addr) (wc : Nat) (la : Option Addr) (lc : Nat), MemL W wa wc la lc (kmem kl1) → Calls Try.prog 17 #[kV wa wc la lc, .int .u64 0, .agg #[.int .u64 8, .int .u64 3, .int .u64 30, .int .u64 1]] W (GivesKl kl2 (.int .i64 7) (.int .i64 0) W)) := hid (fun W wa wc la lc h => by
    have := Insert_any (kmem kl1) wa la wc lc 0 (8, 3, 30, 1) W h kwok1 (by decide) ⟨by decide, by decide, by decide, by decide⟩
    rw [kins2] at this
    exact this.mono fun e W' ⟨wa, wc, la, lc, h1, h2, h3⟩ => ⟨wa, wc, la, lc, by rw [h1, kV_eq wa wc la lc _ rfl]; rfl, h2, h3⟩)
  have H3 : Hid (∀ (W : World) (wa : Option Addr) (wc : Nat) (la : Option Addr) (lc : Nat), MemL W wa wc la lc (kmem kl2) → Calls Try.prog 14 #[kV wa wc la lc, .int .u64 0, .int .u64 2, .int .u64 7] W (Ret (.tuple #[.agg #[.int .i64 4, .int .u64 2, .int .u64 7, .int .u64 10, .int .u64 4, .int .u64 70, .bool true], .int .i64 6, .int .i64 0]) W)) := hid (fun W wa wc la lc h => by
    have := Find_any (kmem kl2) wa la wc lc 0 2 7 W h kwok2 (by decide) (by decide) (by decide)
    rw [kfind] at this
    exact this)
  have H4 : Hid (∀ (W : World) (wa : Option Addr) (wc : Nat) (la : Option Addr) (lc : Nat), MemL W wa wc la lc (kmem kl2) → Calls Try.prog 17 #[kV wa wc la lc, .int .u64 0, .agg #[.int .u64 12, .int .u64 7, .int .u64 0, .int .u64 2]] W (fun e W' => ∃ wa wc la lc, e = .returned (.tuple #[.agg #[.slice wa 0 wc, .slice la 0 lc, .bool false], .int .i64 0, .int .i64 5]) ∧ Below W.heap.size W W')) := hid (fun W wa wc la lc h => by
    have := Insert_any (kmem kl2) wa la wc lc 0 (12, 7, 0, 2) W h kwok2 (by decide) ⟨by decide, by decide, by decide, by decide⟩
    rw [kins3] at this
    exact this.mono fun e W' ⟨wa, wc, la, lc, h1, _, h3⟩ => ⟨wa, wc, la, lc, h1, h3⟩)
  have H5 : Hid (∀ (W : World) (wa : Option Addr) (wc : Nat) (la : Option Addr) (lc : Nat), MemL W wa wc la lc (kmem kl2) → Calls Try.prog 18 #[kV wa wc la lc, .int .u64 0, .int .u64 1, .int .u64 3] W (GivesKl kl3 (.int .u64 8) (.int .i64 0) W)) := hid (fun W wa wc la lc h => by
    have := Remove_any (kmem kl2) wa la wc lc 0 1 3 W h kwok2 (by decide) (by decide) (by decide)
    rw [krem] at this
    exact this.mono fun e W' ⟨wa, wc, la, lc, h1, h2, h3⟩ => ⟨wa, wc, la, lc, by rw [h1, kV_eq wa wc la lc _ rfl]; rfl, h2, h3⟩)
  have H6 : Hid (∀ (W : World) (wa : Option Addr) (wc : Nat) (la : Option Addr) (lc : Nat), MemL W wa wc la lc (kmem kl3) → Calls Try.prog 10 #[kV wa wc la lc, .int .u64 0] W (GivesNd ([(4, 7, 70, 2)], 0) W)) := hid (fun W wa wc la lc h => by
    have := Nodes_any (kmem kl3) wa la wc lc 0 W h (by decide) kwok3
    rw [knodes] at this
    exact this)
  have heq := nd_eq 4 7 70 2 4 7 70 2 (by decide) (by decide)
  rw [decide_eq_true rfl] at heq
  go_enter Try.func8, Try.ntmps8
  go_wp2_with fail
  refine (laid_any V).mono ?_
  rintro e w1 ⟨wa1, wc1, la1, lc1, rfl, hO, hbn⟩
  have HB := hid hbn
  have HM := hid hO
  clear hbn hO
  obtain ⟨w1_143, hw1_143, hbn, hsn, hln⟩ := laid w1 #[.slice none 0 0, .slice none 0 0, .bool false] 25
  obtain ⟨X, hNMX⟩ : ∃ X, w1.heap.size = X := ⟨_, rfl⟩
  rw [hNMX] at hln
  have hVX : V.heap.size ≤ X := by have := HB.out.size; omega
  have HB_1 := hid (HB.out.trans (hbn.mono HB.out.size))
  have HM_2 := hid (HM.out.grow hbn)
  clear HB HM hbn hsn
  have KX_3 := hid (hln)
  clear hln
  obtain ⟨u2_152, hu2_152, a1, a2, a3, a4⟩ := put_mem KX_3.out (.slice wa1 16 wc1) (.slice la1 16 lc1) (.bool false)
  obtain ⟨z0, zf0, z1, zf1, z2, zf2⟩ := fcl3 KX_3.out
  have E3_152 := hid hu2_152
  have HB_4 := hid (a3 _ _ (by omega) HB_1.out)
  have HM_5 := hid (a4 _ _ _ _ _ _ HM_2.out)
  have KX_6 := hid (a1)
  clear HB_1 HM_2 KX_3 hu2_152 a1 a2 a3 a4
  go_upto_region 2 with (fail)
  rw [← E3_152.out]
  clear z0 z1 z2 zf0 zf1 zf2 hNMX
  obtain ⟨x0, x1, x2⟩ := cells3 KX_6.out
  have hs2 := HB_4.out.size
  go_wp2_with fail
  refine (H1.out u2_152 wa1 wc1 la1 lc1 HM_5.out.memL).mono ?_
  rintro e w4_164 ⟨wa2, wc2, la2, lc2, rfl, hO, hbn⟩
  have HB_7 := hid (HB_4.out.trans (hbn.mono HB_4.out.size))
  have KX_8 := hid (keep_laid KX_6.out hbn)
  clear HB_4 KX_6 hbn x0 x1 x2
  have HM_2x := hid (hO.base (base' := V.heap.size) (by omega))
  clear hO
  obtain ⟨u5_172, hu5_172, a1, a2, a3, a4⟩ := put_mem KX_8.out (.slice wa2 16 wc2) (.slice la2 16 lc2) (.bool false)
  obtain ⟨z0, zf0, z1, zf1, z2, zf2⟩ := fcl3 KX_8.out
  have E6_172 := hid hu5_172
  have HB_9 := hid (a3 _ _ (by omega) HB_7.out)
  have KX_10 := hid (a1)
  have HM_11 := hid (a4 _ _ _ _ _ _ HM_2x.out)
  clear HB_7 KX_8 HM_2x hu5_172 a1 a2 a3 a4
  go_upto_region 3 with (fail)
  rw [← E6_172.out]
  clear z0 z1 z2 zf0 zf1 zf2
  obtain ⟨x0, x1, x2⟩ := cells3 KX_10.out
  have hs3 := HB_9.out.size
  go_wp2_with fail
  refine (H2.out u5_172 wa2 wc2 la2 lc2 HM_11.out.memL).mono ?_
  rintro e w7_184 ⟨wa3, wc3, la3, lc3, rfl, hO, hbn⟩
  have HB_12 := hid (HB_9.out.trans (hbn.mono HB_9.out.size))
  have KX_13 := hid (keep_laid KX_10.out hbn)
  clear HB_9 KX_10 hbn x0 x1 x2
  have HM_3x := hid (hO.base (base' := V.heap.size) (by omega))
  clear hO
  obtain ⟨u8_192, hu8_192, a1, a2, a3, a4⟩ := put_mem KX_13.out (.slice wa3 16 wc3) (.slice la3 16 lc3) (.bool false)
  obtain ⟨z0, zf0, z1, zf1, z2, zf2⟩ := fcl3 KX_13.out
  have E9_192 := hid hu8_192
  have HB_14 := hid (a3 _ _ (by omega) HB_12.out)
  have KX_15 := hid (a1)
  have HM_16 := hid (a4 _ _ _ _ _ _ HM_3x.out)
  clear HB_12 KX_13 HM_3x hu8_192 a1 a2 a3 a4
  go_upto_region 4 with (fail)
  rw [← E9_192.out]
  clear z0 z1 z2 zf0 zf1 zf2
  obtain ⟨x0, x1, x2⟩ := cells3 KX_15.out
  go_wp2_with fail
  refine (H3.out u8_192 wa3 wc3 la3 lc3 HM_16.out.memL).mono ?_
  rintro e w10_203 ⟨rfl, hbn⟩
  have HB_17 := hid (HB_14.out.trans (hbn.mono HB_14.out.size))
  have KX_18 := hid (keep_laid KX_15.out hbn)
  have HM_19 := hid (HM_16.out.grow hbn)
  clear HB_14 KX_15 HM_16 hbn x0 x1 x2
  obtain ⟨w11_210, hw11_210, hbn, hsn, hln⟩ := laid w10_203 #[.int .i64 0, .int .u64 0, .int .u64 0, .int .u64 0, .int .u64 0, .int .u64 0, .bool false] 40
  obtain ⟨S, hNMS⟩ : ∃ X, w10_203.heap.size = X := ⟨_, rfl⟩
  rw [hNMS] at hln
  have nXS : X < S := by have := lt_laid KX_18.out; omega
  have hVS : V.heap.size ≤ S := by have := HB_17.out.size; omega
  have HB_20 := hid (HB_17.out.trans (hbn.mono HB_17.out.size))
  have KX_21 := hid (keep_laid KX_18.out hbn)
  have HM_22 := hid (HM_19.out.grow hbn)
  clear HB_17 KX_18 HM_19 hbn hsn
  have KS_23 := hid (hln)
  clear hln
  obtain ⟨u12_221, hu12_221, a1, a2, a3, a4, a5⟩ := putM7 KS_23.out (.int .i64 4) (.int .u64 2) (.int .u64 7) (.int .u64 10) (.int .u64 4) (.int .u64 70) (.bool true)
  obtain ⟨z0, zf0, z1, zf1, z2, zf2, z3, zf3, z4, zf4, z5, zf5, z6, zf6⟩ := fcl7 KS_23.out
  have E13_221 := hid hu12_221
  have HB_24 := hid (a3 _ _ (by omega) HB_20.out)
  have KX_25 := hid (a2 X _ (by omega) KX_21.out)
  have HM_26 := hid (a4 _ _ _ _ _ _ (by decide) (by decide) HM_22.out)
  have KS_27 := hid (a1)
  clear HB_20 KX_21 HM_22 KS_23 hu12_221 a1 a2 a3 a4 a5
  go_upto_region 5 with (fail)
  rw [← E13_221.out]
  clear z0 z1 z2 z3 z4 z5 z6 zf0 zf1 zf2 zf3 zf4 zf5 zf6 hNMS
  obtain ⟨x0, x1, x2⟩ := cells3 KX_25.out
  go_wp2_with fail
  refine (H4.out u12_221 wa3 wc3 la3 lc3 HM_26.out.memL).mono ?_
  rintro e w14_233 ⟨waz, wcz, laz, lcz, rfl, hbn⟩
  have HB_28 := hid (HB_24.out.trans (hbn.mono HB_24.out.size))
  have KX_29 := hid (keep_laid KX_25.out hbn)
  have HM_30 := hid (HM_26.out.grow hbn)
  have KS_31 := hid (keep_laid KS_27.out hbn)
  clear HB_24 KX_25 HM_26 KS_27 hbn x0 x1 x2
  obtain ⟨w15_241, hw15_241, hbn, hsn, hln⟩ := laid w14_233 #[.slice none 0 0, .slice none 0 0, .bool false] 25
  obtain ⟨Y, hNMY⟩ : ∃ X, w14_233.heap.size = X := ⟨_, rfl⟩
  rw [hNMY] at hln
  have nXY : X < Y := by have := lt_laid KX_29.out; omega
  have nSY : S < Y := by have := lt_laid KS_31.out; omega
  have hVY : V.heap.size ≤ Y := by have := HB_28.out.size; omega
  have HB_32 := hid (HB_28.out.trans (hbn.mono HB_28.out.size))
  have KX_33 := hid (keep_laid KX_29.out hbn)
  have HM_34 := hid (HM_30.out.grow hbn)
  have KS_35 := hid (keep_laid KS_31.out hbn)
  clear HB_28 KX_29 HM_30 KS_31 hbn hsn
  have KY_36 := hid (hln)
  clear hln
  obtain ⟨u16_254, hu16_254, a1, a2, a3, a4⟩ := put_mem KY_36.out (.slice waz 0 wcz) (.slice laz 0 lcz) (.bool false)
  obtain ⟨z0, zf0, z1, zf1, z2, zf2⟩ := fcl3 KY_36.out
  have E17_254 := hid hu16_254
  have HB_37 := hid (a3 _ _ (by omega) HB_32.out)
  have KX_38 := hid (a2 X _ (by omega) KX_33.out)
  have HM_39 := hid (a4 _ _ _ _ _ _ HM_34.out)
  have KS_40 := hid (a2 S _ (by omega) KS_35.out)
  have KY_41 := hid (a1)
  clear HB_32 KX_33 HM_34 KS_35 KY_36 hu16_254 a1 a2 a3 a4
  go_upto_region 6 with (fail)
  rw [← E17_254.out]
  clear z0 z1 z2 zf0 zf1 zf2 hNMY
  obtain ⟨x0, x1, x2⟩ := cells3 KX_38.out
  have hs4 := HB_37.out.size
  go_wp2_with fail
  refine (H5.out u16_254 wa3 wc3 la3 lc3 HM_39.out.memL).mono ?_
  rintro e w18_268 ⟨wa4, wc4, la4, lc4, rfl, hO, hbn⟩
  have HB_42 := hid (HB_37.out.trans (hbn.mono HB_37.out.size))
  have KX_43 := hid (keep_laid KX_38.out hbn)
  have KS_44 := hid (keep_laid KS_40.out hbn)
  have KY_45 := hid (keep_laid KY_41.out hbn)
  clear HB_37 KX_38 KS_40 KY_41 hbn x0 x1 x2
  have HM_4x := hid (hO.base (base' := V.heap.size) (by omega))
  clear hO
  obtain ⟨u19_278, hu19_278, a1, a2, a3, a4⟩ := put_mem KX_43.out (.slice wa4 16 wc4) (.slice la4 16 lc4) (.bool false)
  obtain ⟨z0, zf0, z1, zf1, z2, zf2⟩ := fcl3 KX_43.out
  have E20_278 := hid hu19_278
  have HB_46 := hid (a3 _ _ (by omega) HB_42.out)
  have KX_47 := hid (a1)
  have KS_48 := hid (a2 S _ (by omega) KS_44.out)
  have KY_49 := hid (a2 Y _ (by omega) KY_45.out)
  have HM_50 := hid (a4 _ _ _ _ _ _ HM_4x.out)
  clear HB_42 KX_43 KS_44 KY_45 HM_4x hu19_278 a1 a2 a3 a4
  go_upto_region 7 with (fail)
  rw [← E20_278.out]
  clear z0 z1 z2 zf0 zf1 zf2
  obtain ⟨x0, x1, x2⟩ := cells3 KX_47.out
  go_wp2_with fail
  refine (H6.out u19_278 wa4 wc4 la4 lc4 HM_50.out.memL).mono ?_
  rintro e w21_291 ⟨v, rfl, hrow, hbn⟩
  have HB_51 := hid (HB_46.out.trans (hbn.mono HB_46.out.size))
  have KX_52 := hid (keep_laid KX_47.out hbn)
  have KS_53 := hid (keep_laid KS_48.out hbn)
  have KY_54 := hid (keep_laid KY_49.out hbn)
  have HM_55 := hid (HM_50.out.grow hbn)
  clear HB_46 KX_47 KS_48 KY_49 HM_50 hbn x0 x1 x2
  obtain ⟨va, vc, rfl, hlv⟩ := Leads.of_own hrow
  have hvl := hlv.len
  obtain ⟨b, off, rfl, -, hcc⟩ := hlv.nd (k := 0) (x := (4, 7, 70, 2)) (by decide) rfl
  obtain ⟨c0, c1, c2, c3⟩ := hcc _ (Below.refl _ _)
  obtain ⟨s0, s1, s2, s3, s4, s5, s6⟩ := ncl7 KS_53.out
  rw [Nat.zero_mul, Nat.add_zero] at c0 c1 c2 c3
  clear hrow hlv hcc
  go_wp2
  go_ret
  exact ⟨rfl, HB_51.out⟩
end Go.Proofs.Ytdkkjcflcegeoaa
