/- Processes: Spawn, Exit, Wait (printed by gen_pr10.py). -/
import Derived.Test.YtmnbkhmphhgdiaaDoorPr9
import Derived.Test.YtmnbkhmphhgdiaaDoorPrTrSpawn
import Derived.Test.YtmnbkhmphhgdiaaDoorPrTrExit
import Derived.Test.YtmnbkhmphhgdiaaDoorPrTrWait
namespace Go.Proofs.YtmnbkhmphhgdiaaDoor
open Go.RowKit Go.Shelf
open Go.Proofs
set_option linter.unusedVariables false
attribute [local go_sem] Oper.semAt_some
theorem spawn_result {W : World} {b4 : Nat} {v4_0 v4_1 v4_2 v4_3 v4_4 v4_5 v4_6 v4_7 v4_8 v4_9 v4_10 v4_11 v4_12 v4_13 v4_14 v4_15 v4_16 u5 u6 : Value} {tmps : Array Value} (h4 : W.heap[b4]? = some (.cells #[v4_0, v4_1, v4_2, v4_3, v4_4, v4_5, v4_6, v4_7, v4_8, v4_9, v4_10, v4_11, v4_12, v4_13, v4_14, v4_15, v4_16] 25 (0, 0))) (q4 : tmps[4]?.getD undef = .pointer (some ⟨b4, 0, none⟩)) (q5 : tmps[5]?.getD undef = u5) (q6 : tmps[6]?.getD undef = u6) :
    (results Tryd.f10 tmps).run Tryd.prog W = .ok (.tuple #[.agg #[v4_0, v4_1, v4_2, v4_3, v4_4, v4_5, v4_6, v4_7, v4_8, v4_9, v4_10, v4_11, v4_12, v4_13, v4_14, v4_15, v4_16], u5, u6]) W := by
  have e4_0 := cell_laid (i := 0) (v := v4_0) h4 rfl
  have e4_1 := cell_laid (i := 1) (v := v4_1) h4 rfl
  have e4_2 := cell_laid (i := 2) (v := v4_2) h4 rfl
  have e4_3 := cell_laid (i := 3) (v := v4_3) h4 rfl
  have e4_4 := cell_laid (i := 4) (v := v4_4) h4 rfl
  have e4_5 := cell_laid (i := 5) (v := v4_5) h4 rfl
  have e4_6 := cell_laid (i := 6) (v := v4_6) h4 rfl
  have e4_7 := cell_laid (i := 7) (v := v4_7) h4 rfl
  have e4_8 := cell_laid (i := 8) (v := v4_8) h4 rfl
  have e4_9 := cell_laid (i := 9) (v := v4_9) h4 rfl
  have e4_10 := cell_laid (i := 10) (v := v4_10) h4 rfl
  have e4_11 := cell_laid (i := 11) (v := v4_11) h4 rfl
  have e4_12 := cell_laid (i := 12) (v := v4_12) h4 rfl
  have e4_13 := cell_laid (i := 13) (v := v4_13) h4 rfl
  have e4_14 := cell_laid (i := 14) (v := v4_14) h4 rfl
  have e4_15 := cell_laid (i := 15) (v := v4_15) h4 rfl
  have e4_16 := cell_laid (i := 16) (v := v4_16) h4 rfl
  simp [results, Tryd.results10, go_sem, e4_0, e4_1, e4_2, e4_3, e4_4, e4_5, e4_6, e4_7, e4_8, e4_9, e4_10, e4_11, e4_12, e4_13, e4_14, e4_15, e4_16, q4, q5, q6]
theorem exit_result {W : World} {b6 : Nat} {v6_0 v6_1 v6_2 v6_3 v6_4 v6_5 v6_6 v6_7 v6_8 v6_9 v6_10 v6_11 v6_12 v6_13 v6_14 v6_15 v6_16 u7 : Value} {tmps : Array Value} (h6 : W.heap[b6]? = some (.cells #[v6_0, v6_1, v6_2, v6_3, v6_4, v6_5, v6_6, v6_7, v6_8, v6_9, v6_10, v6_11, v6_12, v6_13, v6_14, v6_15, v6_16] 25 (0, 0))) (q6 : tmps[6]?.getD undef = .pointer (some ⟨b6, 0, none⟩)) (q7 : tmps[7]?.getD undef = u7) :
    (results Tryd.f12 tmps).run Tryd.prog W = .ok (.tuple #[.agg #[v6_0, v6_1, v6_2, v6_3, v6_4, v6_5, v6_6, v6_7, v6_8, v6_9, v6_10, v6_11, v6_12, v6_13, v6_14, v6_15, v6_16], u7]) W := by
  have e6_0 := cell_laid (i := 0) (v := v6_0) h6 rfl
  have e6_1 := cell_laid (i := 1) (v := v6_1) h6 rfl
  have e6_2 := cell_laid (i := 2) (v := v6_2) h6 rfl
  have e6_3 := cell_laid (i := 3) (v := v6_3) h6 rfl
  have e6_4 := cell_laid (i := 4) (v := v6_4) h6 rfl
  have e6_5 := cell_laid (i := 5) (v := v6_5) h6 rfl
  have e6_6 := cell_laid (i := 6) (v := v6_6) h6 rfl
  have e6_7 := cell_laid (i := 7) (v := v6_7) h6 rfl
  have e6_8 := cell_laid (i := 8) (v := v6_8) h6 rfl
  have e6_9 := cell_laid (i := 9) (v := v6_9) h6 rfl
  have e6_10 := cell_laid (i := 10) (v := v6_10) h6 rfl
  have e6_11 := cell_laid (i := 11) (v := v6_11) h6 rfl
  have e6_12 := cell_laid (i := 12) (v := v6_12) h6 rfl
  have e6_13 := cell_laid (i := 13) (v := v6_13) h6 rfl
  have e6_14 := cell_laid (i := 14) (v := v6_14) h6 rfl
  have e6_15 := cell_laid (i := 15) (v := v6_15) h6 rfl
  have e6_16 := cell_laid (i := 16) (v := v6_16) h6 rfl
  simp [results, Tryd.results12, go_sem, e6_0, e6_1, e6_2, e6_3, e6_4, e6_5, e6_6, e6_7, e6_8, e6_9, e6_10, e6_11, e6_12, e6_13, e6_14, e6_15, e6_16, q6, q7]
theorem wait_result {W : World} {b6 : Nat} {v6_0 v6_1 v6_2 v6_3 v6_4 v6_5 v6_6 v6_7 v6_8 v6_9 v6_10 v6_11 v6_12 v6_13 v6_14 v6_15 v6_16 u7 u8 : Value} {tmps : Array Value} (h6 : W.heap[b6]? = some (.cells #[v6_0, v6_1, v6_2, v6_3, v6_4, v6_5, v6_6, v6_7, v6_8, v6_9, v6_10, v6_11, v6_12, v6_13, v6_14, v6_15, v6_16] 25 (0, 0))) (q6 : tmps[6]?.getD undef = .pointer (some ⟨b6, 0, none⟩)) (q7 : tmps[7]?.getD undef = u7) (q8 : tmps[8]?.getD undef = u8) :
    (results Tryd.f14 tmps).run Tryd.prog W = .ok (.tuple #[.agg #[v6_0, v6_1, v6_2, v6_3, v6_4, v6_5, v6_6, v6_7, v6_8, v6_9, v6_10, v6_11, v6_12, v6_13, v6_14, v6_15, v6_16], u7, u8]) W := by
  have e6_0 := cell_laid (i := 0) (v := v6_0) h6 rfl
  have e6_1 := cell_laid (i := 1) (v := v6_1) h6 rfl
  have e6_2 := cell_laid (i := 2) (v := v6_2) h6 rfl
  have e6_3 := cell_laid (i := 3) (v := v6_3) h6 rfl
  have e6_4 := cell_laid (i := 4) (v := v6_4) h6 rfl
  have e6_5 := cell_laid (i := 5) (v := v6_5) h6 rfl
  have e6_6 := cell_laid (i := 6) (v := v6_6) h6 rfl
  have e6_7 := cell_laid (i := 7) (v := v6_7) h6 rfl
  have e6_8 := cell_laid (i := 8) (v := v6_8) h6 rfl
  have e6_9 := cell_laid (i := 9) (v := v6_9) h6 rfl
  have e6_10 := cell_laid (i := 10) (v := v6_10) h6 rfl
  have e6_11 := cell_laid (i := 11) (v := v6_11) h6 rfl
  have e6_12 := cell_laid (i := 12) (v := v6_12) h6 rfl
  have e6_13 := cell_laid (i := 13) (v := v6_13) h6 rfl
  have e6_14 := cell_laid (i := 14) (v := v6_14) h6 rfl
  have e6_15 := cell_laid (i := 15) (v := v6_15) h6 rfl
  have e6_16 := cell_laid (i := 16) (v := v6_16) h6 rfl
  simp [results, Tryd.results14, go_sem, e6_0, e6_1, e6_2, e6_3, e6_4, e6_5, e6_6, e6_7, e6_8, e6_9, e6_10, e6_11, e6_12, e6_13, e6_14, e6_15, e6_16, q6, q7, q8]
def Gives3 (V : World) (res : Res) (e : Ending) (W : World) : Prop := Below V.heap.size V W ∧ match res with
  | .error code => e = .returned (.tuple #[.agg #[.int .i64 0, .int .i64 0, .int .i64 0, .int .i64 0, .int .i64 0, .int .i64 0, .int .i64 0, .int .i64 0, .int .i64 0, .int .i64 0, .int .i64 0, .int .i64 0, .int .i64 0, .int .i64 0, .int .i64 0, .int .i64 0, .slice none 0 0], .int .u64 0, .int .i64 ((code : Nat) : Int)])
  | .ok (G', L', m) => ∃ a' c', e = .returned (.tuple #[.agg #[.int .i64 (G' 0), .int .i64 (G' 1), .int .i64 (G' 2), .int .i64 (G' 3), .int .i64 (G' 4), .int .i64 (G' 5), .int .i64 (G' 6), .int .i64 (G' 7), .int .i64 (G' 8), .int .i64 (G' 9), .int .i64 (G' 10), .int .i64 (G' 11), .int .i64 (G' 12), .int .i64 (G' 13), .int .i64 (G' 14), .int .i64 (G' 15), .slice a' L'.length c'], .int .u64 ((m : Nat) : Int), .int .i64 0]) ∧ W.ownsRow V.heap.size 45 4 (.slice a' L'.length c') L'.length (prcells L')
def okRes (G : Nat → Int) (L : List Pr) (res : Res) : Res := if okP G L = true then res else .error 320
def Gives2 (V : World) (res : Res) (e : Ending) (W : World) : Prop := Below V.heap.size V W ∧ match res with
  | .error code => e = .returned (.tuple #[.agg #[.int .i64 0, .int .i64 0, .int .i64 0, .int .i64 0, .int .i64 0, .int .i64 0, .int .i64 0, .int .i64 0, .int .i64 0, .int .i64 0, .int .i64 0, .int .i64 0, .int .i64 0, .int .i64 0, .int .i64 0, .int .i64 0, .slice none 0 0], .int .i64 ((code : Nat) : Int)])
  | .ok (G', L', m) => ∃ a' c', e = .returned (.tuple #[.agg #[.int .i64 (G' 0), .int .i64 (G' 1), .int .i64 (G' 2), .int .i64 (G' 3), .int .i64 (G' 4), .int .i64 (G' 5), .int .i64 (G' 6), .int .i64 (G' 7), .int .i64 (G' 8), .int .i64 (G' 9), .int .i64 (G' 10), .int .i64 (G' 11), .int .i64 (G' 12), .int .i64 (G' 13), .int .i64 (G' 14), .int .i64 (G' 15), .slice a' L'.length c'], .int .i64 0]) ∧ W.ownsRow V.heap.size 45 4 (.slice a' L'.length c') L'.length (prcells L')
set_option maxRecDepth 100000 in
set_option maxHeartbeats 16000000 in
theorem Spawn_any (n c parent : Nat) (a : Option Addr) (G : Nat → Int) (L : List Pr) (V : World) (hg : Glob V) (hl : Leads V a n c (prcells L)) (hn : L.length = n) (hn5 : n ≤ 999) (hG : GOk G) (hL : PrsOk L) (hparent : parent < 18446744073709551616) :
    Calls Tryd.prog 10 #[.agg #[.int .i64 (G 0), .int .i64 (G 1), .int .i64 (G 2), .int .i64 (G 3), .int .i64 (G 4), .int .i64 (G 5), .int .i64 (G 6), .int .i64 (G 7), .int .i64 (G 8), .int .i64 (G 9), .int .i64 (G 10), .int .i64 (G 11), .int .i64 (G 12), .int .i64 (G 13), .int .i64 (G 14), .int .i64 (G 15), .slice a n c], .int .u64 ((parent : Nat) : Int)] V (Gives3 V (okRes G L (spawnP G L parent))) := by
  obtain ⟨V1, hV1, hbV1, hsV1, hlV1⟩ := laid V #[.int .i64 (G 0), .int .i64 (G 1), .int .i64 (G 2), .int .i64 (G 3), .int .i64 (G 4), .int .i64 (G 5), .int .i64 (G 6), .int .i64 (G 7), .int .i64 (G 8), .int .i64 (G 9), .int .i64 (G 10), .int .i64 (G 11), .int .i64 (G 12), .int .i64 (G 13), .int .i64 (G 14), .int .i64 (G 15), .slice a n c] 25
  obtain ⟨V2, hV2, hbV2, hsV2, hlV2⟩ := laid V1 #[.int .u64 ((parent : Nat) : Int)] 29
  obtain ⟨V3, hV3, hbV3, hsV3, hlV3⟩ := laid V2 #[.int .i64 0, .int .i64 0, .int .i64 0, .int .i64 0, .int .i64 0, .int .i64 0, .int .i64 0, .int .i64 0, .int .i64 0, .int .i64 0, .int .i64 0, .int .i64 0, .int .i64 0, .int .i64 0, .int .i64 0, .int .i64 0, .slice none 0 0] 25
  obtain ⟨V4, hV4, hbV4, hsV4, hlV4⟩ := laid V3 #[.int .u64 0] 29
  obtain ⟨X2, hX2⟩ : ∃ X, V.heap.size = X := ⟨_, rfl⟩
  rw [hX2] at hlV1
  obtain ⟨Y0, hY0⟩ : ∃ X, V1.heap.size = X := ⟨_, rfl⟩
  rw [hY0] at hlV2
  obtain ⟨X4, hX4⟩ : ∃ X, V2.heap.size = X := ⟨_, rfl⟩
  rw [hX4] at hlV3
  obtain ⟨X7, hX7⟩ : ∃ X, V3.heap.size = X := ⟨_, rfl⟩
  rw [hX7] at hlV4
  have KX2 := hid (keep_laid (keep_laid (keep_laid hlV1 hbV2) hbV3) hbV4)
  have KY0 := hid (keep_laid (keep_laid hlV2 hbV3) hbV4)
  have KX4 := hid (keep_laid hlV3 hbV4)
  have KX7 := hid hlV4
  have HB := hid (step (step (step hbV1 hbV2) hbV3) hbV4)
  have hVX2 : V.heap.size ≤ X2 := by omega
  have hVY0 : V.heap.size ≤ Y0 := by omega
  have nX2Y0 : X2 < Y0 := by omega
  have hVX4 : V.heap.size ≤ X4 := by omega
  have nX2X4 : X2 < X4 := by omega
  have nY0X4 : Y0 < X4 := by omega
  have hVX7 : V.heap.size ≤ X7 := by omega
  have nX2X7 : X2 < X7 := by omega
  have nY0X7 : Y0 < X7 := by omega
  have nX4X7 : X4 < X7 := by omega
  clear hbV1 hsV1 hlV1 hbV2 hsV2 hlV2 hbV3 hsV3 hlV3 hbV4 hsV4 hlV4
  have HL := hid hl
  have HN := hid hn
  have hlen := hl.len
  have HGG := hid hG
  have HPL := hid hL
  have HGL := hid hg
  have hmf : ∀ (fn : Fn) (first cap : Array Value) (w : World), (Instr.makeFunc fn first cap).run Tryd.prog w = .ok (.func fn first cap) w := fun _ _ _ _ => rfl
  obtain ⟨RES, hRES⟩ : ∃ r, okRes G L (spawnP G L parent) = r := ⟨_, rfl⟩
  rw [hRES]
  have HRES := hid hRES
  clear hg hl hn hG hL hRES
  go_enter Tryd.func10, Tryd.ntmps10
  have KX7_o := KX7.out
  obtain ⟨u1_113, hu1_113, a1, a2, a3, a4⟩ := putN1 KX7.out (.int .u64 0)
  obtain ⟨z0, zf0⟩ := fcl1 (KX7.out)
  have E2_113 := hid hu1_113
  have KX2_1 := hid (a2 X2 _ (by omega) KX2.out)
  have KY0_2 := hid (a2 Y0 _ (by omega) KY0.out)
  have KX4_3 := hid (a2 X4 _ (by omega) KX4.out)
  have KX7_4 := hid (a1)
  have HB_5 := hid (a3 _ _ (by omega) HB.out)
  clear KX2 KY0 KX4 KX7 HB hu1_113 a1 a2 a3 a4
  clear KX7_o
  go_upto_region 2 with (fail)
  rw [← E2_113.out]
  clear z0 zf0
  clear hX2 hY0 hX4 hX7 hV1 hV2 hV3 hV4
  have HTR := hid (TriesSpawn n c Y0 X7 a G L u1_113 (some X7) (spawnP G L parent) (HGL.out.grow HB_5.out) (HL.out.grow HB_5.out) HN.out (by omega) HGG.out HPL.out (fun b hb => by cases hb; exact KX7_4.out) (fun b hb => by cases hb; exact lt_laid KX7_4.out) (fun hok T va vc W hW hT hTc hown => SpawnDoes T n vc _ Y0 X7 parent va G L W hTc hown HN.out hn5 ((okP_iff G L).1 hok) HPL.out hW.size hparent (keep_laid KY0_2.out hW) (keep_laid KX7_4.out hW) (by omega)))
  rw [show (if okP G L = true then (spawnP G L parent) else Except.error 320) = RES from HRES.out] at HTR
  go_wp2_with (refine wp_loadW rfl 25 (.tmp 2) rfl X2 _ rfl _ KX2_1.out _ Tryd.underlying25 rfl (by kernel_rfl) ?_; intro v hv; subst hv)
  refine HTR.out.mono ?_
  rintro e w9 ⟨hg9, h9⟩
  have KX4b := hid (keep_grown KX4_3.out hg9 (by simp; omega))
  have HBb := hid (HB_5.out.grown hg9 HB_5.out.size (fun k e => by cases e; omega))
  have hwV : V.heap.size ≤ u1_113.heap.size := HB_5.out.size
  clear hg9 HTR
  cases RES with
  | error code =>
    as_aux_lemma =>
      obtain ⟨rfl, hbx⟩ := h9
      have KX7b := hid (hbx X7 rfl)
      clear hbx
      obtain ⟨w3_142, hw3_142, hbn, hsn, hln⟩ := laid w9 #[.int .i64 0, .int .i64 0, .int .i64 0, .int .i64 0, .int .i64 0, .int .i64 0, .int .i64 0, .int .i64 0, .int .i64 0, .int .i64 0, .int .i64 0, .int .i64 0, .int .i64 0, .int .i64 0, .int .i64 0, .int .i64 0, .slice none 0 0] 25
      obtain ⟨X8, hNMX8⟩ : ∃ X, w9.heap.size = X := ⟨_, rfl⟩
      rw [hNMX8] at hln
      have nX4X8 : X4 < X8 := by have := lt_laid KX4b.out; omega
      have nX7X8 : X7 < X8 := by have := lt_laid KX7b.out; omega
      have hVX8 : V.heap.size ≤ X8 := by have := HBb.out.size; omega
      have KX4b_6 := hid (keep_laid KX4b.out hbn)
      have HBb_7 := hid (HBb.out.trans (hbn.mono HBb.out.size))
      have KX7b_8 := hid (keep_laid KX7b.out hbn)
      clear KX4b HBb KX7b hbn hsn
      have KX8_9 := hid (hln)
      clear hln
      go_upto_region 3 with (refine wp_storeW rfl 25 (.tmp 8) (.tmp 14) rfl X8 _ _ rfl rfl _ KX8_9.out (by kernel_rfl) (by rfl) (by simp [Value.oneCell']) ?_; intro u8 a1 a2 a3 a4; have HA1 := hid a1; have HA2 := hid a2; have HA3 := hid a3; clear a1 a2 a3 a4)
      have KX8o := KX8_9
      have KX4b_10 := hid (HA2.out X4 _ (by omega) KX4b_6.out)
      have HBb_11 := hid (HA3.out _ _ (by omega) HBb_7.out)
      have KX7b_12 := hid (HA2.out X7 _ (by omega) KX7b_8.out)
      have KX8_13 := hid (HA1.out)
      clear HA1 HA2 HA3 KX8o KX4b_6 HBb_7 KX7b_8 KX8_9 hNMX8 hw3_142
      obtain ⟨D, hD⟩ : ∃ DX, World.drew u8 = DX := ⟨_, rfl⟩
      have hbD : Below u8.heap.size u8 D := by rw [← hD]; exact (Below.refl _ _).drew
      have HD := hid hD
      clear hD
      have KX4b_14 := hid (keep_laid KX4b_10.out hbD)
      have HBb_15 := hid (HBb_11.out.trans (hbD.mono HBb_11.out.size))
      have KX7b_16 := hid (keep_laid KX7b_12.out hbD)
      have KX8_17 := hid (keep_laid KX8_13.out hbD)
      clear KX4b_10 HBb_11 KX7b_12 KX8_13 hbD
      haveI : Nonempty (Two X8 X7 #[.int .i64 0, .int .i64 0, .int .i64 0, .int .i64 0, .int .i64 0, .int .i64 0, .int .i64 0, .int .i64 0, .int .i64 0, .int .i64 0, .int .i64 0, .int .i64 0, .int .i64 0, .int .i64 0, .int .i64 0, .int .i64 0, .slice none 0 0] #[.int .u64 0] 25 29) := ⟨⟨D, KX8_17.out, KX7b_16.out⟩⟩
      have q0 : ∀ z : Two X8 X7 #[.int .i64 0, .int .i64 0, .int .i64 0, .int .i64 0, .int .i64 0, .int .i64 0, .int .i64 0, .int .i64 0, .int .i64 0, .int .i64 0, .int .i64 0, .int .i64 0, .int .i64 0, .int .i64 0, .int .i64 0, .int .i64 0, .slice none 0 0] #[.int .u64 0] 25 29, z.w.cell? ⟨X7, 0, none⟩ = some (.int .u64 0) := fun z => cell_laid z.by_ rfl
      refine wp_region_mix3 (fun W => ∃ z : Two X8 X7 #[.int .i64 0, .int .i64 0, .int .i64 0, .int .i64 0, .int .i64 0, .int .i64 0, .int .i64 0, .int .i64 0, .int .i64 0, .int .i64 0, .int .i64 0, .int .i64 0, .int .i64 0, .int .i64 0, .int .i64 0, .int .i64 0, .slice none 0 0] #[.int .u64 0] 25 29, W = z.w) 6 (.q 0 (.q 1 (.q 2 (.h 3 (.q 4 (.q 5 .done)))))) (by kernel_rfl) (by kernel_rfl) (by rw [HD.out]; exact ⟨⟨D, KX8_17.out, KX7b_16.out⟩, rfl⟩) ?_
      rw [HD.out]
      refine wpMix3_q rfl rfl ?_
      refine wpQuiet_loadW rfl 25 (.tmp 8) rfl X8 _ rfl _ (by rintro w ⟨z, rfl⟩; exact z.bx) _ Tryd.underlying25 rfl (by kernel_rfl) ?_
      intro v hv
      subst hv
      refine wpQuiet_nil ?_
      simp only [Act.put, List.setIfInBounds_toArray, List.set_cons_succ, List.set_cons_zero]
      repeat (refine wpMix3_q rfl rfl ?_; go_big_quiet_step (fail); refine wpQuiet_nil ?_)
      refine wpMix3_h rfl fun R' hR' hO => ?_
      go_wp2_with (refine wp_storeW rfl 25 (.tmp 4) (.tmp 16) rfl X4 _ _ rfl rfl _ KX4b_14.out (by kernel_rfl) (by rfl) (by simp [Value.oneCell']) ?_; intro u9 a1 a2 a3 a4; have HA1 := hid a1; have HA2 := hid a2; have HA3 := hid a3; clear a1 a2 a3 a4)
      have KX4o := KX4b_14
      have KX4b_18 := hid (HA1.out)
      have HBb_19 := hid (HA3.out _ _ (by omega) HBb_15.out)
      have KX7b_20 := hid (HA2.out X7 _ (by omega) KX7b_16.out)
      have KX8_21 := hid (HA2.out X8 _ (by omega) KX8_17.out)
      refine hR' _ _ ⟨⟨u9, KX8_21.out, KX7b_20.out⟩, rfl⟩ ?_
      clear hR' hO R'
      repeat (refine wpMix3_q rfl rfl ?_; go_big_quiet_step (fail); refine wpQuiet_nil ?_)
      refine wpMix3_done ?_
      simp only [List.drop_succ_cons, List.drop_nil]
      go_wp2
      refine bodyPost_ret (spawn_result KX4b_18.out rfl rfl rfl) rfl ⟨HBb_19.out, rfl⟩
  | ok r =>
    as_aux_lemma =>
      obtain ⟨G', L', m⟩ := r
      obtain ⟨a', c', rfl, hbx, hrow⟩ := h9
      obtain ⟨q, hq⟩ : ∃ q, L'.length = q := ⟨_, rfl⟩
      have HQ := hid hq
      have HRW := hid (own_base hrow hwV)
      have hlq := (Leads.of_own1 hrow).len
      rw [hq] at hlq HRW
      clear hrow
      rw [hq]
      clear hq
      have KX7b := hid (hbx X7 rfl)
      clear hbx
      obtain ⟨w3_209, hw3_209, hbn, hsn, hln⟩ := laid w9 #[.int .i64 0, .int .i64 0, .int .i64 0, .int .i64 0, .int .i64 0, .int .i64 0, .int .i64 0, .int .i64 0, .int .i64 0, .int .i64 0, .int .i64 0, .int .i64 0, .int .i64 0, .int .i64 0, .int .i64 0, .int .i64 0, .slice none 0 0] 25
      obtain ⟨X8, hNMX8⟩ : ∃ X, w9.heap.size = X := ⟨_, rfl⟩
      rw [hNMX8] at hln
      have nX4X8 : X4 < X8 := by have := lt_laid KX4b.out; omega
      have nX7X8 : X7 < X8 := by have := lt_laid KX7b.out; omega
      have hVX8 : V.heap.size ≤ X8 := by have := HBb.out.size; omega
      have KX4b_6 := hid (keep_laid KX4b.out hbn)
      have HBb_7 := hid (HBb.out.trans (hbn.mono HBb.out.size))
      have HRW_8 := hid (own_grow HRW.out hbn)
      have KX7b_9 := hid (keep_laid KX7b.out hbn)
      clear KX4b HBb HRW KX7b hbn hsn
      have KX8_10 := hid (hln)
      clear hln
      go_upto_region 3 with (refine wp_storeW rfl 25 (.tmp 8) (.tmp 14) rfl X8 _ _ rfl rfl _ KX8_10.out (by kernel_rfl) (by rfl) (by simp [Value.oneCell']) ?_; intro u8 a1 a2 a3 a4; have HA1 := hid a1; have HA2 := hid a2; have HA3 := hid a3; clear a1 a2 a3 a4)
      have KX8o := KX8_10
      have KX4b_11 := hid (HA2.out X4 _ (by omega) KX4b_6.out)
      have HBb_12 := hid (HA3.out _ _ (by omega) HBb_7.out)
      have HRW_13 := hid (own_keep HRW_8.out fun k o hk ho => HA2.out k o (fun e => own_neP HRW_8.out KX8o.out (by decide) (by rw [← e]; exact hk)) ho)
      have KX7b_14 := hid (HA2.out X7 _ (by omega) KX7b_9.out)
      have KX8_15 := hid (HA1.out)
      clear HA1 HA2 HA3 KX8o KX4b_6 HBb_7 HRW_8 KX7b_9 KX8_10 hNMX8 hw3_209
      obtain ⟨D, hD⟩ : ∃ DX, World.drew u8 = DX := ⟨_, rfl⟩
      have hbD : Below u8.heap.size u8 D := by rw [← hD]; exact (Below.refl _ _).drew
      have HD := hid hD
      clear hD
      have KX4b_16 := hid (keep_laid KX4b_11.out hbD)
      have HBb_17 := hid (HBb_12.out.trans (hbD.mono HBb_12.out.size))
      have HRW_18 := hid (own_grow HRW_13.out hbD)
      have KX7b_19 := hid (keep_laid KX7b_14.out hbD)
      have KX8_20 := hid (keep_laid KX8_15.out hbD)
      clear KX4b_11 HBb_12 HRW_13 KX7b_14 KX8_15 hbD
      haveI : Nonempty (Two X8 X7 #[.int .i64 (G' 0), .int .i64 (G' 1), .int .i64 (G' 2), .int .i64 (G' 3), .int .i64 (G' 4), .int .i64 (G' 5), .int .i64 (G' 6), .int .i64 (G' 7), .int .i64 (G' 8), .int .i64 (G' 9), .int .i64 (G' 10), .int .i64 (G' 11), .int .i64 (G' 12), .int .i64 (G' 13), .int .i64 (G' 14), .int .i64 (G' 15), .slice a' q c'] #[.int .u64 ((m : Nat) : Int)] 25 29) := ⟨⟨D, KX8_20.out, KX7b_19.out⟩⟩
      have q0 : ∀ z : Two X8 X7 #[.int .i64 (G' 0), .int .i64 (G' 1), .int .i64 (G' 2), .int .i64 (G' 3), .int .i64 (G' 4), .int .i64 (G' 5), .int .i64 (G' 6), .int .i64 (G' 7), .int .i64 (G' 8), .int .i64 (G' 9), .int .i64 (G' 10), .int .i64 (G' 11), .int .i64 (G' 12), .int .i64 (G' 13), .int .i64 (G' 14), .int .i64 (G' 15), .slice a' q c'] #[.int .u64 ((m : Nat) : Int)] 25 29, z.w.cell? ⟨X7, 0, none⟩ = some (.int .u64 ((m : Nat) : Int)) := fun z => cell_laid z.by_ rfl
      refine wp_region_mix3 (fun W => ∃ z : Two X8 X7 #[.int .i64 (G' 0), .int .i64 (G' 1), .int .i64 (G' 2), .int .i64 (G' 3), .int .i64 (G' 4), .int .i64 (G' 5), .int .i64 (G' 6), .int .i64 (G' 7), .int .i64 (G' 8), .int .i64 (G' 9), .int .i64 (G' 10), .int .i64 (G' 11), .int .i64 (G' 12), .int .i64 (G' 13), .int .i64 (G' 14), .int .i64 (G' 15), .slice a' q c'] #[.int .u64 ((m : Nat) : Int)] 25 29, W = z.w) 6 (.q 0 (.q 1 (.q 2 (.h 3 (.q 4 (.q 5 .done)))))) (by kernel_rfl) (by kernel_rfl) (by rw [HD.out]; exact ⟨⟨D, KX8_20.out, KX7b_19.out⟩, rfl⟩) ?_
      rw [HD.out]
      refine wpMix3_q rfl rfl ?_
      refine wpQuiet_loadW rfl 25 (.tmp 8) rfl X8 _ rfl _ (by rintro w ⟨z, rfl⟩; exact z.bx) _ Tryd.underlying25 rfl (by kernel_rfl) ?_
      intro v hv
      subst hv
      refine wpQuiet_nil ?_
      simp only [Act.put, List.setIfInBounds_toArray, List.set_cons_succ, List.set_cons_zero]
      repeat (refine wpMix3_q rfl rfl ?_; go_big_quiet_step (fail); refine wpQuiet_nil ?_)
      refine wpMix3_h rfl fun R' hR' hO => ?_
      go_wp2_with (refine wp_storeW rfl 25 (.tmp 4) (.tmp 16) rfl X4 _ _ rfl rfl _ KX4b_16.out (by kernel_rfl) (by rfl) (by simp [Value.oneCell']) ?_; intro u9 a1 a2 a3 a4; have HA1 := hid a1; have HA2 := hid a2; have HA3 := hid a3; clear a1 a2 a3 a4)
      have KX4o := KX4b_16
      have KX4b_21 := hid (HA1.out)
      have HBb_22 := hid (HA3.out _ _ (by omega) HBb_17.out)
      have HRW_23 := hid (own_keep HRW_18.out fun k o hk ho => HA2.out k o (fun e => own_neP HRW_18.out KX4o.out (by decide) (by rw [← e]; exact hk)) ho)
      have KX7b_24 := hid (HA2.out X7 _ (by omega) KX7b_19.out)
      have KX8_25 := hid (HA2.out X8 _ (by omega) KX8_20.out)
      refine hR' _ _ ⟨⟨u9, KX8_25.out, KX7b_24.out⟩, rfl⟩ ?_
      clear hR' hO R'
      repeat (refine wpMix3_q rfl rfl ?_; go_big_quiet_step (fail); refine wpQuiet_nil ?_)
      refine wpMix3_done ?_
      simp only [List.drop_succ_cons, List.drop_nil]
      go_wp2
      refine bodyPost_ret (spawn_result KX4b_21.out rfl rfl rfl) rfl ⟨HBb_22.out, a', c', ?_, ?_⟩
      · rw [HQ.out]; rfl
      · rw [HQ.out]; exact HRW_23.out
set_option maxRecDepth 100000 in
set_option maxHeartbeats 16000000 in
theorem Exit_any (n c pid code : Nat) (a : Option Addr) (G : Nat → Int) (L : List Pr) (V : World) (hg : Glob V) (hl : Leads V a n c (prcells L)) (hn : L.length = n) (hn5 : n ≤ 999) (hG : GOk G) (hL : PrsOk L) (hpid : pid < 18446744073709551616) (hcode : code < 18446744073709551616) :
    Calls Tryd.prog 12 #[.agg #[.int .i64 (G 0), .int .i64 (G 1), .int .i64 (G 2), .int .i64 (G 3), .int .i64 (G 4), .int .i64 (G 5), .int .i64 (G 6), .int .i64 (G 7), .int .i64 (G 8), .int .i64 (G 9), .int .i64 (G 10), .int .i64 (G 11), .int .i64 (G 12), .int .i64 (G 13), .int .i64 (G 14), .int .i64 (G 15), .slice a n c], .int .u64 ((pid : Nat) : Int), .int .u64 ((code : Nat) : Int)] V (Gives2 V (okRes G L (exitP G L pid code))) := by
  obtain ⟨V1, hV1, hbV1, hsV1, hlV1⟩ := laid V #[.int .i64 (G 0), .int .i64 (G 1), .int .i64 (G 2), .int .i64 (G 3), .int .i64 (G 4), .int .i64 (G 5), .int .i64 (G 6), .int .i64 (G 7), .int .i64 (G 8), .int .i64 (G 9), .int .i64 (G 10), .int .i64 (G 11), .int .i64 (G 12), .int .i64 (G 13), .int .i64 (G 14), .int .i64 (G 15), .slice a n c] 25
  obtain ⟨V2, hV2, hbV2, hsV2, hlV2⟩ := laid V1 #[.int .u64 ((pid : Nat) : Int)] 29
  obtain ⟨V3, hV3, hbV3, hsV3, hlV3⟩ := laid V2 #[.int .u64 ((code : Nat) : Int)] 29
  obtain ⟨V4, hV4, hbV4, hsV4, hlV4⟩ := laid V3 #[.int .i64 0, .int .i64 0, .int .i64 0, .int .i64 0, .int .i64 0, .int .i64 0, .int .i64 0, .int .i64 0, .int .i64 0, .int .i64 0, .int .i64 0, .int .i64 0, .int .i64 0, .int .i64 0, .int .i64 0, .int .i64 0, .slice none 0 0] 25
  obtain ⟨X2, hX2⟩ : ∃ X, V.heap.size = X := ⟨_, rfl⟩
  rw [hX2] at hlV1
  obtain ⟨Y0, hY0⟩ : ∃ X, V1.heap.size = X := ⟨_, rfl⟩
  rw [hY0] at hlV2
  obtain ⟨Y1, hY1⟩ : ∃ X, V2.heap.size = X := ⟨_, rfl⟩
  rw [hY1] at hlV3
  obtain ⟨X4, hX4⟩ : ∃ X, V3.heap.size = X := ⟨_, rfl⟩
  rw [hX4] at hlV4
  have KX2 := hid (keep_laid (keep_laid (keep_laid hlV1 hbV2) hbV3) hbV4)
  have KY0 := hid (keep_laid (keep_laid hlV2 hbV3) hbV4)
  have KY1 := hid (keep_laid hlV3 hbV4)
  have KX4 := hid hlV4
  have HB := hid (step (step (step hbV1 hbV2) hbV3) hbV4)
  have hVX2 : V.heap.size ≤ X2 := by omega
  have hVY0 : V.heap.size ≤ Y0 := by omega
  have nX2Y0 : X2 < Y0 := by omega
  have hVY1 : V.heap.size ≤ Y1 := by omega
  have nX2Y1 : X2 < Y1 := by omega
  have nY0Y1 : Y0 < Y1 := by omega
  have hVX4 : V.heap.size ≤ X4 := by omega
  have nX2X4 : X2 < X4 := by omega
  have nY0X4 : Y0 < X4 := by omega
  have nY1X4 : Y1 < X4 := by omega
  clear hbV1 hsV1 hlV1 hbV2 hsV2 hlV2 hbV3 hsV3 hlV3 hbV4 hsV4 hlV4
  have HL := hid hl
  have HN := hid hn
  have hlen := hl.len
  have HGG := hid hG
  have HPL := hid hL
  have HGL := hid hg
  have hmf : ∀ (fn : Fn) (first cap : Array Value) (w : World), (Instr.makeFunc fn first cap).run Tryd.prog w = .ok (.func fn first cap) w := fun _ _ _ _ => rfl
  obtain ⟨RES, hRES⟩ : ∃ r, okRes G L (exitP G L pid code) = r := ⟨_, rfl⟩
  rw [hRES]
  have HRES := hid hRES
  clear hg hl hn hG hL hRES
  go_enter Tryd.func12, Tryd.ntmps12
  go_upto_region 1 with (fail)
  clear hX2 hY0 hY1 hX4 hV1 hV2 hV3 hV4
  have HTR := hid (TriesExit n c Y0 Y1 a G L V4 none (exitP G L pid code) (HGL.out.grow HB.out) (HL.out.grow HB.out) HN.out (by omega) HGG.out HPL.out (fun b hb => by cases hb) (fun b hb => by cases hb) (fun hok T va vc W hW hT hTc hown => ExitDoes T n vc _ Y0 Y1 pid code va G L W (HGL.out.grow (step HB.out hW)) hTc hown HN.out hn5 ((okP_iff G L).1 hok) HPL.out hW.size (Nat.le_trans HGL.out.one HB.out.size) (keep_laid KY0.out hW) (keep_laid KY1.out hW)))
  rw [show (if okP G L = true then (exitP G L pid code) else Except.error 320) = RES from HRES.out] at HTR
  go_wp2_with (refine wp_loadW rfl 25 (.tmp 3) rfl X2 _ rfl _ KX2.out _ Tryd.underlying25 rfl (by kernel_rfl) ?_; intro v hv; subst hv)
  refine HTR.out.mono ?_
  rintro e w9 ⟨hg9, h9⟩
  have KX4b := hid (keep_grown KX4.out hg9 (by simp))
  have HBb := hid (HB.out.grown hg9 HB.out.size (fun k e => by cases e))
  have hwV : V.heap.size ≤ V4.heap.size := HB.out.size
  clear hg9 HTR
  cases RES with
  | error code =>
    as_aux_lemma =>
      obtain ⟨rfl, hbx⟩ := h9
      clear hbx
      go_wp2_with (refine wp_storeW rfl 25 (.tmp 6) (.tmp 11) rfl X4 _ _ rfl rfl _ KX4b.out (by kernel_rfl) (by rfl) (by simp [Value.oneCell']) ?_; intro u9 a1 a2 a3 a4; have HA1 := hid a1; have HA2 := hid a2; have HA3 := hid a3; clear a1 a2 a3 a4)
      have KX4o := KX4b
      have KX4b_1 := hid (HA1.out)
      have HBb_2 := hid (HA3.out _ _ (by omega) HBb.out)
      refine bodyPost_ret (exit_result KX4b_1.out rfl rfl) rfl ⟨HBb_2.out, rfl⟩
  | ok r =>
    as_aux_lemma =>
      obtain ⟨G', L', m⟩ := r
      obtain ⟨a', c', rfl, hbx, hrow⟩ := h9
      obtain ⟨q, hq⟩ : ∃ q, L'.length = q := ⟨_, rfl⟩
      have HQ := hid hq
      have HRW := hid (own_base hrow hwV)
      have hlq := (Leads.of_own1 hrow).len
      rw [hq] at hlq HRW
      clear hrow
      rw [hq]
      clear hq
      clear hbx
      go_wp2_with (refine wp_storeW rfl 25 (.tmp 6) (.tmp 11) rfl X4 _ _ rfl rfl _ KX4b.out (by kernel_rfl) (by rfl) (by simp [Value.oneCell']) ?_; intro u9 a1 a2 a3 a4; have HA1 := hid a1; have HA2 := hid a2; have HA3 := hid a3; clear a1 a2 a3 a4)
      have KX4o := KX4b
      have KX4b_1 := hid (HA1.out)
      have HBb_2 := hid (HA3.out _ _ (by omega) HBb.out)
      have HRW_3 := hid (own_keep HRW.out fun k o hk ho => HA2.out k o (fun e => own_neP HRW.out KX4o.out (by decide) (by rw [← e]; exact hk)) ho)
      refine bodyPost_ret (exit_result KX4b_1.out rfl rfl) rfl ⟨HBb_2.out, a', c', ?_, ?_⟩
      · rw [HQ.out]; rfl
      · rw [HQ.out]; exact HRW_3.out
set_option maxRecDepth 100000 in
set_option maxHeartbeats 16000000 in
theorem Wait_any (n c pid child : Nat) (a : Option Addr) (G : Nat → Int) (L : List Pr) (V : World) (hg : Glob V) (hl : Leads V a n c (prcells L)) (hn : L.length = n) (hn5 : n ≤ 999) (hG : GOk G) (hL : PrsOk L) (hpid : pid < 18446744073709551616) (hchild : child < 18446744073709551616) :
    Calls Tryd.prog 14 #[.agg #[.int .i64 (G 0), .int .i64 (G 1), .int .i64 (G 2), .int .i64 (G 3), .int .i64 (G 4), .int .i64 (G 5), .int .i64 (G 6), .int .i64 (G 7), .int .i64 (G 8), .int .i64 (G 9), .int .i64 (G 10), .int .i64 (G 11), .int .i64 (G 12), .int .i64 (G 13), .int .i64 (G 14), .int .i64 (G 15), .slice a n c], .int .u64 ((pid : Nat) : Int), .int .u64 ((child : Nat) : Int)] V (Gives3 V (okRes G L (waitP G L pid child))) := by
  obtain ⟨V1, hV1, hbV1, hsV1, hlV1⟩ := laid V #[.int .i64 (G 0), .int .i64 (G 1), .int .i64 (G 2), .int .i64 (G 3), .int .i64 (G 4), .int .i64 (G 5), .int .i64 (G 6), .int .i64 (G 7), .int .i64 (G 8), .int .i64 (G 9), .int .i64 (G 10), .int .i64 (G 11), .int .i64 (G 12), .int .i64 (G 13), .int .i64 (G 14), .int .i64 (G 15), .slice a n c] 25
  obtain ⟨V2, hV2, hbV2, hsV2, hlV2⟩ := laid V1 #[.int .u64 ((pid : Nat) : Int)] 29
  obtain ⟨V3, hV3, hbV3, hsV3, hlV3⟩ := laid V2 #[.int .u64 ((child : Nat) : Int)] 29
  obtain ⟨V4, hV4, hbV4, hsV4, hlV4⟩ := laid V3 #[.int .i64 0, .int .i64 0, .int .i64 0, .int .i64 0, .int .i64 0, .int .i64 0, .int .i64 0, .int .i64 0, .int .i64 0, .int .i64 0, .int .i64 0, .int .i64 0, .int .i64 0, .int .i64 0, .int .i64 0, .int .i64 0, .slice none 0 0] 25
  obtain ⟨V5, hV5, hbV5, hsV5, hlV5⟩ := laid V4 #[.int .u64 0] 29
  obtain ⟨X2, hX2⟩ : ∃ X, V.heap.size = X := ⟨_, rfl⟩
  rw [hX2] at hlV1
  obtain ⟨Y0, hY0⟩ : ∃ X, V1.heap.size = X := ⟨_, rfl⟩
  rw [hY0] at hlV2
  obtain ⟨Y1, hY1⟩ : ∃ X, V2.heap.size = X := ⟨_, rfl⟩
  rw [hY1] at hlV3
  obtain ⟨X4, hX4⟩ : ∃ X, V3.heap.size = X := ⟨_, rfl⟩
  rw [hX4] at hlV4
  obtain ⟨X7, hX7⟩ : ∃ X, V4.heap.size = X := ⟨_, rfl⟩
  rw [hX7] at hlV5
  have KX2 := hid (keep_laid (keep_laid (keep_laid (keep_laid hlV1 hbV2) hbV3) hbV4) hbV5)
  have KY0 := hid (keep_laid (keep_laid (keep_laid hlV2 hbV3) hbV4) hbV5)
  have KY1 := hid (keep_laid (keep_laid hlV3 hbV4) hbV5)
  have KX4 := hid (keep_laid hlV4 hbV5)
  have KX7 := hid hlV5
  have HB := hid (step (step (step (step hbV1 hbV2) hbV3) hbV4) hbV5)
  have hVX2 : V.heap.size ≤ X2 := by omega
  have hVY0 : V.heap.size ≤ Y0 := by omega
  have nX2Y0 : X2 < Y0 := by omega
  have hVY1 : V.heap.size ≤ Y1 := by omega
  have nX2Y1 : X2 < Y1 := by omega
  have nY0Y1 : Y0 < Y1 := by omega
  have hVX4 : V.heap.size ≤ X4 := by omega
  have nX2X4 : X2 < X4 := by omega
  have nY0X4 : Y0 < X4 := by omega
  have nY1X4 : Y1 < X4 := by omega
  have hVX7 : V.heap.size ≤ X7 := by omega
  have nX2X7 : X2 < X7 := by omega
  have nY0X7 : Y0 < X7 := by omega
  have nY1X7 : Y1 < X7 := by omega
  have nX4X7 : X4 < X7 := by omega
  clear hbV1 hsV1 hlV1 hbV2 hsV2 hlV2 hbV3 hsV3 hlV3 hbV4 hsV4 hlV4 hbV5 hsV5 hlV5
  have HL := hid hl
  have HN := hid hn
  have hlen := hl.len
  have HGG := hid hG
  have HPL := hid hL
  have HGL := hid hg
  have hmf : ∀ (fn : Fn) (first cap : Array Value) (w : World), (Instr.makeFunc fn first cap).run Tryd.prog w = .ok (.func fn first cap) w := fun _ _ _ _ => rfl
  obtain ⟨RES, hRES⟩ : ∃ r, okRes G L (waitP G L pid child) = r := ⟨_, rfl⟩
  rw [hRES]
  have HRES := hid hRES
  clear hg hl hn hG hL hRES
  go_enter Tryd.func14, Tryd.ntmps14
  have KX7_o := KX7.out
  obtain ⟨u1_408, hu1_408, a1, a2, a3, a4⟩ := putN1 KX7.out (.int .u64 0)
  obtain ⟨z0, zf0⟩ := fcl1 (KX7.out)
  have E2_408 := hid hu1_408
  have KX2_1 := hid (a2 X2 _ (by omega) KX2.out)
  have KY0_2 := hid (a2 Y0 _ (by omega) KY0.out)
  have KY1_3 := hid (a2 Y1 _ (by omega) KY1.out)
  have KX4_4 := hid (a2 X4 _ (by omega) KX4.out)
  have KX7_5 := hid (a1)
  have HB_6 := hid (a3 _ _ (by omega) HB.out)
  clear KX2 KY0 KY1 KX4 KX7 HB hu1_408 a1 a2 a3 a4
  clear KX7_o
  go_upto_region 2 with (fail)
  rw [← E2_408.out]
  clear z0 zf0
  clear hX2 hY0 hY1 hX4 hX7 hV1 hV2 hV3 hV4 hV5
  have HTR := hid (TriesWait n c Y0 Y1 X7 a G L u1_408 (some X7) (waitP G L pid child) (HGL.out.grow HB_6.out) (HL.out.grow HB_6.out) HN.out (by omega) HGG.out HPL.out (fun b hb => by cases hb; exact KX7_5.out) (fun b hb => by cases hb; exact lt_laid KX7_5.out) (fun hok T va vc W hW hT hTc hown => WaitDoes T n vc _ Y0 Y1 X7 pid child va G L W hTc hown HN.out hn5 ((okP_iff G L).1 hok) HPL.out hW.size (keep_laid KY0_2.out hW) (keep_laid KY1_3.out hW) (keep_laid KX7_5.out hW) (by omega) (by omega)))
  rw [show (if okP G L = true then (waitP G L pid child) else Except.error 320) = RES from HRES.out] at HTR
  go_wp2_with (refine wp_loadW rfl 25 (.tmp 3) rfl X2 _ rfl _ KX2_1.out _ Tryd.underlying25 rfl (by kernel_rfl) ?_; intro v hv; subst hv)
  refine HTR.out.mono ?_
  rintro e w9 ⟨hg9, h9⟩
  have KX4b := hid (keep_grown KX4_4.out hg9 (by simp; omega))
  have HBb := hid (HB_6.out.grown hg9 HB_6.out.size (fun k e => by cases e; omega))
  have hwV : V.heap.size ≤ u1_408.heap.size := HB_6.out.size
  clear hg9 HTR
  cases RES with
  | error code =>
    as_aux_lemma =>
      obtain ⟨rfl, hbx⟩ := h9
      have KX7b := hid (hbx X7 rfl)
      clear hbx
      obtain ⟨w3_438, hw3_438, hbn, hsn, hln⟩ := laid w9 #[.int .i64 0, .int .i64 0, .int .i64 0, .int .i64 0, .int .i64 0, .int .i64 0, .int .i64 0, .int .i64 0, .int .i64 0, .int .i64 0, .int .i64 0, .int .i64 0, .int .i64 0, .int .i64 0, .int .i64 0, .int .i64 0, .slice none 0 0] 25
      obtain ⟨X8, hNMX8⟩ : ∃ X, w9.heap.size = X := ⟨_, rfl⟩
      rw [hNMX8] at hln
      have nX4X8 : X4 < X8 := by have := lt_laid KX4b.out; omega
      have nX7X8 : X7 < X8 := by have := lt_laid KX7b.out; omega
      have hVX8 : V.heap.size ≤ X8 := by have := HBb.out.size; omega
      have KX4b_7 := hid (keep_laid KX4b.out hbn)
      have HBb_8 := hid (HBb.out.trans (hbn.mono HBb.out.size))
      have KX7b_9 := hid (keep_laid KX7b.out hbn)
      clear KX4b HBb KX7b hbn hsn
      have KX8_10 := hid (hln)
      clear hln
      go_upto_region 3 with (refine wp_storeW rfl 25 (.tmp 10) (.tmp 16) rfl X8 _ _ rfl rfl _ KX8_10.out (by kernel_rfl) (by rfl) (by simp [Value.oneCell']) ?_; intro u8 a1 a2 a3 a4; have HA1 := hid a1; have HA2 := hid a2; have HA3 := hid a3; clear a1 a2 a3 a4)
      have KX8o := KX8_10
      have KX4b_11 := hid (HA2.out X4 _ (by omega) KX4b_7.out)
      have HBb_12 := hid (HA3.out _ _ (by omega) HBb_8.out)
      have KX7b_13 := hid (HA2.out X7 _ (by omega) KX7b_9.out)
      have KX8_14 := hid (HA1.out)
      clear HA1 HA2 HA3 KX8o KX4b_7 HBb_8 KX7b_9 KX8_10 hNMX8 hw3_438
      obtain ⟨D, hD⟩ : ∃ DX, World.drew u8 = DX := ⟨_, rfl⟩
      have hbD : Below u8.heap.size u8 D := by rw [← hD]; exact (Below.refl _ _).drew
      have HD := hid hD
      clear hD
      have KX4b_15 := hid (keep_laid KX4b_11.out hbD)
      have HBb_16 := hid (HBb_12.out.trans (hbD.mono HBb_12.out.size))
      have KX7b_17 := hid (keep_laid KX7b_13.out hbD)
      have KX8_18 := hid (keep_laid KX8_14.out hbD)
      clear KX4b_11 HBb_12 KX7b_13 KX8_14 hbD
      haveI : Nonempty (Two X8 X7 #[.int .i64 0, .int .i64 0, .int .i64 0, .int .i64 0, .int .i64 0, .int .i64 0, .int .i64 0, .int .i64 0, .int .i64 0, .int .i64 0, .int .i64 0, .int .i64 0, .int .i64 0, .int .i64 0, .int .i64 0, .int .i64 0, .slice none 0 0] #[.int .u64 0] 25 29) := ⟨⟨D, KX8_18.out, KX7b_17.out⟩⟩
      have q0 : ∀ z : Two X8 X7 #[.int .i64 0, .int .i64 0, .int .i64 0, .int .i64 0, .int .i64 0, .int .i64 0, .int .i64 0, .int .i64 0, .int .i64 0, .int .i64 0, .int .i64 0, .int .i64 0, .int .i64 0, .int .i64 0, .int .i64 0, .int .i64 0, .slice none 0 0] #[.int .u64 0] 25 29, z.w.cell? ⟨X7, 0, none⟩ = some (.int .u64 0) := fun z => cell_laid z.by_ rfl
      refine wp_region_mix3 (fun W => ∃ z : Two X8 X7 #[.int .i64 0, .int .i64 0, .int .i64 0, .int .i64 0, .int .i64 0, .int .i64 0, .int .i64 0, .int .i64 0, .int .i64 0, .int .i64 0, .int .i64 0, .int .i64 0, .int .i64 0, .int .i64 0, .int .i64 0, .int .i64 0, .slice none 0 0] #[.int .u64 0] 25 29, W = z.w) 6 (.q 0 (.q 1 (.q 2 (.h 3 (.q 4 (.q 5 .done)))))) (by kernel_rfl) (by kernel_rfl) (by rw [HD.out]; exact ⟨⟨D, KX8_18.out, KX7b_17.out⟩, rfl⟩) ?_
      rw [HD.out]
      refine wpMix3_q rfl rfl ?_
      refine wpQuiet_loadW rfl 25 (.tmp 10) rfl X8 _ rfl _ (by rintro w ⟨z, rfl⟩; exact z.bx) _ Tryd.underlying25 rfl (by kernel_rfl) ?_
      intro v hv
      subst hv
      refine wpQuiet_nil ?_
      simp only [Act.put, List.setIfInBounds_toArray, List.set_cons_succ, List.set_cons_zero]
      repeat (refine wpMix3_q rfl rfl ?_; go_big_quiet_step (fail); refine wpQuiet_nil ?_)
      refine wpMix3_h rfl fun R' hR' hO => ?_
      go_wp2_with (refine wp_storeW rfl 25 (.tmp 6) (.tmp 18) rfl X4 _ _ rfl rfl _ KX4b_15.out (by kernel_rfl) (by rfl) (by simp [Value.oneCell']) ?_; intro u9 a1 a2 a3 a4; have HA1 := hid a1; have HA2 := hid a2; have HA3 := hid a3; clear a1 a2 a3 a4)
      have KX4o := KX4b_15
      have KX4b_19 := hid (HA1.out)
      have HBb_20 := hid (HA3.out _ _ (by omega) HBb_16.out)
      have KX7b_21 := hid (HA2.out X7 _ (by omega) KX7b_17.out)
      have KX8_22 := hid (HA2.out X8 _ (by omega) KX8_18.out)
      refine hR' _ _ ⟨⟨u9, KX8_22.out, KX7b_21.out⟩, rfl⟩ ?_
      clear hR' hO R'
      repeat (refine wpMix3_q rfl rfl ?_; go_big_quiet_step (fail); refine wpQuiet_nil ?_)
      refine wpMix3_done ?_
      simp only [List.drop_succ_cons, List.drop_nil]
      go_wp2
      refine bodyPost_ret (wait_result KX4b_19.out rfl rfl rfl) rfl ⟨HBb_20.out, rfl⟩
  | ok r =>
    as_aux_lemma =>
      obtain ⟨G', L', m⟩ := r
      obtain ⟨a', c', rfl, hbx, hrow⟩ := h9
      obtain ⟨q, hq⟩ : ∃ q, L'.length = q := ⟨_, rfl⟩
      have HQ := hid hq
      have HRW := hid (own_base hrow hwV)
      have hlq := (Leads.of_own1 hrow).len
      rw [hq] at hlq HRW
      clear hrow
      rw [hq]
      clear hq
      have KX7b := hid (hbx X7 rfl)
      clear hbx
      obtain ⟨w3_505, hw3_505, hbn, hsn, hln⟩ := laid w9 #[.int .i64 0, .int .i64 0, .int .i64 0, .int .i64 0, .int .i64 0, .int .i64 0, .int .i64 0, .int .i64 0, .int .i64 0, .int .i64 0, .int .i64 0, .int .i64 0, .int .i64 0, .int .i64 0, .int .i64 0, .int .i64 0, .slice none 0 0] 25
      obtain ⟨X8, hNMX8⟩ : ∃ X, w9.heap.size = X := ⟨_, rfl⟩
      rw [hNMX8] at hln
      have nX4X8 : X4 < X8 := by have := lt_laid KX4b.out; omega
      have nX7X8 : X7 < X8 := by have := lt_laid KX7b.out; omega
      have hVX8 : V.heap.size ≤ X8 := by have := HBb.out.size; omega
      have KX4b_7 := hid (keep_laid KX4b.out hbn)
      have HBb_8 := hid (HBb.out.trans (hbn.mono HBb.out.size))
      have HRW_9 := hid (own_grow HRW.out hbn)
      have KX7b_10 := hid (keep_laid KX7b.out hbn)
      clear KX4b HBb HRW KX7b hbn hsn
      have KX8_11 := hid (hln)
      clear hln
      go_upto_region 3 with (refine wp_storeW rfl 25 (.tmp 10) (.tmp 16) rfl X8 _ _ rfl rfl _ KX8_11.out (by kernel_rfl) (by rfl) (by simp [Value.oneCell']) ?_; intro u8 a1 a2 a3 a4; have HA1 := hid a1; have HA2 := hid a2; have HA3 := hid a3; clear a1 a2 a3 a4)
      have KX8o := KX8_11
      have KX4b_12 := hid (HA2.out X4 _ (by omega) KX4b_7.out)
      have HBb_13 := hid (HA3.out _ _ (by omega) HBb_8.out)
      have HRW_14 := hid (own_keep HRW_9.out fun k o hk ho => HA2.out k o (fun e => own_neP HRW_9.out KX8o.out (by decide) (by rw [← e]; exact hk)) ho)
      have KX7b_15 := hid (HA2.out X7 _ (by omega) KX7b_10.out)
      have KX8_16 := hid (HA1.out)
      clear HA1 HA2 HA3 KX8o KX4b_7 HBb_8 HRW_9 KX7b_10 KX8_11 hNMX8 hw3_505
      obtain ⟨D, hD⟩ : ∃ DX, World.drew u8 = DX := ⟨_, rfl⟩
      have hbD : Below u8.heap.size u8 D := by rw [← hD]; exact (Below.refl _ _).drew
      have HD := hid hD
      clear hD
      have KX4b_17 := hid (keep_laid KX4b_12.out hbD)
      have HBb_18 := hid (HBb_13.out.trans (hbD.mono HBb_13.out.size))
      have HRW_19 := hid (own_grow HRW_14.out hbD)
      have KX7b_20 := hid (keep_laid KX7b_15.out hbD)
      have KX8_21 := hid (keep_laid KX8_16.out hbD)
      clear KX4b_12 HBb_13 HRW_14 KX7b_15 KX8_16 hbD
      haveI : Nonempty (Two X8 X7 #[.int .i64 (G' 0), .int .i64 (G' 1), .int .i64 (G' 2), .int .i64 (G' 3), .int .i64 (G' 4), .int .i64 (G' 5), .int .i64 (G' 6), .int .i64 (G' 7), .int .i64 (G' 8), .int .i64 (G' 9), .int .i64 (G' 10), .int .i64 (G' 11), .int .i64 (G' 12), .int .i64 (G' 13), .int .i64 (G' 14), .int .i64 (G' 15), .slice a' q c'] #[.int .u64 ((m : Nat) : Int)] 25 29) := ⟨⟨D, KX8_21.out, KX7b_20.out⟩⟩
      have q0 : ∀ z : Two X8 X7 #[.int .i64 (G' 0), .int .i64 (G' 1), .int .i64 (G' 2), .int .i64 (G' 3), .int .i64 (G' 4), .int .i64 (G' 5), .int .i64 (G' 6), .int .i64 (G' 7), .int .i64 (G' 8), .int .i64 (G' 9), .int .i64 (G' 10), .int .i64 (G' 11), .int .i64 (G' 12), .int .i64 (G' 13), .int .i64 (G' 14), .int .i64 (G' 15), .slice a' q c'] #[.int .u64 ((m : Nat) : Int)] 25 29, z.w.cell? ⟨X7, 0, none⟩ = some (.int .u64 ((m : Nat) : Int)) := fun z => cell_laid z.by_ rfl
      refine wp_region_mix3 (fun W => ∃ z : Two X8 X7 #[.int .i64 (G' 0), .int .i64 (G' 1), .int .i64 (G' 2), .int .i64 (G' 3), .int .i64 (G' 4), .int .i64 (G' 5), .int .i64 (G' 6), .int .i64 (G' 7), .int .i64 (G' 8), .int .i64 (G' 9), .int .i64 (G' 10), .int .i64 (G' 11), .int .i64 (G' 12), .int .i64 (G' 13), .int .i64 (G' 14), .int .i64 (G' 15), .slice a' q c'] #[.int .u64 ((m : Nat) : Int)] 25 29, W = z.w) 6 (.q 0 (.q 1 (.q 2 (.h 3 (.q 4 (.q 5 .done)))))) (by kernel_rfl) (by kernel_rfl) (by rw [HD.out]; exact ⟨⟨D, KX8_21.out, KX7b_20.out⟩, rfl⟩) ?_
      rw [HD.out]
      refine wpMix3_q rfl rfl ?_
      refine wpQuiet_loadW rfl 25 (.tmp 10) rfl X8 _ rfl _ (by rintro w ⟨z, rfl⟩; exact z.bx) _ Tryd.underlying25 rfl (by kernel_rfl) ?_
      intro v hv
      subst hv
      refine wpQuiet_nil ?_
      simp only [Act.put, List.setIfInBounds_toArray, List.set_cons_succ, List.set_cons_zero]
      repeat (refine wpMix3_q rfl rfl ?_; go_big_quiet_step (fail); refine wpQuiet_nil ?_)
      refine wpMix3_h rfl fun R' hR' hO => ?_
      go_wp2_with (refine wp_storeW rfl 25 (.tmp 6) (.tmp 18) rfl X4 _ _ rfl rfl _ KX4b_17.out (by kernel_rfl) (by rfl) (by simp [Value.oneCell']) ?_; intro u9 a1 a2 a3 a4; have HA1 := hid a1; have HA2 := hid a2; have HA3 := hid a3; clear a1 a2 a3 a4)
      have KX4o := KX4b_17
      have KX4b_22 := hid (HA1.out)
      have HBb_23 := hid (HA3.out _ _ (by omega) HBb_18.out)
      have HRW_24 := hid (own_keep HRW_19.out fun k o hk ho => HA2.out k o (fun e => own_neP HRW_19.out KX4o.out (by decide) (by rw [← e]; exact hk)) ho)
      have KX7b_25 := hid (HA2.out X7 _ (by omega) KX7b_20.out)
      have KX8_26 := hid (HA2.out X8 _ (by omega) KX8_21.out)
      refine hR' _ _ ⟨⟨u9, KX8_26.out, KX7b_25.out⟩, rfl⟩ ?_
      clear hR' hO R'
      repeat (refine wpMix3_q rfl rfl ?_; go_big_quiet_step (fail); refine wpQuiet_nil ?_)
      refine wpMix3_done ?_
      simp only [List.drop_succ_cons, List.drop_nil]
      go_wp2
      refine bodyPost_ret (wait_result KX4b_22.out rfl rfl rfl) rfl ⟨HBb_23.out, a', c', ?_, ?_⟩
      · rw [HQ.out]; rfl
      · rw [HQ.out]; exact HRW_24.out
end Go.Proofs.YtmnbkhmphhgdiaaDoor
