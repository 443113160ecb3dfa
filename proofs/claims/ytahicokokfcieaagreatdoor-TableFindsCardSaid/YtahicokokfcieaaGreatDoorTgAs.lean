/- Several texts in one. -/
import Derived.Test.YtahicokokfcieaaGreatDoorTgAr
namespace Go.Proofs.YtahicokokfcieaaGreatDoor
open Go.RowKit
open Go.Proofs
set_option linter.unusedVariables false
attribute [local go_sem] Oper.semAt_some
/-- What Remove gives. -/
def remT (M : Mem) (root key : Nat) : Mem × Nat × Nat :=
  if okM M = false then (zeroM, 0, 120) else if (rowsW M root).isSome = false then (zeroM, 0, 290) else
    if (lookT M root key).1.s.found = true then (cutM M (lookT M root key).1.s.link (lookT M root key).1.s.node, (lookT M root key).1.s.node, 0) else (zeroM, 0, 4)
def GivesRem (X : Mem × Nat × Nat) (V : World) (e : Ending) (W : World) : Prop := ∃ wa wc la lc, e = .returned (.tuple #[memV wa wc la lc X.1, .int .u64 ((X.2.1 : Nat) : Int), .int .i64 ((X.2.2 : Nat) : Int)]) ∧ MemO V.heap.size wa wc la lc X.1 W ∧ Below V.heap.size V W
theorem trem_result {W : World} {b6 : Nat} {v6_0 v6_1 v6_2 u7 u8 : Value} {tmps : Array Value} (h6 : W.heap[b6]? = some (.cells #[v6_0, v6_1, v6_2] 25 (0, 0))) (q6 : tmps[6]?.getD undef = .pointer (some ⟨b6, 0, none⟩)) (q7 : tmps[7]?.getD undef = u7) (q8 : tmps[8]?.getD undef = u8) :
    (results Tryz.f16 tmps).run Tryz.prog W = .ok (.tuple #[.agg #[v6_0, v6_1, v6_2], u7, u8]) W := by
  have e6_0 := cell_laid (i := 0) (v := v6_0) h6 rfl
  have e6_1 := cell_laid (i := 1) (v := v6_1) h6 rfl
  have e6_2 := cell_laid (i := 2) (v := v6_2) h6 rfl
  simp [results, Tryz.results16, go_sem, e6_0, e6_1, e6_2, q6, q7, q8]
set_option maxRecDepth 100000 in
set_option maxHeartbeats 4000000 in
theorem TRemove_any (M : Mem) (root key : Nat) (wa la : Option Addr) (wc lc : Nat) (V : World) (h : MemL V wa wc la lc M) (hg : Glob V) (hW : ∀ x ∈ M.W, x < 18446744073709551616) (hr : root < 18446744073709551616) (hk : key < 18446744073709551616) :
    Calls Tryz.prog 16 #[memV wa wc la lc M, .int .u64 ((root : Nat) : Int), .int .u64 ((key : Nat) : Int)] V (GivesRem (remT M root key) V) := by
  obtain ⟨V1, hV1, hbV1, hsV1, hlV1⟩ := laid V #[.slice wa M.W.length wc, .slice la M.L.length lc, .bool M.F] 25
  obtain ⟨V2, hV2, hbV2, hsV2, hlV2⟩ := laid V1 #[.slice none 0 0, .slice none 0 0, .bool false] 25
  obtain ⟨X, hX⟩ : ∃ X, V.heap.size = X := ⟨_, rfl⟩
  rw [hX] at hlV1
  obtain ⟨Z, hZ⟩ : ∃ X, V1.heap.size = X := ⟨_, rfl⟩
  rw [hZ] at hlV2
  have KX := hid (keep_laid hlV1 hbV2)
  have KZ := hid hlV2
  have HB := hid (step hbV1 hbV2)
  have hVX : V.heap.size ≤ X := by omega
  have hVZ : V.heap.size ≤ Z := by omega
  have nXZ : X < Z := by omega
  clear hbV1 hsV1 hlV1 hbV2 hsV2 hlV2
  obtain ⟨XX, hXX⟩ : ∃ X, remT M root key = X := ⟨_, rfl⟩
  rw [hXX]
  have HXX := hid hXX
  clear hXX
  have HM := hid (h.grow HB.out)
  have HG0 := hid hg
  have HM0 := hid h
  have HW := hid hW
  have HTO := hid (told_any root wa wc la lc M V2 hr hW HM.out (hg.grow HB.out))
  have hwl := h.w.len
  have hll := h.l.len
  have hV0 : 0 < V.heap.size := hg.one
  unfold memV at HTO ⊢
  have x0 := cell_laid (i := 0) KX.out rfl
  have x1 := cell_laid (i := 1) KX.out rfl
  have x2 := cell_laid (i := 2) KX.out rfl
  have HLOOK := hid (fun xs met hok hx => look_run (M := M) (root := root) (key := key) (xs := xs) (met := met) hok hW hr hk hx)
  clear h hg hW
  go_enter Tryz.func16, Tryz.ntmps16
  go_wp2_with fail
  refine HTO.out.mono ?_
  clear HTO
  rintro e w2 ⟨hb2, ⟨hok, rfl⟩ | ⟨hok, hno, rfl⟩ | ⟨hok, xs, met, v, mb, hR, rfl, -, -, -, -⟩⟩
  · have HB2 := hid (step HB.out hb2)
    have KZ2 := hid (keep_laid KZ.out hb2)
    have e : XX = (zeroM, 0, 120) := by rw [← HXX.out]; unfold remT; rw [if_pos hok]
    subst e
    clear hb2 hok hX hZ HXX x0 x1 x2
    go_wp2_with (refine wp_storeP rfl 25 (.tmp 6) (.tmp 23) rfl Z 0 _ #[.slice none 0 0, .slice none 0 0, .bool false] _ rfl rfl _ KZ2.out (by kernel_rfl) (Nat.le_of_ble_eq_true rfl) (by kernel_rfl) rfl ?_; intro u1 a1 a2 a3 a4; have KZu := hid a1; have HBu := hid (a3 V.heap.size V (by omega) HB2.out); clear a1 a2 a3 a4)
    refine bodyPost_ret (trem_result KZu.out rfl rfl rfl) rfl ?_
    exact ⟨none, 0, none, 0, rfl, memO_zero _ _, HBu.out⟩
  · have HB2 := hid (step HB.out hb2)
    have KZ2 := hid (keep_laid KZ.out hb2)
    have e : XX = (zeroM, 0, 290) := by rw [← HXX.out]; unfold remT; rw [if_neg (by rw [hok]; decide), if_pos (by rw [hno]; rfl)]
    subst e
    clear hb2 hok hno hX hZ HXX x0 x1 x2
    go_wp2_with (refine wp_storeP rfl 25 (.tmp 6) (.tmp 23) rfl Z 0 _ #[.slice none 0 0, .slice none 0 0, .bool false] _ rfl rfl _ KZ2.out (by kernel_rfl) (Nat.le_of_ble_eq_true rfl) (by kernel_rfl) rfl ?_; intro u1 a1 a2 a3 a4; have KZu := hid a1; have HBu := hid (a3 V.heap.size V (by omega) HB2.out); clear a1 a2 a3 a4)
    refine bodyPost_ret (trem_result KZu.out rfl rfl rfl) rfl ?_
    exact ⟨none, 0, none, 0, rfl, memO_zero _ _, HBu.out⟩
  · have HB2 := hid (step HB.out hb2)
    have KX2 := hid (keep_laid KX.out hb2)
    have KZ2 := hid (keep_laid KZ.out hb2)
    have HOK := hid hok
    have hlr := HLOOK.out xs met hok hR
    have HCUT := hid (fun hf n => cut_look (key := key) hok hR hf n)
    have e : XX = if (lookT M root key).1.s.found = true then (cutM M (lookT M root key).1.s.link (lookT M root key).1.s.node, (lookT M root key).1.s.node, 0) else (zeroM, 0, 4) := by rw [← HXX.out]; unfold remT; rw [if_neg (by rw [hok]; decide), if_neg (by rw [hR]; exact fun h => by cases h)]
    obtain ⟨⟨⟨lp, lr, lk, la2, lm, ⟨sp, sh, sk, sl, sn, sv, sf⟩⟩, N⟩, hlt⟩ : ∃ x, lookT M root key = x := ⟨_, rfl⟩
    rw [hlt] at hlr e HCUT
    dsimp only at hlr e HCUT
    obtain ⟨hlr, hN⟩ := hlr
    have HLR := hid hlr
    have HE := hid e
    clear hb2 hok hR e hX hZ HXX hlt hlr HLOOK x0 x1 x2
    have x0 := cell_laid (i := 0) KX2.out rfl
    have x1 := cell_laid (i := 1) KX2.out rfl
    have x2 := cell_laid (i := 2) KX2.out rfl
    go_wp2_with fail
    refine (town_any M wa la wc lc w2 (HM0.out.grow HB2.out) HOK.out).mono ?_
    rintro e w5 ⟨R, rfl, hR, hRT, hb5⟩
    have hR0 : R ≠ 0 := by have := HB2.out.size; omega
    have hRV : V.heap.size ≤ R := by have := HB2.out.size; omega
    have hRZ : R ≠ Z := by have := lt_laid KZ2.out; omega
    have hZR : Z ≠ R := Ne.symm hRZ
    have HR5 := hid (hRT.base HB2.out.size)
    have HB5 := hid (step HB2.out hb5)
    have KZ5 := hid (keep_laid KZ2.out hb5)
    clear hb5 hRT hR x0 x1 x2
    go_wp2_with fail
    refine (looked_any V.heap.size R root key N M ⟨lp, lr, lk, la2, lm, ⟨sp, sh, sk, sl, sn, sv, sf⟩⟩ w5 HR5.out HB5.out.size HOK.out (HG0.out.grow HB5.out) HW.out hR0 HLR.out (by omega)).mono ?_
    rintro e w6 ⟨rfl, hrt, htl⟩
    have KZ6 := hid (htl.keep KZ5.out (by omega))
    have HR6 := hid hrt
    have HB6 : Hid (Below V.heap.size V w6) := hid (HB5.out.trans (htl.below (by intro k e; omega) HB5.out.size))
    clear hrt htl
    unfold lkV lk12
    dsimp only
    obtain ⟨w7, hw7, hb7, hs7, hl7⟩ := laid w6 #[.int .i64 0, .int .u64 0, .int .u64 0, .int .u64 0, .int .i64 0, .int .i64 0, .int .u64 0, .int .u64 0, .int .u64 0, .int .u64 0, .int .u64 0, .bool false] 43
    obtain ⟨L, hL⟩ : ∃ X, w6.heap.size = X := ⟨_, rfl⟩
    rw [hL] at hl7
    have KL7 := hid hl7
    have hVL : V.heap.size ≤ L := by have := HB6.out.size; omega
    have hRL : R < L := by have := HR6.out.lt; omega
    have hRL' : R ≠ L := by omega
    have nKZL : Z ≠ L := by have := lt_laid KZ6.out; omega
    have HR7 := hid (HR6.out.grow hb7)
    have HB7 := hid (step HB6.out hb7)
    have KZ7 := hid (keep_laid KZ6.out hb7)
    clear hb7 hs7 hl7
    cases sf with
    | false =>
      have e := HE.out
      rw [if_neg (by decide)] at e
      subst e
      go_wp2_with (first | (refine wp_storeP rfl 43 (.tmp 13) (.tmp 30) rfl L 0 _ (lk12 ⟨lp, lr, lk, la2, lm, ⟨sp, sh, sk, sl, sn, sv, false⟩⟩) _ rfl rfl _ KL7.out (by kernel_rfl) (Nat.le_of_ble_eq_true rfl) (by kernel_rfl) rfl ?_; intro w9 a1 a2 a3 a4; have KL9 := hid a1; have KZ9 := hid (a2 _ _ nKZL KZ7.out); have HT9 : Hid (Tch (fun k => k = L) w7 w9) := hid ⟨a4.os, a4.tape, a4.output, a4.size, fun k hk hne => a4.block k hk (fun e => hne (Option.some.inj e))⟩; have HR9 := hid (HR7.out.tch HT9.out KL7.out (by decide) (by decide) (by decide)); have HB9 := hid (a3 V.heap.size V (by omega) HB7.out); have y11 : w9.cell? ⟨L, 11, none⟩ = some (.bool false) := cell_laid (i := 11) KL9.out rfl; clear a1 a2 a3 a4) | (refine wp_storeP rfl 25 (.tmp 6) (.tmp 35) rfl Z 0 _ #[.slice none 0 0, .slice none 0 0, .bool false] _ rfl rfl _ KZ9.out (by kernel_rfl) (Nat.le_of_ble_eq_true rfl) (by kernel_rfl) rfl ?_; intro u1 a1 a2 a3 a4; have KZu := hid a1; have HBu := hid (a3 V.heap.size V (by omega) HB9.out); clear a1 a2 a3 a4))
      refine bodyPost_ret (trem_result KZu.out rfl rfl rfl) rfl ?_
      exact ⟨none, 0, none, 0, rfl, memO_zero _ _, HBu.out⟩
    | true =>
      have e := HE.out
      rw [if_pos rfl] at e
      have HOLK := hid HLR.out.last.1
      have hsl := HOLK.out.s.link
      have hsn := HOLK.out.s.node
      dsimp only at hsl hsn
      have HCU := hid (HCUT.out rfl N)
      obtain ⟨M', hM'⟩ : ∃ x, cutM M sl sn = x := ⟨_, rfl⟩
      rw [hM'] at HCU e
      subst e
      have HM' := hid hM'
      clear HCUT hM'
      go_wp2_with (refine wp_storeP rfl 43 (.tmp 13) (.tmp 30) rfl L 0 _ (lk12 ⟨lp, lr, lk, la2, lm, ⟨sp, sh, sk, sl, sn, sv, true⟩⟩) _ rfl rfl _ KL7.out (by kernel_rfl) (Nat.le_of_ble_eq_true rfl) (by kernel_rfl) rfl ?_; intro w9 a1 a2 a3 a4; have KL9 := hid a1; have KZ9 := hid (a2 _ _ nKZL KZ7.out); have HT9 : Hid (Tch (fun k => k = L) w7 w9) := hid ⟨a4.os, a4.tape, a4.output, a4.size, fun k hk hne => a4.block k hk (fun e => hne (Option.some.inj e))⟩; have HR9 := hid (HR7.out.tch HT9.out KL7.out (by decide) (by decide) (by decide)); have HB9 := hid (a3 V.heap.size V (by omega) HB7.out); have y8 : w9.cell? ⟨L, 8, none⟩ = some (.int .u64 ((sl : Nat) : Int)) := cell_laid (i := 8) KL9.out rfl; have y9 : w9.cell? ⟨L, 9, none⟩ = some (.int .u64 ((sn : Nat) : Int)) := cell_laid (i := 9) KL9.out rfl; have y11 : w9.cell? ⟨L, 11, none⟩ = some (.bool true) := cell_laid (i := 11) KL9.out rfl; clear a1 a2 a3 a4)
      clear hL
      refine (Cut_any sl sn w9).mono ?_
      rintro e w10 ⟨rfl, hb10⟩
      have HR10 := hid (HR9.out.grow hb10)
      have HB10 := hid (step HB9.out hb10)
      have KL10 := hid (keep_laid KL9.out hb10)
      have KZ10 := hid (keep_laid KZ9.out hb10)
      clear hb10 y8 y9 y11
      go_wp2_with fail
      refine (tedit_any V.heap.size R N 8 M (cutK sl sn) _ w10 HR10.out HB10.out.size HOK.out HW.out ⟨by unfold cutK; dsimp only; decide, hsl, hsn, by unfold cutK; dsimp only; decide, by unfold cutK; dsimp only; decide, by unfold cutK; dsimp only; decide, by unfold cutK; dsimp only; decide⟩ (by unfold cutK; dsimp only; decide) (by unfold cutK; dsimp only; decide) HCU.out (by show (6 : Int) ≤ 6; decide) (by omega)).mono ?_
      rintro e w11 ⟨rfl, hrt, htl⟩
      dsimp only at hrt
      obtain ⟨N', hN'⟩ : ∃ x, N + 2 = x := ⟨_, rfl⟩
      rw [hN'] at hrt
      obtain ⟨wa', wc', la', lc', kR, oR⟩ := hrt
      have KR11 := hid kR
      have HO11 := hid oR
      have KL11 := hid (htl.keep KL10.out (by omega))
      have KZ11 := hid (htl.keep KZ10.out (by omega))
      have HB11 : Hid (Below V.heap.size V w11) := hid (HB10.out.trans (htl.below (by intro k e; omega) HB10.out.size))
      have hwl' := HO11.out.memL.w.len
      have hll' := HO11.out.memL.l.len
      clear kR oR htl hN' HCU
      go_upto_region 9 with (fail)
      obtain ⟨D, hD⟩ : ∃ DX, w11.drew = DX := ⟨_, rfl⟩
      have hbD : Below w11.heap.size w11 D := by rw [← hD]; exact (Below.refl _ _).drew
      have HD := hid hD
      have KRD := hid (keep_laid KR11.out hbD)
      have KLD : Hid (D.heap[L]? = some (.cells #[.int .i64 lp, .int .u64 ((lr : Nat) : Int), .int .u64 ((lk : Nat) : Int), .int .u64 ((la2 : Nat) : Int), .int .i64 lm, .int .i64 sp, .int .u64 ((sh : Nat) : Int), .int .u64 ((sk : Nat) : Int), .int .u64 ((sl : Nat) : Int), .int .u64 ((sn : Nat) : Int), .int .u64 ((sv : Nat) : Int), .bool true] 43 (0, 0))) := hid (keep_laid KL11.out hbD)
      have KZD := hid (keep_laid KZ11.out hbD)
      have HOD := hid (HO11.out.grow hbD)
      have HBD := hid (step HB11.out hbD)
      haveI : Nonempty (RLk R L #[.slice wa' M'.W.length wc', .slice la' M'.L.length lc', .bool M'.F, .int .i64 ((N' : Nat) : Int)] #[.int .i64 lp, .int .u64 ((lr : Nat) : Int), .int .u64 ((lk : Nat) : Int), .int .u64 ((la2 : Nat) : Int), .int .i64 lm, .int .i64 sp, .int .u64 ((sh : Nat) : Int), .int .u64 ((sk : Nat) : Int), .int .u64 ((sl : Nat) : Int), .int .u64 ((sn : Nat) : Int), .int .u64 ((sv : Nat) : Int), .bool true]) := ⟨⟨D, KRD.out, KLD.out⟩⟩
      have r0 : ∀ z : RLk R L #[.slice wa' M'.W.length wc', .slice la' M'.L.length lc', .bool M'.F, .int .i64 ((N' : Nat) : Int)] #[.int .i64 lp, .int .u64 ((lr : Nat) : Int), .int .u64 ((lk : Nat) : Int), .int .u64 ((la2 : Nat) : Int), .int .i64 lm, .int .i64 sp, .int .u64 ((sh : Nat) : Int), .int .u64 ((sk : Nat) : Int), .int .u64 ((sl : Nat) : Int), .int .u64 ((sn : Nat) : Int), .int .u64 ((sv : Nat) : Int), .bool true], z.w.cell? ⟨R, 0, none⟩ = some (.slice wa' M'.W.length wc') := fun z => cell_laid (i := 0) z.br rfl
      have r1 : ∀ z : RLk R L #[.slice wa' M'.W.length wc', .slice la' M'.L.length lc', .bool M'.F, .int .i64 ((N' : Nat) : Int)] #[.int .i64 lp, .int .u64 ((lr : Nat) : Int), .int .u64 ((lk : Nat) : Int), .int .u64 ((la2 : Nat) : Int), .int .i64 lm, .int .i64 sp, .int .u64 ((sh : Nat) : Int), .int .u64 ((sk : Nat) : Int), .int .u64 ((sl : Nat) : Int), .int .u64 ((sn : Nat) : Int), .int .u64 ((sv : Nat) : Int), .bool true], z.w.cell? ⟨R, 1, none⟩ = some (.slice la' M'.L.length lc') := fun z => cell_laid (i := 1) z.br rfl
      have r2 : ∀ z : RLk R L #[.slice wa' M'.W.length wc', .slice la' M'.L.length lc', .bool M'.F, .int .i64 ((N' : Nat) : Int)] #[.int .i64 lp, .int .u64 ((lr : Nat) : Int), .int .u64 ((lk : Nat) : Int), .int .u64 ((la2 : Nat) : Int), .int .i64 lm, .int .i64 sp, .int .u64 ((sh : Nat) : Int), .int .u64 ((sk : Nat) : Int), .int .u64 ((sl : Nat) : Int), .int .u64 ((sn : Nat) : Int), .int .u64 ((sv : Nat) : Int), .bool true], z.w.cell? ⟨R, 2, none⟩ = some (.bool M'.F) := fun z => cell_laid (i := 2) z.br rfl
      have s9 : ∀ z : RLk R L #[.slice wa' M'.W.length wc', .slice la' M'.L.length lc', .bool M'.F, .int .i64 ((N' : Nat) : Int)] #[.int .i64 lp, .int .u64 ((lr : Nat) : Int), .int .u64 ((lk : Nat) : Int), .int .u64 ((la2 : Nat) : Int), .int .i64 lm, .int .i64 sp, .int .u64 ((sh : Nat) : Int), .int .u64 ((sk : Nat) : Int), .int .u64 ((sl : Nat) : Int), .int .u64 ((sn : Nat) : Int), .int .u64 ((sv : Nat) : Int), .bool true], z.w.cell? ⟨L, 9, none⟩ = some (.int .u64 ((sn : Nat) : Int)) := fun z => cell_laid (i := 9) z.bs rfl
      clear hD hbD
      refine wp_region_mix2 (fun W => ∃ z : RLk R L #[.slice wa' M'.W.length wc', .slice la' M'.L.length lc', .bool M'.F, .int .i64 ((N' : Nat) : Int)] #[.int .i64 lp, .int .u64 ((lr : Nat) : Int), .int .u64 ((lk : Nat) : Int), .int .u64 ((la2 : Nat) : Int), .int .i64 lm, .int .i64 sp, .int .u64 ((sh : Nat) : Int), .int .u64 ((sk : Nat) : Int), .int .u64 ((sl : Nat) : Int), .int .u64 ((sn : Nat) : Int), .int .u64 ((sv : Nat) : Int), .bool true], W = z.w) 10 (.q 0 (.q 1 (.q 2 (.q 3 (.q 4 (.q 5 (.q 6 (.h 7 (.q 8 (.q 9 .done)))))))))) (by kernel_rfl) (by kernel_rfl) (by rw [HD.out]; exact ⟨⟨D, KRD.out, KLD.out⟩, rfl⟩) ?_
      rw [HD.out]
      iterate 7 (refine wpMix2_q rfl rfl ?_; go_big_quiet_step (fail); refine wpQuiet_nil ?_)
      refine wpMix2_h rfl fun R' hR' hO => ?_
      go_wp2_with (refine wp_storeP rfl 25 (.tmp 6) (.tmp 48) rfl Z 0 _ #[.slice wa' M'.W.length wc', .slice la' M'.L.length lc', .bool M'.F] _ rfl rfl _ KZD.out (by kernel_rfl) (Nat.le_of_ble_eq_true rfl) (by kernel_rfl) rfl ?_; intro u1 a1 a2 a3 a4; have KZu := hid a1; have KRu := hid (a2 R _ hRZ KRD.out); have KLu := hid (a2 L _ (Ne.symm nKZL) KLD.out); have HBu := hid (a3 V.heap.size V (by omega) HBD.out); have HOu : Hid (MemO V.heap.size wa' wc' la' lc' M' u1) := hid ⟨own_keep HOD.out.w fun j o hj ho => a2 j o (fun e => own_neP HOD.out.w KZD.out (by decide) (by rw [← e]; exact hj)) ho, own_keep HOD.out.l fun j o hj ho => a2 j o (fun e => own_neP HOD.out.l KZD.out (by decide) (by rw [← e]; exact hj)) ho⟩; clear a1 a2 a3 a4)
      refine hR' _ _ ⟨⟨u1, KRu.out, KLu.out⟩, rfl⟩ ?_
      clear hR' hO R'
      iterate 2 (refine wpMix2_q rfl rfl ?_; go_big_quiet_step (fail); refine wpQuiet_nil ?_)
      refine wpMix2_done ?_
      simp only [List.drop_succ_cons, List.drop_nil]
      go_wp2
      refine bodyPost_ret (trem_result KZu.out rfl rfl rfl) rfl ?_
      exact ⟨wa', wc', la', lc', rfl, HOu.out, HBu.out⟩
end Go.Proofs.YtahicokokfcieaaGreatDoor
namespace Go.Proofs.YtahicokokfcieaaGreatDoor
open Go.RowKit
open Go.Proofs
set_option linter.unusedVariables false
attribute [local go_sem] Oper.semAt_some
/-- What Insert gives. -/
def insT (M : Mem) (root at_ key val : Nat) : Mem × Nat × Nat :=
  if okM M = false then (zeroM, 0, 120) else match rowsW M root with
    | none => (zeroM, 0, 290)
    | some r => if at_ = 0 ∨ (tmeet M at_ 4 r.2).isNone = true then (zeroM, 0, 2) else
      if (lookT M root key).1.s.found = true then (zeroM, 0, 5) else (putT M root (at_, key, val, hashN key), (lookT M root key).2 + 5, 0)
def GivesIns (X : Mem × Nat × Nat) (V : World) (e : Ending) (W : World) : Prop := ∃ wa wc la lc, e = .returned (.tuple #[memV wa wc la lc X.1, .int .i64 ((X.2.1 : Nat) : Int), .int .i64 ((X.2.2 : Nat) : Int)]) ∧ MemO V.heap.size wa wc la lc X.1 W ∧ Below V.heap.size V W
def InsA (M : Mem) (at_ mb : Nat) (met : List Nat) (W W' : World) : Prop := W.grownBy W' (some mb) ∧ ∃ met', tmeet M at_ 4 met = some met'
def InsB (M : Mem) (at_ mb : Nat) (met : List Nat) (W W' : World) : Prop := W.grownBy W' (some mb) ∧ tmeet M at_ 4 met = none
structure RLA (L A : Nat) (cs cs' : Array Value) where
  w : World
  bl : w.heap[L]? = some (.cells cs 43 (0, 0))
  ba : w.heap[A]? = some (.cells cs' 26 (0, 0))
theorem tins_result {W : World} {b10 : Nat} {v10_0 v10_1 v10_2 u11 u12 : Value} {tmps : Array Value} (h10 : W.heap[b10]? = some (.cells #[v10_0, v10_1, v10_2] 25 (0, 0))) (q10 : tmps[10]?.getD undef = .pointer (some ⟨b10, 0, none⟩)) (q11 : tmps[11]?.getD undef = u11) (q12 : tmps[12]?.getD undef = u12) :
    (results Tryz.f15 tmps).run Tryz.prog W = .ok (.tuple #[.agg #[v10_0, v10_1, v10_2], u11, u12]) W := by
  have e10_0 := cell_laid (i := 0) (v := v10_0) h10 rfl
  have e10_1 := cell_laid (i := 1) (v := v10_1) h10 rfl
  have e10_2 := cell_laid (i := 2) (v := v10_2) h10 rfl
  simp [results, Tryz.results15, go_sem, e10_0, e10_1, e10_2, q10, q11, q12]
set_option maxRecDepth 100000 in
set_option maxHeartbeats 8000000 in
theorem TInsert_any (M : Mem) (root at_ key val : Nat) (wa la : Option Addr) (wc lc : Nat) (V : World) (h : MemL V wa wc la lc M) (hg : Glob V) (hW : ∀ x ∈ M.W, x < 18446744073709551616) (hr : root < 18446744073709551616) (ha : at_ < 18446744073709551616) (hk : key < 18446744073709551616) (hv : val < 18446744073709551616) :
    Calls Tryz.prog 15 #[memV wa wc la lc M, .int .u64 ((root : Nat) : Int), .int .u64 ((at_ : Nat) : Int), .int .u64 ((key : Nat) : Int), .int .u64 ((val : Nat) : Int)] V (GivesIns (insT M root at_ key val) V) := by
  obtain ⟨V1, hV1, hbV1, hsV1, hlV1⟩ := laid V #[.slice wa M.W.length wc, .slice la M.L.length lc, .bool M.F] 25
  obtain ⟨V2, hV2, hbV2, hsV2, hlV2⟩ := laid V1 #[.int .u64 ((at_ : Nat) : Int)] 26
  obtain ⟨V3, hV3, hbV3, hsV3, hlV3⟩ := laid V2 #[.slice none 0 0, .slice none 0 0, .bool false] 25
  obtain ⟨X, hX⟩ : ∃ X, V.heap.size = X := ⟨_, rfl⟩
  rw [hX] at hlV1
  obtain ⟨A, hA⟩ : ∃ X, V1.heap.size = X := ⟨_, rfl⟩
  rw [hA] at hlV2
  obtain ⟨Z, hZ⟩ : ∃ X, V2.heap.size = X := ⟨_, rfl⟩
  rw [hZ] at hlV3
  have KX := hid (keep_laid (keep_laid hlV1 hbV2) hbV3)
  have KA := hid (keep_laid hlV2 hbV3)
  have KZ := hid hlV3
  have HB := hid (step (step hbV1 hbV2) hbV3)
  have hVX : V.heap.size ≤ X := by omega
  have hVA : V.heap.size ≤ A := by omega
  have nXA : X < A := by omega
  have hVZ : V.heap.size ≤ Z := by omega
  have nXZ : X < Z := by omega
  have nAZ : A < Z := by omega
  clear hbV1 hsV1 hlV1 hbV2 hsV2 hlV2 hbV3 hsV3 hlV3
  obtain ⟨XX, hXX⟩ : ∃ X, insT M root at_ key val = X := ⟨_, rfl⟩
  rw [hXX]
  have HXX := hid hXX
  clear hXX
  have HM := hid (h.grow HB.out)
  have HG0 := hid hg
  have HM0 := hid h
  have HW := hid hW
  have HTO := hid (told_any root wa wc la lc M V3 hr hW HM.out (hg.grow HB.out))
  have hwl := h.w.len
  have hll := h.l.len
  have hV0 : 0 < V.heap.size := hg.one
  unfold memV at HTO ⊢
  have x0 := cell_laid (i := 0) KX.out rfl
  have x1 := cell_laid (i := 1) KX.out rfl
  have x2 := cell_laid (i := 2) KX.out rfl
  have HLOOK := hid (fun xs met hok hx => look_run (M := M) (root := root) (key := key) (xs := xs) (met := met) hok hW hr hk hx)
  have hmf : ∀ (fn : Fn) (first cap : Array Value) (w : World), (Instr.makeFunc fn first cap).run Tryz.prog w = .ok (.func fn first cap) w := fun _ _ _ _ => rfl
  clear h hg hW
  go_enter Tryz.func15, Tryz.ntmps15
  go_wp2_with fail
  refine HTO.out.mono ?_
  clear HTO
  rintro e w2 ⟨hb2, ⟨hok, rfl⟩ | ⟨hok, hno, rfl⟩ | ⟨hok, xs, met, v, mb, hR, rfl, -, hmb, hid2, hmet⟩⟩
  · have e : XX = (zeroM, 0, 120) := by rw [← HXX.out]; unfold insT; rw [if_pos hok]
    subst e
    have HB2 := hid (step HB.out hb2)
    have KX2 := hid (keep_laid KX.out hb2)
    have KA2 := hid (keep_laid KA.out hb2)
    have KZ2 := hid (keep_laid KZ.out hb2)
    clear hb2 hok hX hA hZ HXX x0 x1 x2
    obtain ⟨w3, hw3, hb3, hs3, hl3⟩ := laid w2 #[.map none] 77
    obtain ⟨T, hT⟩ : ∃ X, w2.heap.size = X := ⟨_, rfl⟩
    rw [hT] at hl3
    have KT3 := hid hl3
    have hVT : V.heap.size ≤ T := by have := HB2.out.size; omega
    have nXT : X < T := by have := lt_laid KX2.out; omega
    have nAT : A < T := by have := lt_laid KA2.out; omega
    have nZT : Z < T := by have := lt_laid KZ2.out; omega
    have KX3 := hid (keep_laid KX2.out hb3)
    have KA3 := hid (keep_laid KA2.out hb3)
    have KZ3 := hid (keep_laid KZ2.out hb3)
    have HB3 := hid (step HB2.out hb3)
    have HB23 := hid hb3
    clear hb3 hs3 hl3
    go_wp2_with (first | (refine wp_storeP rfl 77 (.tmp 14) (.tmp 23) rfl T 0 _ #[.map none] _ rfl rfl _ KT3.out (by kernel_rfl) (Nat.le_of_ble_eq_true rfl) (by kernel_rfl) rfl ?_; intro w4 a1 a2 a3 a4; have KT4 := hid a1; have KX4 := hid (a2 X _ (by omega) KX3.out); have KA4 := hid (a2 A _ (by omega) KA3.out); have KZ4 := hid (a2 Z _ (by omega) KZ3.out); have HB4 := hid (a3 V.heap.size V (by omega) HB3.out); have HB24 := hid (a3 w2.heap.size w2 (by omega) HB23.out); have ya : w4.cell? ⟨A, 0, none⟩ = some (.int .u64 ((at_ : Nat) : Int)) := cell_laid (i := 0) KA4.out rfl; clear a1 a2 a3 a4) | (refine wp_storeP rfl 25 (.tmp 10) (.tmp 27) rfl Z 0 _ #[.slice none 0 0, .slice none 0 0, .bool false] _ rfl rfl _ KZ4.out (by kernel_rfl) (Nat.le_of_ble_eq_true rfl) (by kernel_rfl) rfl ?_; intro u1 a1 a2 a3 a4; have KZu := hid a1; have HBu := hid (a3 V.heap.size V (by omega) HB4.out); clear a1 a2 a3 a4))
    refine bodyPost_ret (tins_result KZu.out rfl rfl rfl) rfl ?_
    exact ⟨none, 0, none, 0, rfl, memO_zero _ _, HBu.out⟩
  · have e : XX = (zeroM, 0, 290) := by rw [← HXX.out]; unfold insT; rw [if_neg (by rw [hok]; decide), hno]
    subst e
    have HB2 := hid (step HB.out hb2)
    have KX2 := hid (keep_laid KX.out hb2)
    have KA2 := hid (keep_laid KA.out hb2)
    have KZ2 := hid (keep_laid KZ.out hb2)
    clear hb2 hok hno hX hA hZ HXX x0 x1 x2
    obtain ⟨w3, hw3, hb3, hs3, hl3⟩ := laid w2 #[.map none] 77
    obtain ⟨T, hT⟩ : ∃ X, w2.heap.size = X := ⟨_, rfl⟩
    rw [hT] at hl3
    have KT3 := hid hl3
    have hVT : V.heap.size ≤ T := by have := HB2.out.size; omega
    have nXT : X < T := by have := lt_laid KX2.out; omega
    have nAT : A < T := by have := lt_laid KA2.out; omega
    have nZT : Z < T := by have := lt_laid KZ2.out; omega
    have KX3 := hid (keep_laid KX2.out hb3)
    have KA3 := hid (keep_laid KA2.out hb3)
    have KZ3 := hid (keep_laid KZ2.out hb3)
    have HB3 := hid (step HB2.out hb3)
    have HB23 := hid hb3
    clear hb3 hs3 hl3
    go_wp2_with (first | (refine wp_storeP rfl 77 (.tmp 14) (.tmp 23) rfl T 0 _ #[.map none] _ rfl rfl _ KT3.out (by kernel_rfl) (Nat.le_of_ble_eq_true rfl) (by kernel_rfl) rfl ?_; intro w4 a1 a2 a3 a4; have KT4 := hid a1; have KX4 := hid (a2 X _ (by omega) KX3.out); have KA4 := hid (a2 A _ (by omega) KA3.out); have KZ4 := hid (a2 Z _ (by omega) KZ3.out); have HB4 := hid (a3 V.heap.size V (by omega) HB3.out); have HB24 := hid (a3 w2.heap.size w2 (by omega) HB23.out); have ya : w4.cell? ⟨A, 0, none⟩ = some (.int .u64 ((at_ : Nat) : Int)) := cell_laid (i := 0) KA4.out rfl; clear a1 a2 a3 a4) | (refine wp_storeP rfl 25 (.tmp 10) (.tmp 27) rfl Z 0 _ #[.slice none 0 0, .slice none 0 0, .bool false] _ rfl rfl _ KZ4.out (by kernel_rfl) (Nat.le_of_ble_eq_true rfl) (by kernel_rfl) rfl ?_; intro u1 a1 a2 a3 a4; have KZu := hid a1; have HBu := hid (a3 V.heap.size V (by omega) HB4.out); clear a1 a2 a3 a4))
    refine bodyPost_ret (tins_result KZu.out rfl rfl rfl) rfl ?_
    exact ⟨none, 0, none, 0, rfl, memO_zero _ _, HBu.out⟩
  · have hmbV := hmb
    have hmbV2 : V.heap.size ≤ mb := by have := HB.out.size; omega
    have HI2 := hid hid2
    have hmbl : mb < w2.heap.size := World.ownsMap.lt hid2
    obtain ⟨hn1, hn4, hmn, -⟩ := okM_spec hok
    have hml : met.length ≤ 10000 := by have := hmet.len; omega
    have HMN := hid hmn
    have HB2 := hid (step HB.out hb2)
    have KX2 := hid (keep_laid KX.out hb2)
    have KA2 := hid (keep_laid KA.out hb2)
    have KZ2 := hid (keep_laid KZ.out hb2)
    have HOK := hid hok
    have hlr := HLOOK.out xs met hok hR
    have HPUT := hid (fun met' ht n => put_look (t := (at_, key, val, hashN key)) (met' := met') hok hR ht n)
    have e : XX = if at_ = 0 ∨ (tmeet M at_ 4 met).isNone = true then (zeroM, 0, 2) else if (lookT M root key).1.s.found = true then (zeroM, 0, 5) else (putT M root (at_, key, val, hashN key), (lookT M root key).2 + 5, 0) := by rw [← HXX.out]; unfold insT; rw [if_neg (by rw [hok]; decide), hR]
    obtain ⟨⟨⟨lp, lr, lk, la2, lm, ⟨sp, sh, sk, sl, sn, sv, sf⟩⟩, N⟩, hlt⟩ : ∃ x, lookT M root key = x := ⟨_, rfl⟩
    dsimp only at HPUT
    rw [hlt] at hlr e HPUT
    dsimp only at hlr e HPUT
    obtain ⟨MP, hMP⟩ : ∃ x, putT M root (at_, key, val, hashN key) = x := ⟨_, rfl⟩
    rw [hMP] at e HPUT
    obtain ⟨hlr, hN⟩ := hlr
    have HLR := hid hlr
    have HE := hid e
    clear hb2 hok hR e hX hA hZ HXX hlt hlr HLOOK x0 x1 x2 hmb hid2 hmet hn1 hn4 hmn hMP
    obtain ⟨w3, hw3, hb3, hs3, hl3⟩ := laid w2 #[.map none] 77
    obtain ⟨T, hT⟩ : ∃ X, w2.heap.size = X := ⟨_, rfl⟩
    rw [hT] at hl3
    have KT3 := hid hl3
    have hVT : V.heap.size ≤ T := by have := HB2.out.size; omega
    have nXT : X < T := by have := lt_laid KX2.out; omega
    have nAT : A < T := by have := lt_laid KA2.out; omega
    have nZT : Z < T := by have := lt_laid KZ2.out; omega
    have KX3 := hid (keep_laid KX2.out hb3)
    have KA3 := hid (keep_laid KA2.out hb3)
    have KZ3 := hid (keep_laid KZ2.out hb3)
    have HB3 := hid (step HB2.out hb3)
    have HB23 := hid hb3
    clear hb3 hs3 hl3
    by_cases h0 : at_ = 0
    · subst h0
      have e := HE.out
      rw [if_pos (.inl rfl)] at e
      subst e
      have t0 : (((0 : Nat) : Int) == 0) = true := rfl
      go_wp2_with (first | (refine wp_storeP rfl 77 (.tmp 14) (.tmp 23) rfl T 0 _ #[.map (some mb)] _ rfl rfl _ KT3.out (by kernel_rfl) (Nat.le_of_ble_eq_true rfl) (by kernel_rfl) rfl ?_; intro w4 a1 a2 a3 a4; have KT4 := hid a1; have KX4 := hid (a2 X _ (by omega) KX3.out); have KA4 := hid (a2 A _ (by omega) KA3.out); have KZ4 := hid (a2 Z _ (by omega) KZ3.out); have HB4 := hid (a3 V.heap.size V (by omega) HB3.out); have HB24 := hid (a3 w2.heap.size w2 (by omega) HB23.out); have ya : w4.cell? ⟨A, 0, none⟩ = some (.int .u64 ((0 : Nat) : Int)) := cell_laid (i := 0) KA4.out rfl; clear a1 a2 a3 a4) | (refine wp_storeP rfl 25 (.tmp 10) (.tmp 36) rfl Z 0 _ #[.slice none 0 0, .slice none 0 0, .bool false] _ rfl rfl _ KZ4.out (by kernel_rfl) (Nat.le_of_ble_eq_true rfl) (by kernel_rfl) rfl ?_; intro u1 a1 a2 a3 a4; have KZu := hid a1; have HBu := hid (a3 V.heap.size V (by omega) HB4.out); clear a1 a2 a3 a4))
      refine bodyPost_ret (tins_result KZu.out rfl rfl rfl) rfl ?_
      exact ⟨none, 0, none, 0, rfl, memO_zero _ _, HBu.out⟩
    · have t0 : (((at_ : Nat) : Int) == 0) = false := by simp [h0]
      have h0' : ¬ ((at_ : Nat) : Int) = 0 := by omega
      go_wp2_with (refine wp_storeP rfl 77 (.tmp 14) (.tmp 23) rfl T 0 _ #[.map (some mb)] _ rfl rfl _ KT3.out (by kernel_rfl) (Nat.le_of_ble_eq_true rfl) (by kernel_rfl) rfl ?_; intro w4 a1 a2 a3 a4; have KT4 := hid a1; have KX4 := hid (a2 X _ (by omega) KX3.out); have KA4 := hid (a2 A _ (by omega) KA3.out); have KZ4 := hid (a2 Z _ (by omega) KZ3.out); have HB4 := hid (a3 V.heap.size V (by omega) HB3.out); have HB24 := hid (a3 w2.heap.size w2 (by omega) HB23.out); have ya : w4.cell? ⟨A, 0, none⟩ = some (.int .u64 ((at_ : Nat) : Int)) := cell_laid (i := 0) KA4.out rfl; clear a1 a2 a3 a4)
      clear hT
      have HM4 := hid (HM0.out.grow HB4.out)
      have HI4 := hid (HI2.out.grow HB24.out)
      have hmb4 : mb < w4.heap.size := by have := HB24.out.size; omega
      have hmX : mb ≠ X := fun e => idsI_ne HI4.out KX4.out (congrArg some e)
      have hmA : mb ≠ A := fun e => idsI_ne HI4.out KA4.out (congrArg some e)
      have hmZ : mb ≠ Z := fun e => idsI_ne HI4.out KZ4.out (congrArg some e)
      refine (tries_any 42 #[.pointer (some ⟨T, 0, none⟩), .pointer (some ⟨X, 0, none⟩), .pointer (some ⟨A, 0, none⟩)] (InsA M at_ mb met) (InsB M at_ mb met) w4 (enters_of Tryz.func42 (by kernel_rfl) rfl)
        (fun W hb => (ins1_any T X A mb at_ M.W.length wa wc la lc M met W rfl (by rw [HMN.out]) ha (HM4.out.grow hb) (HI4.out.grow hb) hml (by have := keep_laid KX4.out hb; rw [HMN.out] at this; exact this) (keep_laid KA4.out hb) (keep_laid KT4.out hb)).mono (by
          rintro e W' (⟨h1, h2, met', h3, -⟩ | ⟨h1, h2, h3⟩)
          · exact .inl ⟨h1, h2, met', h3⟩
          · exact .inr ⟨h1, h2, h3⟩))
        (fun W W' Z' hb h1 h2 hAB => by
          have ht : W.grownBy W' (some mb) := hAB.elim (fun hA => hA.1) (fun hB => hB.1)
          exact ht.block Z' h2 (fun e => by have := Option.some.inj e; omega))).mono ?_
      rintro e W2 ⟨Z', W, W1, hbW, hz1, hz2, hgr, hAB⟩
      have hVW : V.heap.size ≤ W.heap.size := by have := HB4.out.size; have := hbW.size; omega
      have hWg : W.grownBy W1 (some mb) := hAB.elim (fun hA => hA.2.1) (fun hB => hB.2.1)
      have HTg : Hid (Tch (fun k => k = mb ∨ k = Z') w4 W2) := hid (((Tch.of_below hbW).trans (tch_grown hWg)).trans ⟨hgr.os, hgr.tape, hgr.output, hgr.size, fun k hk hn => hgr.block k hk (fun e => hn (.inr (Option.some.inj e)))⟩)
      have HB5 : Hid (Below V.heap.size V W2) := hid (HB4.out.trans (HTg.out.below (by rintro k (e | e) <;> omega) HB4.out.size))
      have lx := lt_laid KX4.out
      have lA := lt_laid KA4.out
      have lZ := lt_laid KZ4.out
      have KX5 := hid (HTg.out.keep KX4.out (by rintro (e | e) <;> omega))
      have KA5 := hid (HTg.out.keep KA4.out (by rintro (e | e) <;> omega))
      have KZ5 := hid (HTg.out.keep KZ4.out (by rintro (e | e) <;> omega))
      clear hbW hgr hWg HTg hVW hz1 hz2
      rcases hAB with ⟨rfl, -, met', hmt⟩ | ⟨rfl, -, hmt⟩
      · have e := HE.out
        rw [if_neg (by rintro (e | e); exact h0 e; rw [hmt] at e; cases e)] at e
        have HE := hid e
        have HPT := hid (fun n => HPUT.out met' hmt n)
        clear e hmt HPUT
        have x0 := cell_laid (i := 0) KX5.out rfl
        have x1 := cell_laid (i := 1) KX5.out rfl
        have x2 := cell_laid (i := 2) KX5.out rfl
        go_wp2_with fail
        refine (town_any M wa la wc lc W2 (HM0.out.grow HB5.out) HOK.out).mono ?_
        rintro e w5 ⟨R, rfl, hR, hRT, hb5⟩
        have hR0 : R ≠ 0 := by have := HB5.out.size; omega
        have hRV : V.heap.size ≤ R := by have := HB5.out.size; omega
        have hRZ : R ≠ Z := by have := lt_laid KZ5.out; omega
        have hRA : R ≠ A := by have := lt_laid KA5.out; omega
        have HR6 := hid (hRT.base HB5.out.size)
        have HB6 := hid (step HB5.out hb5)
        have KZ6 := hid (keep_laid KZ5.out hb5)
        have KA6 := hid (keep_laid KA5.out hb5)
        clear hb5 hRT hR x0 x1 x2
        go_wp2_with fail
        refine (looked_any V.heap.size R root key N M ⟨lp, lr, lk, la2, lm, ⟨sp, sh, sk, sl, sn, sv, sf⟩⟩ w5 HR6.out HB6.out.size HOK.out (HG0.out.grow HB6.out) HW.out hR0 HLR.out (by omega)).mono ?_
        rintro e w6 ⟨rfl, hrt, htl⟩
        have KZ7 := hid (htl.keep KZ6.out (by omega))
        have KA7 := hid (htl.keep KA6.out (by omega))
        have HR7 := hid hrt
        have HB7 : Hid (Below V.heap.size V w6) := hid (HB6.out.trans (htl.below (by intro k e; omega) HB6.out.size))
        clear hrt htl
        unfold lkV lk12
        dsimp only
        obtain ⟨w7, hw7, hb7, hs7, hl7⟩ := laid w6 #[.int .i64 0, .int .u64 0, .int .u64 0, .int .u64 0, .int .i64 0, .int .i64 0, .int .u64 0, .int .u64 0, .int .u64 0, .int .u64 0, .int .u64 0, .bool false] 43
        obtain ⟨L, hL⟩ : ∃ X, w6.heap.size = X := ⟨_, rfl⟩
        rw [hL] at hl7
        have KL8 := hid hl7
        have hVL : V.heap.size ≤ L := by have := HB7.out.size; omega
        have hRL : R < L := by have := HR7.out.lt; omega
        have hRL' : R ≠ L := by omega
        have nKZL : Z ≠ L := by have := lt_laid KZ7.out; omega
        have nKAL : A ≠ L := by have := lt_laid KA7.out; omega
        have HR8 := hid (HR7.out.grow hb7)
        have HB8 := hid (step HB7.out hb7)
        have KZ8 := hid (keep_laid KZ7.out hb7)
        have KA8 := hid (keep_laid KA7.out hb7)
        clear hb7 hs7 hl7
        cases sf with
        | true =>
          have e := HE.out
          rw [if_pos rfl] at e
          subst e
          go_wp2_with (first | (refine wp_storeP rfl 43 (.tmp 17) (.tmp 42) rfl L 0 _ (lk12 ⟨lp, lr, lk, la2, lm, ⟨sp, sh, sk, sl, sn, sv, true⟩⟩) _ rfl rfl _ KL8.out (by kernel_rfl) (Nat.le_of_ble_eq_true rfl) (by kernel_rfl) rfl ?_; intro w9 a1 a2 a3 a4; have KL9 := hid a1; have KZ9 := hid (a2 _ _ nKZL KZ8.out); have KA9 := hid (a2 _ _ nKAL KA8.out); have HT9 : Hid (Tch (fun k => k = L) w7 w9) := hid ⟨a4.os, a4.tape, a4.output, a4.size, fun k hk hne => a4.block k hk (fun e => hne (Option.some.inj e))⟩; have HR9 := hid (HR8.out.tch HT9.out KL8.out (by decide) (by decide) (by decide)); have HB9 := hid (a3 V.heap.size V (by omega) HB8.out); have y11 : w9.cell? ⟨L, 11, none⟩ = some (.bool true) := cell_laid (i := 11) KL9.out rfl; clear a1 a2 a3 a4) | (refine wp_storeP rfl 25 (.tmp 10) (.tmp 46) rfl Z 0 _ #[.slice none 0 0, .slice none 0 0, .bool false] _ rfl rfl _ KZ9.out (by kernel_rfl) (Nat.le_of_ble_eq_true rfl) (by kernel_rfl) rfl ?_; intro u1 a1 a2 a3 a4; have KZu := hid a1; have HBu := hid (a3 V.heap.size V (by omega) HB9.out); clear a1 a2 a3 a4))
          refine bodyPost_ret (tins_result KZu.out rfl rfl rfl) rfl ?_
          exact ⟨none, 0, none, 0, rfl, memO_zero _ _, HBu.out⟩
        | false =>
          have e := HE.out
          rw [if_neg (by decide)] at e
          subst e
          have HOLK := hid HLR.out.last.1
          have hsl := HOLK.out.s.link
          have hsn := HOLK.out.s.node
          dsimp only at hsl hsn
          have HPN := hid (HPT.out N)
          clear HPT HE HOLK HLR
          go_wp2_with (refine wp_storeP rfl 43 (.tmp 17) (.tmp 42) rfl L 0 _ (lk12 ⟨lp, lr, lk, la2, lm, ⟨sp, sh, sk, sl, sn, sv, false⟩⟩) _ rfl rfl _ KL8.out (by kernel_rfl) (Nat.le_of_ble_eq_true rfl) (by kernel_rfl) rfl ?_; intro w9 a1 a2 a3 a4; have KL9 := hid a1; have KZ9 := hid (a2 _ _ nKZL KZ8.out); have KA9 := hid (a2 _ _ nKAL KA8.out); have HT9 : Hid (Tch (fun k => k = L) w7 w9) := hid ⟨a4.os, a4.tape, a4.output, a4.size, fun k hk hne => a4.block k hk (fun e => hne (Option.some.inj e))⟩; have HR9 := hid (HR8.out.tch HT9.out KL8.out (by decide) (by decide) (by decide)); have HB9 := hid (a3 V.heap.size V (by omega) HB8.out); have y11 : w9.cell? ⟨L, 11, none⟩ = some (.bool false) := cell_laid (i := 11) KL9.out rfl; clear a1 a2 a3 a4)
          clear hL y11
          obtain ⟨D, hD⟩ : ∃ DX, w9.drew = DX := ⟨_, rfl⟩
          have hbD : Below w9.heap.size w9 D := by rw [← hD]; exact (Below.refl _ _).drew
          have HD := hid hD
          have HRD := hid (HR9.out.grow hbD)
          have KLD : Hid (D.heap[L]? = some (.cells #[.int .i64 lp, .int .u64 ((lr : Nat) : Int), .int .u64 ((lk : Nat) : Int), .int .u64 ((la2 : Nat) : Int), .int .i64 lm, .int .i64 sp, .int .u64 ((sh : Nat) : Int), .int .u64 ((sk : Nat) : Int), .int .u64 ((sl : Nat) : Int), .int .u64 ((sn : Nat) : Int), .int .u64 ((sv : Nat) : Int), .bool false] 43 (0, 0))) := hid (keep_laid KL9.out hbD)
          have KAD := hid (keep_laid KA9.out hbD)
          have KZD := hid (keep_laid KZ9.out hbD)
          have HBD := hid (step HB9.out hbD)
          haveI : Nonempty (RLA L A #[.int .i64 lp, .int .u64 ((lr : Nat) : Int), .int .u64 ((lk : Nat) : Int), .int .u64 ((la2 : Nat) : Int), .int .i64 lm, .int .i64 sp, .int .u64 ((sh : Nat) : Int), .int .u64 ((sk : Nat) : Int), .int .u64 ((sl : Nat) : Int), .int .u64 ((sn : Nat) : Int), .int .u64 ((sv : Nat) : Int), .bool false] #[.int .u64 ((at_ : Nat) : Int)]) := ⟨⟨D, KLD.out, KAD.out⟩⟩
          have s8 : ∀ z : RLA L A #[.int .i64 lp, .int .u64 ((lr : Nat) : Int), .int .u64 ((lk : Nat) : Int), .int .u64 ((la2 : Nat) : Int), .int .i64 lm, .int .i64 sp, .int .u64 ((sh : Nat) : Int), .int .u64 ((sk : Nat) : Int), .int .u64 ((sl : Nat) : Int), .int .u64 ((sn : Nat) : Int), .int .u64 ((sv : Nat) : Int), .bool false] #[.int .u64 ((at_ : Nat) : Int)], z.w.cell? ⟨L, 8, none⟩ = some (.int .u64 ((sl : Nat) : Int)) := fun z => cell_laid (i := 8) z.bl rfl
          have s9 : ∀ z : RLA L A #[.int .i64 lp, .int .u64 ((lr : Nat) : Int), .int .u64 ((lk : Nat) : Int), .int .u64 ((la2 : Nat) : Int), .int .i64 lm, .int .i64 sp, .int .u64 ((sh : Nat) : Int), .int .u64 ((sk : Nat) : Int), .int .u64 ((sl : Nat) : Int), .int .u64 ((sn : Nat) : Int), .int .u64 ((sv : Nat) : Int), .bool false] #[.int .u64 ((at_ : Nat) : Int)], z.w.cell? ⟨L, 9, none⟩ = some (.int .u64 ((sn : Nat) : Int)) := fun z => cell_laid (i := 9) z.bl rfl
          have sa : ∀ z : RLA L A #[.int .i64 lp, .int .u64 ((lr : Nat) : Int), .int .u64 ((lk : Nat) : Int), .int .u64 ((la2 : Nat) : Int), .int .i64 lm, .int .i64 sp, .int .u64 ((sh : Nat) : Int), .int .u64 ((sk : Nat) : Int), .int .u64 ((sl : Nat) : Int), .int .u64 ((sn : Nat) : Int), .int .u64 ((sv : Nat) : Int), .bool false] #[.int .u64 ((at_ : Nat) : Int)], z.w.cell? ⟨A, 0, none⟩ = some (.int .u64 ((at_ : Nat) : Int)) := fun z => cell_laid (i := 0) z.ba rfl
          clear hD hbD KL9 KA9 KZ9 HB9 HR9
          refine wp_region_mix2 (fun W => ∃ z : RLA L A #[.int .i64 lp, .int .u64 ((lr : Nat) : Int), .int .u64 ((lk : Nat) : Int), .int .u64 ((la2 : Nat) : Int), .int .i64 lm, .int .i64 sp, .int .u64 ((sh : Nat) : Int), .int .u64 ((sk : Nat) : Int), .int .u64 ((sl : Nat) : Int), .int .u64 ((sn : Nat) : Int), .int .u64 ((sv : Nat) : Int), .bool false] #[.int .u64 ((at_ : Nat) : Int)], W = z.w) 15 (.q 0 (.q 1 (.q 2 (.q 3 (.q 4 (.q 5 (.q 6 (.q 7 (.q 10 (.q 11 (.q 12 (.h 8 (.q 9 (.h 13 (.h 14 .done))))))))))))))) (by kernel_rfl) (by kernel_rfl) (by rw [HD.out]; exact ⟨⟨D, KLD.out, KAD.out⟩, rfl⟩) ?_
          rw [HD.out]
          iterate 11 (refine wpMix2_q rfl rfl ?_; go_big_quiet_step (fail); refine wpQuiet_nil ?_)
          refine wpMix2_h rfl fun R' hR' hO => ?_
          go_wp2_with fail
          refine (Hash_any key D).mono ?_
          rintro e w10 ⟨rfl, hb10⟩
          have HR10 := hid (HRD.out.grow hb10)
          have KL10 := hid (keep_laid KLD.out hb10)
          have KA10 := hid (keep_laid KAD.out hb10)
          have KZ10 := hid (keep_laid KZD.out hb10)
          have HB10 := hid (step HBD.out hb10)
          clear hb10
          go_wp2
          refine hR' _ _ ⟨⟨w10, KL10.out, KA10.out⟩, rfl⟩ ?_
          clear hR' hO R'
          refine wpMix2_q rfl rfl ?_
          go_big_quiet_step (fail)
          refine wpQuiet_nil ?_
          refine wpMix2_h rfl fun R' hR' hO => ?_
          go_wp2_with fail
          refine (Put_any sl sn (at_, key, val, hashN key) w10).mono ?_
          rintro e w11 ⟨rfl, hb11⟩
          have HR11 := hid (HR10.out.grow hb11)
          have KL11 := hid (keep_laid KL10.out hb11)
          have KA11 := hid (keep_laid KA10.out hb11)
          have KZ11 := hid (keep_laid KZ10.out hb11)
          have HB11 := hid (step HB10.out hb11)
          clear hb11
          go_wp2
          refine hR' _ _ ⟨⟨w11, KL11.out, KA11.out⟩, rfl⟩ ?_
          clear hR' hO R'
          refine wpMix2_h rfl fun R' hR' hO => ?_
          go_wp2_with fail
          refine (tedit_any V.heap.size R N 8 M (putK sl (at_, key, val, hashN key) sn) _ w11 HR11.out HB11.out.size HOK.out HW.out ⟨by unfold putK; dsimp only; decide, hsl, ha, hk, hv, hashN_lt key, hsn⟩ (by unfold putK; dsimp only; decide) (by unfold putK; dsimp only; decide) HPN.out (by show (6 : Int) ≤ 6; decide) (by omega)).mono ?_
          rintro e w12 ⟨rfl, hrt, htl⟩
          dsimp only at hrt
          have HR12 := hid hrt
          have KL12 := hid (htl.keep KL11.out (by omega))
          have KA12 := hid (htl.keep KA11.out (by omega))
          have KZ12 := hid (htl.keep KZ11.out (by omega))
          have HB12 : Hid (Below V.heap.size V w12) := hid (HB11.out.trans (htl.below (by intro k e; omega) HB11.out.size))
          clear hrt htl
          go_wp2
          refine hR' _ _ ⟨⟨w12, KL12.out, KA12.out⟩, rfl⟩ ?_
          clear hR' hO R'
          refine wpMix2_done ?_
          simp only [List.drop_succ_cons, List.drop_nil]
          clear s8 s9 sa HPN HD HRD KLD KAD KZD HBD HR10 KL10 KA10 KZ10 HB10 HR11 KL11 KA11 KZ11 HB11
          go_upto_region 11 with (fail)
          have hrt := HR12.out
          obtain ⟨N', hN'⟩ : ∃ x, N + 5 = x := ⟨_, rfl⟩
          rw [hN'] at hrt ⊢
          obtain ⟨wa', wc', la', lc', kR, oR⟩ := hrt
          have KR12 := hid kR
          have HO12 := hid oR
          have hwl' := HO12.out.memL.w.len
          have hll' := HO12.out.memL.l.len
          have HN' := hid hN'
          clear kR oR hN'
          obtain ⟨D, hD⟩ : ∃ DX, w12.drew = DX := ⟨_, rfl⟩
          have hbD : Below w12.heap.size w12 D := by rw [← hD]; exact (Below.refl _ _).drew
          have HD := hid hD
          have KRD := hid (keep_laid KR12.out hbD)
          have KLD : Hid (D.heap[L]? = some (.cells #[.int .i64 lp, .int .u64 ((lr : Nat) : Int), .int .u64 ((lk : Nat) : Int), .int .u64 ((la2 : Nat) : Int), .int .i64 lm, .int .i64 sp, .int .u64 ((sh : Nat) : Int), .int .u64 ((sk : Nat) : Int), .int .u64 ((sl : Nat) : Int), .int .u64 ((sn : Nat) : Int), .int .u64 ((sv : Nat) : Int), .bool false] 43 (0, 0))) := hid (keep_laid KL12.out hbD)
          have KZD := hid (keep_laid KZ12.out hbD)
          have HOD := hid (HO12.out.grow hbD)
          have HBD := hid (step HB12.out hbD)
          haveI : Nonempty (RLk R L #[.slice wa' MP.W.length wc', .slice la' MP.L.length lc', .bool MP.F, .int .i64 ((N' : Nat) : Int)] #[.int .i64 lp, .int .u64 ((lr : Nat) : Int), .int .u64 ((lk : Nat) : Int), .int .u64 ((la2 : Nat) : Int), .int .i64 lm, .int .i64 sp, .int .u64 ((sh : Nat) : Int), .int .u64 ((sk : Nat) : Int), .int .u64 ((sl : Nat) : Int), .int .u64 ((sn : Nat) : Int), .int .u64 ((sv : Nat) : Int), .bool false]) := ⟨⟨D, KRD.out, KLD.out⟩⟩
          have r0 : ∀ z : RLk R L #[.slice wa' MP.W.length wc', .slice la' MP.L.length lc', .bool MP.F, .int .i64 ((N' : Nat) : Int)] #[.int .i64 lp, .int .u64 ((lr : Nat) : Int), .int .u64 ((lk : Nat) : Int), .int .u64 ((la2 : Nat) : Int), .int .i64 lm, .int .i64 sp, .int .u64 ((sh : Nat) : Int), .int .u64 ((sk : Nat) : Int), .int .u64 ((sl : Nat) : Int), .int .u64 ((sn : Nat) : Int), .int .u64 ((sv : Nat) : Int), .bool false], z.w.cell? ⟨R, 0, none⟩ = some (.slice wa' MP.W.length wc') := fun z => cell_laid (i := 0) z.br rfl
          have r1 : ∀ z : RLk R L #[.slice wa' MP.W.length wc', .slice la' MP.L.length lc', .bool MP.F, .int .i64 ((N' : Nat) : Int)] #[.int .i64 lp, .int .u64 ((lr : Nat) : Int), .int .u64 ((lk : Nat) : Int), .int .u64 ((la2 : Nat) : Int), .int .i64 lm, .int .i64 sp, .int .u64 ((sh : Nat) : Int), .int .u64 ((sk : Nat) : Int), .int .u64 ((sl : Nat) : Int), .int .u64 ((sn : Nat) : Int), .int .u64 ((sv : Nat) : Int), .bool false], z.w.cell? ⟨R, 1, none⟩ = some (.slice la' MP.L.length lc') := fun z => cell_laid (i := 1) z.br rfl
          have r2 : ∀ z : RLk R L #[.slice wa' MP.W.length wc', .slice la' MP.L.length lc', .bool MP.F, .int .i64 ((N' : Nat) : Int)] #[.int .i64 lp, .int .u64 ((lr : Nat) : Int), .int .u64 ((lk : Nat) : Int), .int .u64 ((la2 : Nat) : Int), .int .i64 lm, .int .i64 sp, .int .u64 ((sh : Nat) : Int), .int .u64 ((sk : Nat) : Int), .int .u64 ((sl : Nat) : Int), .int .u64 ((sn : Nat) : Int), .int .u64 ((sv : Nat) : Int), .bool false], z.w.cell? ⟨R, 2, none⟩ = some (.bool MP.F) := fun z => cell_laid (i := 2) z.br rfl
          have r3 : ∀ z : RLk R L #[.slice wa' MP.W.length wc', .slice la' MP.L.length lc', .bool MP.F, .int .i64 ((N' : Nat) : Int)] #[.int .i64 lp, .int .u64 ((lr : Nat) : Int), .int .u64 ((lk : Nat) : Int), .int .u64 ((la2 : Nat) : Int), .int .i64 lm, .int .i64 sp, .int .u64 ((sh : Nat) : Int), .int .u64 ((sk : Nat) : Int), .int .u64 ((sl : Nat) : Int), .int .u64 ((sn : Nat) : Int), .int .u64 ((sv : Nat) : Int), .bool false], z.w.cell? ⟨R, 3, none⟩ = some (.int .i64 ((N' : Nat) : Int)) := fun z => cell_laid (i := 3) z.br rfl
          clear hD hbD
          refine wp_region_mix2 (fun W => ∃ z : RLk R L #[.slice wa' MP.W.length wc', .slice la' MP.L.length lc', .bool MP.F, .int .i64 ((N' : Nat) : Int)] #[.int .i64 lp, .int .u64 ((lr : Nat) : Int), .int .u64 ((lk : Nat) : Int), .int .u64 ((la2 : Nat) : Int), .int .i64 lm, .int .i64 sp, .int .u64 ((sh : Nat) : Int), .int .u64 ((sk : Nat) : Int), .int .u64 ((sl : Nat) : Int), .int .u64 ((sn : Nat) : Int), .int .u64 ((sv : Nat) : Int), .bool false], W = z.w) 11 (.q 0 (.q 1 (.q 2 (.q 3 (.q 4 (.q 5 (.q 6 (.q 7 (.h 8 (.q 9 (.q 10 .done))))))))))) (by kernel_rfl) (by kernel_rfl) (by rw [HD.out]; exact ⟨⟨D, KRD.out, KLD.out⟩, rfl⟩) ?_
          rw [HD.out]
          iterate 8 (refine wpMix2_q rfl rfl ?_; go_big_quiet_step (fail); refine wpQuiet_nil ?_)
          refine wpMix2_h rfl fun R' hR' hO => ?_
          go_wp2_with (refine wp_storeP rfl 25 (.tmp 10) (.tmp 65) rfl Z 0 _ #[.slice wa' MP.W.length wc', .slice la' MP.L.length lc', .bool MP.F] _ rfl rfl _ KZD.out (by kernel_rfl) (Nat.le_of_ble_eq_true rfl) (by kernel_rfl) rfl ?_; intro u1 a1 a2 a3 a4; have KZu := hid a1; have KRu := hid (a2 R _ hRZ KRD.out); have KLu := hid (a2 L _ (Ne.symm nKZL) KLD.out); have HBu := hid (a3 V.heap.size V (by omega) HBD.out); have HOu : Hid (MemO V.heap.size wa' wc' la' lc' MP u1) := hid ⟨own_keep HOD.out.w fun j o hj ho => a2 j o (fun e => own_neP HOD.out.w KZD.out (by decide) (by rw [← e]; exact hj)) ho, own_keep HOD.out.l fun j o hj ho => a2 j o (fun e => own_neP HOD.out.l KZD.out (by decide) (by rw [← e]; exact hj)) ho⟩; clear a1 a2 a3 a4)
          refine hR' _ _ ⟨⟨u1, KRu.out, KLu.out⟩, rfl⟩ ?_
          clear hR' hO R'
          iterate 2 (refine wpMix2_q rfl rfl ?_; go_big_quiet_step (fail); refine wpQuiet_nil ?_)
          refine wpMix2_done ?_
          simp only [List.drop_succ_cons, List.drop_nil]
          go_wp2
          refine bodyPost_ret (tins_result KZu.out rfl rfl rfl) rfl ?_
          exact ⟨wa', wc', la', lc', by rw [HN'.out]; rfl, HOu.out, HBu.out⟩
      · have e := HE.out
        rw [if_pos (.inr (by rw [hmt]; rfl))] at e
        subst e
        go_wp2_with (refine wp_storeP rfl 25 (.tmp 10) (.tmp 36) rfl Z 0 _ #[.slice none 0 0, .slice none 0 0, .bool false] _ rfl rfl _ KZ5.out (by kernel_rfl) (Nat.le_of_ble_eq_true rfl) (by kernel_rfl) rfl ?_; intro u1 a1 a2 a3 a4; have KZu := hid a1; have HBu := hid (a3 V.heap.size V (by omega) HB5.out); clear a1 a2 a3 a4)
        refine bodyPost_ret (tins_result KZu.out rfl rfl rfl) rfl ?_
        exact ⟨none, 0, none, 0, rfl, memO_zero _ _, HBu.out⟩
end Go.Proofs.YtahicokokfcieaaGreatDoor
