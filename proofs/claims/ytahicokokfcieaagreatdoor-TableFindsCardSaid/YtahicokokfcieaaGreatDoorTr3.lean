/- The document's tables (printed by gen_tr3.py): Right, Step. -/
import Derived.Test.YtahicokokfcieaaGreatDoorTgAw
import Derived.Test.YtahicokokfcieaaGreatDoorTgAu
namespace Go.Proofs.YtahicokokfcieaaGreatDoor
open Go.RowKit
open Go.Proofs
set_option linter.unusedVariables false
attribute [local go_sem] Oper.semAt_some
theorem rStep19_result {W : World} {b4 b5 : Nat} {v4 v5 : Array Value} {tmps : Array Value} (h4 : W.heap[b4]? = some (.cells v4 25 (0, 0))) (q4 : tmps[4]?.getD undef = .pointer (some ⟨b4, 0, none⟩)) (h5 : W.heap[b5]? = some (.cells v5 43 (0, 0))) (q5 : tmps[5]?.getD undef = .pointer (some ⟨b5, 0, none⟩)) (s4 : v4.size = 3 := by rfl) (s5 : v5.size = 12 := by rfl) :
    (results Tryz.f26 tmps).run Tryz.prog W = .ok (.tuple #[.agg v4, .agg v5]) W := by
  have l4 := run_loadVar_row (P := Tryz.prog) W b4 25 25 v4 (0, 0) _ h4 Tryz.underlying25 rfl (by rw [s4]; kernel_rfl)
  have l5 := run_loadVar_row (P := Tryz.prog) W b5 43 43 v5 (0, 0) _ h5 Tryz.underlying43 rfl (by rw [s5]; kernel_rfl)
  have ha : ∀ b : Nat, (asAddr (.pointer (some ⟨b, 0, none⟩))).run Tryz.prog W = .ok ⟨b, 0, none⟩ W := fun b => rfl
  simp [results, Tryz.results26, q4, q5, ha, l4, l5]
def GivesLk19 (R : Mem × Lk) (w : World) (e : Ending) (W : World) : Prop := ∃ wa wc la lc, e = .returned (.tuple #[memV wa wc la lc R.1, lkV R.2]) ∧ MemL W wa wc la lc R.1 ∧ Below w.heap.size w W
set_option maxRecDepth 100000 in
set_option maxHeartbeats 16000000 in
theorem rStep19_any (M : Mem) (l : Lk) (wa la : Option Addr) (wc lc : Nat) (V : World) (h : MemL V wa wc la lc M) (hok : okM M = true) (hW : ∀ x ∈ M.W, x < 18446744073709551616) (hl : l.Ok) (hc : chkE l = true) :
    Calls Tryz.prog 26 #[memV wa wc la lc M, lkV l] V (GivesLk19 ((lookE M l).1, (lookE M l).2.1) V) := by
  obtain ⟨lp, root, key, array, many, ⟨sp, shash, skey, slink, snode, sval, sfound⟩⟩ := l
  obtain ⟨V1, hV1, hbV1, hsV1, hlV1⟩ := laid V #[.slice wa M.W.length wc, .slice la M.L.length lc, .bool M.F] 25
  obtain ⟨V2, hV2, hbV2, hsV2, hlV2⟩ := laid V1 #[.int .i64 lp, .int .u64 ((root : Nat) : Int), .int .u64 ((key : Nat) : Int), .int .u64 ((array : Nat) : Int), .int .i64 many, .int .i64 sp, .int .u64 ((shash : Nat) : Int), .int .u64 ((skey : Nat) : Int), .int .u64 ((slink : Nat) : Int), .int .u64 ((snode : Nat) : Int), .int .u64 ((sval : Nat) : Int), .bool sfound] 43
  obtain ⟨V3, hV3, hbV3, hsV3, hlV3⟩ := laid V2 #[.slice none 0 0, .slice none 0 0, .bool false] 25
  obtain ⟨V4, hV4, hbV4, hsV4, hlV4⟩ := laid V3 #[.int .i64 0, .int .u64 0, .int .u64 0, .int .u64 0, .int .i64 0, .int .i64 0, .int .u64 0, .int .u64 0, .int .u64 0, .int .u64 0, .int .u64 0, .bool false] 43
  obtain ⟨X, hX⟩ : ∃ X, V.heap.size = X := ⟨_, rfl⟩
  rw [hX] at hlV1
  obtain ⟨Y, hY⟩ : ∃ X, V1.heap.size = X := ⟨_, rfl⟩
  rw [hY] at hlV2
  obtain ⟨Z, hZ⟩ : ∃ X, V2.heap.size = X := ⟨_, rfl⟩
  rw [hZ] at hlV3
  obtain ⟨G, hG⟩ : ∃ X, V3.heap.size = X := ⟨_, rfl⟩
  rw [hG] at hlV4
  obtain ⟨aw, al⟩ := h.low hok (X := X) (G := G) (by omega)
  have HB := step (step (step hbV1 hbV2) hbV3) hbV4
  have HS : Hid (Sq 43 #[.int .i64 0, .int .u64 0, .int .u64 0, .int .u64 0, .int .i64 0, .int .i64 0, .int .u64 0, .int .u64 0, .int .u64 0, .int .u64 0, .int .u64 0, .bool false] V X Y Z G wa wc la lc M #[.int .i64 lp, .int .u64 ((root : Nat) : Int), .int .u64 ((key : Nat) : Int), .int .u64 ((array : Nat) : Int), .int .i64 many, .int .i64 sp, .int .u64 ((shash : Nat) : Int), .int .u64 ((skey : Nat) : Int), .int .u64 ((slink : Nat) : Int), .int .u64 ((snode : Nat) : Int), .int .u64 ((sval : Nat) : Int), .bool sfound] V4) := hid ⟨keep_laid hlV1 (step (step hbV2 hbV3) hbV4), keep_laid hlV2 (step hbV3 hbV4), keep_laid hlV3 hbV4, hlV4, h.grow HB, aw, al, HB, by omega, by omega, by omega, by omega⟩
  have hVY : V.heap.size ≤ Y := by omega
  have hwl := h.w.len
  have hll := h.l.len
  have HLO := hid hl
  have HOK := hid hok
  have HWW := hid hW
  have hlr := hl.root
  have hlk := hl.key
  dsimp only at hlr hlk
  unfold memV lkV lk12
  dsimp only
  have y0 := cell_laid (i := 0) HS.out.by_ rfl
  have HCK := hid hc
  have hGV : G < V4.heap.size := lt_laid HS.out.bg
  clear h hok hl hW hc aw al HB hbV1 hsV1 hlV1 hbV2 hsV2 hlV2 hbV3 hsV3 hlV3 hbV4 hsV4 hlV4
  go_enter Tryz.func26, Tryz.ntmps26
  by_cases h1 : lp = 1
  · subst h1
    have hs2 : 0 ≤ sp ∧ sp < 4 := by
      have := HCK.out
      unfold chkE at this
      dsimp only at this
      rw [if_pos rfl, Bool.and_eq_true] at this
      exact ⟨of_decide_eq_true this.1, of_decide_eq_true this.2⟩
    obtain ⟨⟨M2, s2, b2⟩, hM2⟩ : ∃ X, seekE M ⟨sp, shash, skey, slink, snode, sval, sfound⟩ = X := ⟨_, rfl⟩
    have hr := seekE_ok HOK.out HWW.out HLO.out.s hs2.1 (by show sp ≤ 5; omega)
    rw [hM2] at hr
    dsimp only at hr
    have HSP : Hid (sseekP M ⟨sp, shash, skey, slink, snode, sval, sfound⟩ = (M2, s2, 0)) := hid (by unfold sseekP; rw [if_neg (by rw [HOK.out]; decide), if_neg (by dsimp only; omega), hM2])
    have HLE : Hid (lookE M ⟨1, root, key, array, many, ⟨sp, shash, skey, slink, snode, sval, sfound⟩⟩ = (M2, ⟨if s2.ph = 4 then 2 else if s2.ph = 5 then 3 else 1, root, key, array, many, s2⟩, true)) := hid (by unfold lookE; dsimp only; rw [if_neg (by decide), if_pos rfl, HSP.out])
    have HST := hid (fun W (hm : MemL W wa wc la lc M) => rSeekStep_any M ⟨sp, shash, skey, slink, snode, sval, sfound⟩ wa la wc lc W hm HOK.out HLO.out.s hs2.1)
    rw [hM2] at HST
    unfold memV skV at HST
    dsimp only at HST
    have HR := hid hr
    clear hM2 hr HSP
    go_upto_region 2 with (fail)
    clear y0 hV1 hV2 hV3 hV4 hX hY hZ hG hs2
    have y5 := cell_laid (i := 5) HS.out.by_ rfl
    have y6 := cell_laid (i := 6) HS.out.by_ rfl
    have y7 := cell_laid (i := 7) HS.out.by_ rfl
    have y8 := cell_laid (i := 8) HS.out.by_ rfl
    have y9 := cell_laid (i := 9) HS.out.by_ rfl
    have y10 := cell_laid (i := 10) HS.out.by_ rfl
    have y11 := cell_laid (i := 11) HS.out.by_ rfl
    go_wp2_with (refine wp_loadW rfl 25 (.tmp 2) rfl X _ rfl _ HS.out.bx _ Tryz.underlying25 rfl (by kernel_rfl) ?_; intro v hv; subst hv)
    refine (HST.out V4 HS.out.mem).mono ?_
    rintro e w5 ⟨wa2, wc2, la2, lc2, rfl, hm5, hb5, kw, kl⟩
    unfold memV skV
    clear y5 y6 y7 y8 y9 y10 y11
    have HS5 := hid (HS.out.grow hb5)
    have aw5 := HS.out.aw.kept kw hGV
    have al5 := HS.out.al.kept kl hGV
    have HM5 := hid hm5
    clear hm5 hb5 kw kl HS HST hGV
    go_upto_region 3 with (first
      | (refine wp_storeP rfl 25 (.tmp 2) (.tmp 19) rfl X 0 _ #[.slice wa2 M2.W.length wc2, .slice la2 M2.L.length lc2, .bool M2.F] _ rfl rfl _ HS5.out.bx (by kernel_rfl) (Nat.le_of_ble_eq_true rfl) (by kernel_rfl) rfl ?_; intro w7 a1 a2 a3 a4; have HS7 := hid (HS5.out.putM HM5.out aw5 al5 a1 a2 a3); clear a1 a2 a3 a4 HS5 HM5; (try simp only [Act.put]))
      | (refine wp_storeP rfl 41 (.tmp 21) (.tmp 20) rfl Y 5 _ #[.int .i64 1, .int .u64 ((root : Nat) : Int), .int .u64 ((key : Nat) : Int), .int .u64 ((array : Nat) : Int), .int .i64 many, .int .i64 s2.ph, .int .u64 ((s2.hash : Nat) : Int), .int .u64 ((s2.key : Nat) : Int), .int .u64 ((s2.link : Nat) : Int), .int .u64 ((s2.node : Nat) : Int), .int .u64 ((s2.val : Nat) : Int), .bool s2.found] _ rfl rfl _ HS7.out.by_ (by kernel_rfl) (Nat.le_of_ble_eq_true rfl) (by kernel_rfl) rfl ?_; intro w8 a1 a2 a3 a4; have HSY := hid (HS7.out.putY a1 a2 a3); clear a1 a2 a3 a4 HS7; (try simp only [Act.put])))
    clear aw5 al5
    have y5 := cell_laid (i := 5) HSY.out.by_ rfl
    by_cases h4 : s2.ph = 4
    · skip
      rw [h4] at y5
      have y0 := cell_laid (i := 0) HSY.out.by_ rfl
      go_upto_region 5 with (refine wp_storeP rfl 3 (.tmp 30) (.tmp 29) rfl Y 0 _ #[.int .i64 2, .int .u64 ((root : Nat) : Int), .int .u64 ((key : Nat) : Int), .int .u64 ((array : Nat) : Int), .int .i64 many, .int .i64 s2.ph, .int .u64 ((s2.hash : Nat) : Int), .int .u64 ((s2.key : Nat) : Int), .int .u64 ((s2.link : Nat) : Int), .int .u64 ((s2.node : Nat) : Int), .int .u64 ((s2.val : Nat) : Int), .bool s2.found] _ rfl rfl _ HSY.out.by_ (by kernel_rfl) (Nat.le_of_ble_eq_true rfl) (by kernel_rfl) rfl ?_; intro uy a1 a2 a3 a4; replace HSY := hid (HSY.out.putY a1 a2 a3); clear a1 a2 a3 a4; (try simp only [Act.put]))
      clear y0 y5
      obtain ⟨D, hD⟩ : ∃ DX, World.drew uy = DX := ⟨_, rfl⟩
      have hbD : Below (uy).heap.size uy D := by rw [← hD]; exact (Below.refl _ _).drew
      have HSD := hid (HSY.out.grow hbD)
      have HD := hid hD
      clear hD hbD HSY
      haveI : Nonempty (RYX 43 X Y #[.slice wa2 M2.W.length wc2, .slice la2 M2.L.length lc2, .bool M2.F] #[.int .i64 2, .int .u64 ((root : Nat) : Int), .int .u64 ((key : Nat) : Int), .int .u64 ((array : Nat) : Int), .int .i64 many, .int .i64 s2.ph, .int .u64 ((s2.hash : Nat) : Int), .int .u64 ((s2.key : Nat) : Int), .int .u64 ((s2.link : Nat) : Int), .int .u64 ((s2.node : Nat) : Int), .int .u64 ((s2.val : Nat) : Int), .bool s2.found]) := ⟨⟨D, HSD.out.bx, HSD.out.by_⟩⟩
      refine wp_region_mix2 (fun W => ∃ z : RYX 43 X Y #[.slice wa2 M2.W.length wc2, .slice la2 M2.L.length lc2, .bool M2.F] #[.int .i64 2, .int .u64 ((root : Nat) : Int), .int .u64 ((key : Nat) : Int), .int .u64 ((array : Nat) : Int), .int .i64 many, .int .i64 s2.ph, .int .u64 ((s2.hash : Nat) : Int), .int .u64 ((s2.key : Nat) : Int), .int .u64 ((s2.link : Nat) : Int), .int .u64 ((s2.node : Nat) : Int), .int .u64 ((s2.val : Nat) : Int), .bool s2.found], W = z.w) 4 (.q 0 (.q 1 (.h 2 (.h 3 (.done))))) (by kernel_rfl) (by kernel_rfl) (by rw [HD.out]; exact ⟨⟨D, HSD.out.bx, HSD.out.by_⟩, rfl⟩) ?_
      rw [HD.out]
      refine wpMix2_q rfl rfl ?_
      refine wpQuiet_loadW rfl 25 (.tmp 2) rfl X _ rfl _ (by rintro _ ⟨z, rfl⟩; exact z.bx) _ Tryz.underlying25 rfl (by kernel_rfl) ?_
      intro v hv
      subst hv
      refine wpQuiet_nil ?_
      refine wpMix2_q rfl rfl ?_
      refine wpQuiet_loadW rfl 43 (.tmp 3) rfl Y _ rfl _ (by rintro _ ⟨z, rfl⟩; exact z.by_) _ Tryz.underlying43 rfl (by kernel_rfl) ?_
      intro v hv
      subst hv
      refine wpQuiet_nil ?_
      simp only [Act.put, List.setIfInBounds_toArray, List.set_cons_succ, List.set_cons_zero]
      refine wpMix2_h rfl fun R' hR' hO => ?_
      go_wp2_with (refine wp_storeP rfl 25 (.tmp 4) (.tmp 31) rfl Z 0 _ #[.slice wa2 M2.W.length wc2, .slice la2 M2.L.length lc2, .bool M2.F] _ rfl rfl _ HSD.out.bz (by kernel_rfl) (Nat.le_of_ble_eq_true rfl) (by kernel_rfl) rfl ?_; intro v1 a1 a2 a3 a4; have HSZ := hid (HSD.out.putZ a1 a2 a3); clear a1 a2 a3 a4; (try simp only [Act.put]))
      refine hR' _ _ ⟨⟨v1, HSZ.out.bx, HSZ.out.by_⟩, rfl⟩ ?_
      clear hR' hO R'
      refine wpMix2_h rfl fun R' hR' hO => ?_
      go_wp2_with (refine wp_storeP rfl 43 (.tmp 5) (.tmp 32) rfl G 0 _ #[.int .i64 2, .int .u64 ((root : Nat) : Int), .int .u64 ((key : Nat) : Int), .int .u64 ((array : Nat) : Int), .int .i64 many, .int .i64 s2.ph, .int .u64 ((s2.hash : Nat) : Int), .int .u64 ((s2.key : Nat) : Int), .int .u64 ((s2.link : Nat) : Int), .int .u64 ((s2.node : Nat) : Int), .int .u64 ((s2.val : Nat) : Int), .bool s2.found] _ rfl rfl _ HSZ.out.bg (by kernel_rfl) (Nat.le_of_ble_eq_true rfl) (by kernel_rfl) rfl ?_; intro v2 a1 a2 a3 a4; have HSF := hid (HSZ.out.putG a1 a2 a3); clear a1 a2 a3 a4; (try simp only [Act.put]))
      refine hR' _ _ ⟨⟨v2, HSF.out.2.2.2.2.1, HSF.out.2.2.2.2.2⟩, rfl⟩ ?_
      clear hR' hO R'
      refine wpMix2_done ?_
      simp only [List.drop_succ_cons, List.drop_nil]
      go_wp2
      refine bodyPost_ret (rStep19_result HSF.out.1 rfl HSF.out.2.1 rfl) rfl ?_
      rw [HLE.out]
      dsimp only
      rw [if_pos h4]
      exact ⟨wa2, wc2, la2, lc2, rfl, HSF.out.2.2.1, HSF.out.2.2.2.1⟩
    · by_cases h5 : s2.ph = 5
      · skip
        rw [h5] at y5
        have y0 := cell_laid (i := 0) HSY.out.by_ rfl
        go_upto_region 5 with (refine wp_storeP rfl 3 (.tmp 30) (.tmp 29) rfl Y 0 _ #[.int .i64 3, .int .u64 ((root : Nat) : Int), .int .u64 ((key : Nat) : Int), .int .u64 ((array : Nat) : Int), .int .i64 many, .int .i64 s2.ph, .int .u64 ((s2.hash : Nat) : Int), .int .u64 ((s2.key : Nat) : Int), .int .u64 ((s2.link : Nat) : Int), .int .u64 ((s2.node : Nat) : Int), .int .u64 ((s2.val : Nat) : Int), .bool s2.found] _ rfl rfl _ HSY.out.by_ (by kernel_rfl) (Nat.le_of_ble_eq_true rfl) (by kernel_rfl) rfl ?_; intro uy a1 a2 a3 a4; replace HSY := hid (HSY.out.putY a1 a2 a3); clear a1 a2 a3 a4; (try simp only [Act.put]))
        clear y0 y5
        obtain ⟨D, hD⟩ : ∃ DX, World.drew uy = DX := ⟨_, rfl⟩
        have hbD : Below (uy).heap.size uy D := by rw [← hD]; exact (Below.refl _ _).drew
        have HSD := hid (HSY.out.grow hbD)
        have HD := hid hD
        clear hD hbD HSY
        haveI : Nonempty (RYX 43 X Y #[.slice wa2 M2.W.length wc2, .slice la2 M2.L.length lc2, .bool M2.F] #[.int .i64 3, .int .u64 ((root : Nat) : Int), .int .u64 ((key : Nat) : Int), .int .u64 ((array : Nat) : Int), .int .i64 many, .int .i64 s2.ph, .int .u64 ((s2.hash : Nat) : Int), .int .u64 ((s2.key : Nat) : Int), .int .u64 ((s2.link : Nat) : Int), .int .u64 ((s2.node : Nat) : Int), .int .u64 ((s2.val : Nat) : Int), .bool s2.found]) := ⟨⟨D, HSD.out.bx, HSD.out.by_⟩⟩
        refine wp_region_mix2 (fun W => ∃ z : RYX 43 X Y #[.slice wa2 M2.W.length wc2, .slice la2 M2.L.length lc2, .bool M2.F] #[.int .i64 3, .int .u64 ((root : Nat) : Int), .int .u64 ((key : Nat) : Int), .int .u64 ((array : Nat) : Int), .int .i64 many, .int .i64 s2.ph, .int .u64 ((s2.hash : Nat) : Int), .int .u64 ((s2.key : Nat) : Int), .int .u64 ((s2.link : Nat) : Int), .int .u64 ((s2.node : Nat) : Int), .int .u64 ((s2.val : Nat) : Int), .bool s2.found], W = z.w) 4 (.q 0 (.q 1 (.h 2 (.h 3 (.done))))) (by kernel_rfl) (by kernel_rfl) (by rw [HD.out]; exact ⟨⟨D, HSD.out.bx, HSD.out.by_⟩, rfl⟩) ?_
        rw [HD.out]
        refine wpMix2_q rfl rfl ?_
        refine wpQuiet_loadW rfl 25 (.tmp 2) rfl X _ rfl _ (by rintro _ ⟨z, rfl⟩; exact z.bx) _ Tryz.underlying25 rfl (by kernel_rfl) ?_
        intro v hv
        subst hv
        refine wpQuiet_nil ?_
        refine wpMix2_q rfl rfl ?_
        refine wpQuiet_loadW rfl 43 (.tmp 3) rfl Y _ rfl _ (by rintro _ ⟨z, rfl⟩; exact z.by_) _ Tryz.underlying43 rfl (by kernel_rfl) ?_
        intro v hv
        subst hv
        refine wpQuiet_nil ?_
        simp only [Act.put, List.setIfInBounds_toArray, List.set_cons_succ, List.set_cons_zero]
        refine wpMix2_h rfl fun R' hR' hO => ?_
        go_wp2_with (refine wp_storeP rfl 25 (.tmp 4) (.tmp 31) rfl Z 0 _ #[.slice wa2 M2.W.length wc2, .slice la2 M2.L.length lc2, .bool M2.F] _ rfl rfl _ HSD.out.bz (by kernel_rfl) (Nat.le_of_ble_eq_true rfl) (by kernel_rfl) rfl ?_; intro v1 a1 a2 a3 a4; have HSZ := hid (HSD.out.putZ a1 a2 a3); clear a1 a2 a3 a4; (try simp only [Act.put]))
        refine hR' _ _ ⟨⟨v1, HSZ.out.bx, HSZ.out.by_⟩, rfl⟩ ?_
        clear hR' hO R'
        refine wpMix2_h rfl fun R' hR' hO => ?_
        go_wp2_with (refine wp_storeP rfl 43 (.tmp 5) (.tmp 32) rfl G 0 _ #[.int .i64 3, .int .u64 ((root : Nat) : Int), .int .u64 ((key : Nat) : Int), .int .u64 ((array : Nat) : Int), .int .i64 many, .int .i64 s2.ph, .int .u64 ((s2.hash : Nat) : Int), .int .u64 ((s2.key : Nat) : Int), .int .u64 ((s2.link : Nat) : Int), .int .u64 ((s2.node : Nat) : Int), .int .u64 ((s2.val : Nat) : Int), .bool s2.found] _ rfl rfl _ HSZ.out.bg (by kernel_rfl) (Nat.le_of_ble_eq_true rfl) (by kernel_rfl) rfl ?_; intro v2 a1 a2 a3 a4; have HSF := hid (HSZ.out.putG a1 a2 a3); clear a1 a2 a3 a4; (try simp only [Act.put]))
        refine hR' _ _ ⟨⟨v2, HSF.out.2.2.2.2.1, HSF.out.2.2.2.2.2⟩, rfl⟩ ?_
        clear hR' hO R'
        refine wpMix2_done ?_
        simp only [List.drop_succ_cons, List.drop_nil]
        go_wp2
        refine bodyPost_ret (rStep19_result HSF.out.1 rfl HSF.out.2.1 rfl) rfl ?_
        rw [HLE.out]
        dsimp only
        rw [if_neg h4, if_pos h5]
        exact ⟨wa2, wc2, la2, lc2, rfl, HSF.out.2.2.1, HSF.out.2.2.2.1⟩
      · have h3 : s2.ph < 4 := by have := HR.out; omega
        have t0 : decide (s2.ph ≥ 4) = false := decide_eq_false (by omega)
        have t1 : decide (4 ≤ s2.ph) = false := decide_eq_false (by omega)
        go_upto_region 5 with (fail)
        clear y5 t0 t1
        obtain ⟨D, hD⟩ : ∃ DX, World.drew w8 = DX := ⟨_, rfl⟩
        have hbD : Below (w8).heap.size w8 D := by rw [← hD]; exact (Below.refl _ _).drew
        have HSD := hid (HSY.out.grow hbD)
        have HD := hid hD
        clear hD hbD HSY
        haveI : Nonempty (RYX 43 X Y #[.slice wa2 M2.W.length wc2, .slice la2 M2.L.length lc2, .bool M2.F] #[.int .i64 1, .int .u64 ((root : Nat) : Int), .int .u64 ((key : Nat) : Int), .int .u64 ((array : Nat) : Int), .int .i64 many, .int .i64 s2.ph, .int .u64 ((s2.hash : Nat) : Int), .int .u64 ((s2.key : Nat) : Int), .int .u64 ((s2.link : Nat) : Int), .int .u64 ((s2.node : Nat) : Int), .int .u64 ((s2.val : Nat) : Int), .bool s2.found]) := ⟨⟨D, HSD.out.bx, HSD.out.by_⟩⟩
        refine wp_region_mix2 (fun W => ∃ z : RYX 43 X Y #[.slice wa2 M2.W.length wc2, .slice la2 M2.L.length lc2, .bool M2.F] #[.int .i64 1, .int .u64 ((root : Nat) : Int), .int .u64 ((key : Nat) : Int), .int .u64 ((array : Nat) : Int), .int .i64 many, .int .i64 s2.ph, .int .u64 ((s2.hash : Nat) : Int), .int .u64 ((s2.key : Nat) : Int), .int .u64 ((s2.link : Nat) : Int), .int .u64 ((s2.node : Nat) : Int), .int .u64 ((s2.val : Nat) : Int), .bool s2.found], W = z.w) 4 (.q 0 (.q 1 (.h 2 (.h 3 (.done))))) (by kernel_rfl) (by kernel_rfl) (by rw [HD.out]; exact ⟨⟨D, HSD.out.bx, HSD.out.by_⟩, rfl⟩) ?_
        rw [HD.out]
        refine wpMix2_q rfl rfl ?_
        refine wpQuiet_loadW rfl 25 (.tmp 2) rfl X _ rfl _ (by rintro _ ⟨z, rfl⟩; exact z.bx) _ Tryz.underlying25 rfl (by kernel_rfl) ?_
        intro v hv
        subst hv
        refine wpQuiet_nil ?_
        refine wpMix2_q rfl rfl ?_
        refine wpQuiet_loadW rfl 43 (.tmp 3) rfl Y _ rfl _ (by rintro _ ⟨z, rfl⟩; exact z.by_) _ Tryz.underlying43 rfl (by kernel_rfl) ?_
        intro v hv
        subst hv
        refine wpQuiet_nil ?_
        simp only [Act.put, List.setIfInBounds_toArray, List.set_cons_succ, List.set_cons_zero]
        refine wpMix2_h rfl fun R' hR' hO => ?_
        go_wp2_with (refine wp_storeP rfl 25 (.tmp 4) (.tmp 31) rfl Z 0 _ #[.slice wa2 M2.W.length wc2, .slice la2 M2.L.length lc2, .bool M2.F] _ rfl rfl _ HSD.out.bz (by kernel_rfl) (Nat.le_of_ble_eq_true rfl) (by kernel_rfl) rfl ?_; intro v1 a1 a2 a3 a4; have HSZ := hid (HSD.out.putZ a1 a2 a3); clear a1 a2 a3 a4; (try simp only [Act.put]))
        refine hR' _ _ ⟨⟨v1, HSZ.out.bx, HSZ.out.by_⟩, rfl⟩ ?_
        clear hR' hO R'
        refine wpMix2_h rfl fun R' hR' hO => ?_
        go_wp2_with (refine wp_storeP rfl 43 (.tmp 5) (.tmp 32) rfl G 0 _ #[.int .i64 1, .int .u64 ((root : Nat) : Int), .int .u64 ((key : Nat) : Int), .int .u64 ((array : Nat) : Int), .int .i64 many, .int .i64 s2.ph, .int .u64 ((s2.hash : Nat) : Int), .int .u64 ((s2.key : Nat) : Int), .int .u64 ((s2.link : Nat) : Int), .int .u64 ((s2.node : Nat) : Int), .int .u64 ((s2.val : Nat) : Int), .bool s2.found] _ rfl rfl _ HSZ.out.bg (by kernel_rfl) (Nat.le_of_ble_eq_true rfl) (by kernel_rfl) rfl ?_; intro v2 a1 a2 a3 a4; have HSF := hid (HSZ.out.putG a1 a2 a3); clear a1 a2 a3 a4; (try simp only [Act.put]))
        refine hR' _ _ ⟨⟨v2, HSF.out.2.2.2.2.1, HSF.out.2.2.2.2.2⟩, rfl⟩ ?_
        clear hR' hO R'
        refine wpMix2_done ?_
        simp only [List.drop_succ_cons, List.drop_nil]
        go_wp2
        refine bodyPost_ret (rStep19_result HSF.out.1 rfl HSF.out.2.1 rfl) rfl ?_
        rw [HLE.out]
        dsimp only
        rw [if_neg h4, if_neg h5]
        exact ⟨wa2, wc2, la2, lc2, rfl, HSF.out.2.2.1, HSF.out.2.2.2.1⟩
  · by_cases h0 : lp = 0
    · subst h0
      obtain ⟨m, hm⟩ : ∃ m, min root 4096 = m := ⟨_, rfl⟩
      have hm2 : m ≤ 4096 := by omega
      obtain ⟨⟨M2, x, d⟩, hM2⟩ : ∃ X, stepM M false ((m : Nat) : Int) 0 = X := ⟨_, rfl⟩
      have hx : x < 18446744073709551616 := stepM_word HWW.out hM2
      have HPL : Hid (1 ≤ M2.W.length ∧ 1 ≤ M2.L.length) := hid (by have e1 := stepM_len M false ((m : Nat) : Int) 0; have e2 := stepM_L M false ((m : Nat) : Int) 0; rw [hM2] at e1 e2; dsimp only at e1 e2; obtain ⟨a, b, d, -⟩ := okM_spec HOK.out; rw [e2]; omega)
      have HST := hid (fun W (hm : MemL W wa wc la lc M) => RefStep_any M wa la wc lc false 1 ((m : Nat) : Int) 0 0 W hm HOK.out (by omega) rfl)
      rw [hM2] at HST
      unfold memV at HST
      have HX := hid hM2
      have HMI := hid hm
      clear hM2
      go_upto_region 8 with (fail)
      clear y0 hV1 hV2 hV3 hV4 hX hY hZ hG h1
      have y1 := cell_laid (i := 1) HS.out.by_ rfl
      go_upto_if 40 with (fail)
      go_cut [6] (fun t6 W => t6 = .int .i64 ((m : Nat) : Int) ∧ W = V4)
      case first =>
        by_cases hlt : root < 4096
        · have t0 : decide (((root : Nat) : Int) < 4096) = true := decide_eq_true (by omega)
          have t1 : decide (root < 4096) = true := decide_eq_true hlt
          have hw : IntKind.i64.wrap ((root : Nat) : Int) = ((root : Nat) : Int) := by rw [IntKind.wrap_i64]; omega
          obtain rfl : root = m := by omega
          go_wp2
          go_meet
          exact ⟨rfl, rfl⟩
        · have t0 : decide (((root : Nat) : Int) < 4096) = false := decide_eq_false (by omega)
          have t1 : decide (root < 4096) = false := decide_eq_false hlt
          obtain rfl : 4096 = m := by omega
          go_wp2
          go_meet
          exact ⟨rfl, rfl⟩
      case rest =>
        obtain ⟨rfl, hwc⟩ := hcut
        rw [hwc]
        clear hwc y1
        go_upto_region 11 with (fail)
        go_wp2_with (refine wp_loadW rfl 25 (.tmp 2) rfl X _ rfl _ HS.out.bx _ Tryz.underlying25 rfl (by kernel_rfl) ?_; intro v hv; subst hv)
        refine (HST.out V4 HS.out.mem).mono ?_
        rintro e w5 ⟨wa2, wc2, la2, lc2, rfl, hm5, hb5, kw, kl⟩
        unfold memV
        have HS5 := hid (HS.out.grow hb5)
        have aw5 := HS.out.aw.kept kw hGV
        have al5 := HS.out.al.kept kl hGV
        have HM5 := hid hm5
        obtain ⟨w6, hw6, hb6, hs6, hl6⟩ := laid w5 #[.int .u64 0, .bool false] 111
        obtain ⟨Q, hQ⟩ : ∃ X, w5.heap.size = X := ⟨_, rfl⟩
        rw [hQ] at hl6
        have HS6 := hid (HS5.out.grow hb6)
        have HM6 := hid (HM5.out.grow hb6)
        have KQ6 := hid hl6
        have hGQ : G < Q := by have := HS5.out.bg; have := lt_laid this; omega
        have apQ : apartA wa2 Q ∧ apartA la2 Q := by
          obtain ⟨a, b⟩ := HM5.out.low' HPL.out (E := Q) (by omega)
          exact ⟨a, b⟩
        clear hm5 hb5 kw kl hb6 hs6 hl6 HS HS5 HM5 HST hGV
        have hVX := HS6.out.ord
        go_upto_region 12 with (first
          | (refine wp_storeP rfl 25 (.tmp 2) (.tmp 49) rfl X 0 _ #[.slice wa2 M2.W.length wc2, .slice la2 M2.L.length lc2, .bool M2.F] _ rfl rfl _ HS6.out.bx (by kernel_rfl) (Nat.le_of_ble_eq_true rfl) (by kernel_rfl) rfl ?_; intro w7 a1 a2 a3 a4; have HS7 := hid (HS6.out.putM HM6.out aw5 al5 a1 a2 a3); have KQ7 := hid (a2 Q _ (by omega) KQ6.out); clear a1 a2 a3 a4 HS6 HM6 KQ6; (try simp only [Act.put]))
          | (refine wp_storeP rfl 111 (.tmp 7) (.tmp 50) rfl Q 0 _ #[.int .u64 ((x : Nat) : Int), .bool d] _ rfl rfl _ KQ7.out (by kernel_rfl) (Nat.le_of_ble_eq_true rfl) (by kernel_rfl) rfl ?_; intro w8 a1 a2 a3 a4; have HY := hid (HS7.out.keep hGQ apQ.1 apQ.2 a2 (a3 _ _ (by omega) HS7.out.below)); have KQ := hid a1; clear a1 a2 a3 a4 HS7 KQ7; (try simp only [Act.put])))
        clear hw6 hQ hVX apQ aw5 al5
        have g0 := cell_laid (i := 0) KQ.out rfl
        have g1 := cell_laid (i := 1) KQ.out rfl
        cases hs : saysW x with
        | none =>
          cases d with
          | false =>
            have HLE : Hid (lookE M ⟨0, root, key, array, many, ⟨sp, shash, skey, slink, snode, sval, sfound⟩⟩ = (M2, ⟨3, root, key, array, many, ⟨sp, shash, skey, slink, snode, sval, sfound⟩⟩, true)) := hid (by
              unfold lookE
              dsimp only
              rw [if_pos rfl, HMI.out, HX.out]
              dsimp only
              rw [if_neg (by decide)])
            have HSY : Hid (∀ W, Calls Tryz.prog 33 #[.int .u64 ((x : Nat) : Int)] W (Ret (.tuple #[.int .u64 0, .int .i64 0, .bool false]) W)) := hid fun W => by
              have := rSays_any x W hx
              rw [hs] at this
              unfold rsaysV at this
              exact this
            clear hs hx HX HMI
            go_wp2_with fail
            refine (HSY.out w8).mono ?_
            rintro e w9 ⟨rfl, hb9⟩
            have HY9 := hid (HY.out.grow hb9)
            have KQ9 := hid (keep_laid KQ.out hb9)
            clear g0 g1 HY KQ hb9 HSY
            have g1 := cell_laid (i := 1) KQ9.out rfl
            go_upto_region 15 with (refine wp_storeP rfl 3 (.tmp 65) (.const (.int .i64 3)) rfl Y 0 _ #[.int .i64 3, .int .u64 ((root : Nat) : Int), .int .u64 ((key : Nat) : Int), .int .u64 ((array : Nat) : Int), .int .i64 many, .int .i64 sp, .int .u64 ((shash : Nat) : Int), .int .u64 ((skey : Nat) : Int), .int .u64 ((slink : Nat) : Int), .int .u64 ((snode : Nat) : Int), .int .u64 ((sval : Nat) : Int), .bool sfound] _ rfl rfl _ HY9.out.by_ (by kernel_rfl) (Nat.le_of_ble_eq_true rfl) (by kernel_rfl) rfl ?_; intro uy a1 a2 a3 a4; replace HY9 := hid (HY9.out.putY a1 a2 a3); clear a1 a2 a3 a4; (try simp only [Act.put]))
            clear g1
            obtain ⟨D, hD⟩ : ∃ DX, World.drew uy = DX := ⟨_, rfl⟩
            have hbD : Below (uy).heap.size uy D := by rw [← hD]; exact (Below.refl _ _).drew
            have HSD := hid (HY9.out.grow hbD)
            have HD := hid hD
            clear hD hbD HY9
            haveI : Nonempty (RYX 43 X Y #[.slice wa2 M2.W.length wc2, .slice la2 M2.L.length lc2, .bool M2.F] #[.int .i64 3, .int .u64 ((root : Nat) : Int), .int .u64 ((key : Nat) : Int), .int .u64 ((array : Nat) : Int), .int .i64 many, .int .i64 sp, .int .u64 ((shash : Nat) : Int), .int .u64 ((skey : Nat) : Int), .int .u64 ((slink : Nat) : Int), .int .u64 ((snode : Nat) : Int), .int .u64 ((sval : Nat) : Int), .bool sfound]) := ⟨⟨D, HSD.out.bx, HSD.out.by_⟩⟩
            refine wp_region_mix2 (fun W => ∃ z : RYX 43 X Y #[.slice wa2 M2.W.length wc2, .slice la2 M2.L.length lc2, .bool M2.F] #[.int .i64 3, .int .u64 ((root : Nat) : Int), .int .u64 ((key : Nat) : Int), .int .u64 ((array : Nat) : Int), .int .i64 many, .int .i64 sp, .int .u64 ((shash : Nat) : Int), .int .u64 ((skey : Nat) : Int), .int .u64 ((slink : Nat) : Int), .int .u64 ((snode : Nat) : Int), .int .u64 ((sval : Nat) : Int), .bool sfound], W = z.w) 4 (.q 0 (.q 1 (.h 2 (.h 3 (.done))))) (by kernel_rfl) (by kernel_rfl) (by rw [HD.out]; exact ⟨⟨D, HSD.out.bx, HSD.out.by_⟩, rfl⟩) ?_
            rw [HD.out]
            refine wpMix2_q rfl rfl ?_
            refine wpQuiet_loadW rfl 25 (.tmp 2) rfl X _ rfl _ (by rintro _ ⟨z, rfl⟩; exact z.bx) _ Tryz.underlying25 rfl (by kernel_rfl) ?_
            intro v hv
            subst hv
            refine wpQuiet_nil ?_
            refine wpMix2_q rfl rfl ?_
            refine wpQuiet_loadW rfl 43 (.tmp 3) rfl Y _ rfl _ (by rintro _ ⟨z, rfl⟩; exact z.by_) _ Tryz.underlying43 rfl (by kernel_rfl) ?_
            intro v hv
            subst hv
            refine wpQuiet_nil ?_
            simp only [Act.put, List.setIfInBounds_toArray, List.set_cons_succ, List.set_cons_zero]
            refine wpMix2_h rfl fun R' hR' hO => ?_
            go_wp2_with (refine wp_storeP rfl 25 (.tmp 4) (.tmp 66) rfl Z 0 _ #[.slice wa2 M2.W.length wc2, .slice la2 M2.L.length lc2, .bool M2.F] _ rfl rfl _ HSD.out.bz (by kernel_rfl) (Nat.le_of_ble_eq_true rfl) (by kernel_rfl) rfl ?_; intro v1 a1 a2 a3 a4; have HSZ := hid (HSD.out.putZ a1 a2 a3); clear a1 a2 a3 a4; (try simp only [Act.put]))
            refine hR' _ _ ⟨⟨v1, HSZ.out.bx, HSZ.out.by_⟩, rfl⟩ ?_
            clear hR' hO R'
            refine wpMix2_h rfl fun R' hR' hO => ?_
            go_wp2_with (refine wp_storeP rfl 43 (.tmp 5) (.tmp 67) rfl G 0 _ #[.int .i64 3, .int .u64 ((root : Nat) : Int), .int .u64 ((key : Nat) : Int), .int .u64 ((array : Nat) : Int), .int .i64 many, .int .i64 sp, .int .u64 ((shash : Nat) : Int), .int .u64 ((skey : Nat) : Int), .int .u64 ((slink : Nat) : Int), .int .u64 ((snode : Nat) : Int), .int .u64 ((sval : Nat) : Int), .bool sfound] _ rfl rfl _ HSZ.out.bg (by kernel_rfl) (Nat.le_of_ble_eq_true rfl) (by kernel_rfl) rfl ?_; intro v2 a1 a2 a3 a4; have HSF := hid (HSZ.out.putG a1 a2 a3); clear a1 a2 a3 a4; (try simp only [Act.put]))
            refine hR' _ _ ⟨⟨v2, HSF.out.2.2.2.2.1, HSF.out.2.2.2.2.2⟩, rfl⟩ ?_
            clear hR' hO R'
            refine wpMix2_done ?_
            simp only [List.drop_succ_cons, List.drop_nil]
            go_wp2
            refine bodyPost_ret (rStep19_result HSF.out.1 rfl HSF.out.2.1 rfl) rfl ?_
            rw [HLE.out]
            exact ⟨wa2, wc2, la2, lc2, rfl, HSF.out.2.2.1, HSF.out.2.2.2.1⟩
          | true =>
            have HLE : Hid (lookE M ⟨0, root, key, array, many, ⟨sp, shash, skey, slink, snode, sval, sfound⟩⟩ = (M2, ⟨3, root, key, array, many, ⟨sp, shash, skey, slink, snode, sval, sfound⟩⟩, true)) := hid (by
              unfold lookE
              dsimp only
              rw [if_pos rfl, HMI.out, HX.out]
              dsimp only
              rw [if_pos rfl, hs])
            have HSY : Hid (∀ W, Calls Tryz.prog 33 #[.int .u64 ((x : Nat) : Int)] W (Ret (.tuple #[.int .u64 0, .int .i64 0, .bool false]) W)) := hid fun W => by
              have := rSays_any x W hx
              rw [hs] at this
              unfold rsaysV at this
              exact this
            clear hs hx HX HMI
            go_wp2_with fail
            refine (HSY.out w8).mono ?_
            rintro e w9 ⟨rfl, hb9⟩
            have HY9 := hid (HY.out.grow hb9)
            have KQ9 := hid (keep_laid KQ.out hb9)
            clear g0 g1 HY KQ hb9 HSY
            have g1 := cell_laid (i := 1) KQ9.out rfl
            go_upto_region 15 with (refine wp_storeP rfl 3 (.tmp 65) (.const (.int .i64 3)) rfl Y 0 _ #[.int .i64 3, .int .u64 ((root : Nat) : Int), .int .u64 ((key : Nat) : Int), .int .u64 ((array : Nat) : Int), .int .i64 many, .int .i64 sp, .int .u64 ((shash : Nat) : Int), .int .u64 ((skey : Nat) : Int), .int .u64 ((slink : Nat) : Int), .int .u64 ((snode : Nat) : Int), .int .u64 ((sval : Nat) : Int), .bool sfound] _ rfl rfl _ HY9.out.by_ (by kernel_rfl) (Nat.le_of_ble_eq_true rfl) (by kernel_rfl) rfl ?_; intro uy a1 a2 a3 a4; replace HY9 := hid (HY9.out.putY a1 a2 a3); clear a1 a2 a3 a4; (try simp only [Act.put]))
            clear g1
            obtain ⟨D, hD⟩ : ∃ DX, World.drew uy = DX := ⟨_, rfl⟩
            have hbD : Below (uy).heap.size uy D := by rw [← hD]; exact (Below.refl _ _).drew
            have HSD := hid (HY9.out.grow hbD)
            have HD := hid hD
            clear hD hbD HY9
            haveI : Nonempty (RYX 43 X Y #[.slice wa2 M2.W.length wc2, .slice la2 M2.L.length lc2, .bool M2.F] #[.int .i64 3, .int .u64 ((root : Nat) : Int), .int .u64 ((key : Nat) : Int), .int .u64 ((array : Nat) : Int), .int .i64 many, .int .i64 sp, .int .u64 ((shash : Nat) : Int), .int .u64 ((skey : Nat) : Int), .int .u64 ((slink : Nat) : Int), .int .u64 ((snode : Nat) : Int), .int .u64 ((sval : Nat) : Int), .bool sfound]) := ⟨⟨D, HSD.out.bx, HSD.out.by_⟩⟩
            refine wp_region_mix2 (fun W => ∃ z : RYX 43 X Y #[.slice wa2 M2.W.length wc2, .slice la2 M2.L.length lc2, .bool M2.F] #[.int .i64 3, .int .u64 ((root : Nat) : Int), .int .u64 ((key : Nat) : Int), .int .u64 ((array : Nat) : Int), .int .i64 many, .int .i64 sp, .int .u64 ((shash : Nat) : Int), .int .u64 ((skey : Nat) : Int), .int .u64 ((slink : Nat) : Int), .int .u64 ((snode : Nat) : Int), .int .u64 ((sval : Nat) : Int), .bool sfound], W = z.w) 4 (.q 0 (.q 1 (.h 2 (.h 3 (.done))))) (by kernel_rfl) (by kernel_rfl) (by rw [HD.out]; exact ⟨⟨D, HSD.out.bx, HSD.out.by_⟩, rfl⟩) ?_
            rw [HD.out]
            refine wpMix2_q rfl rfl ?_
            refine wpQuiet_loadW rfl 25 (.tmp 2) rfl X _ rfl _ (by rintro _ ⟨z, rfl⟩; exact z.bx) _ Tryz.underlying25 rfl (by kernel_rfl) ?_
            intro v hv
            subst hv
            refine wpQuiet_nil ?_
            refine wpMix2_q rfl rfl ?_
            refine wpQuiet_loadW rfl 43 (.tmp 3) rfl Y _ rfl _ (by rintro _ ⟨z, rfl⟩; exact z.by_) _ Tryz.underlying43 rfl (by kernel_rfl) ?_
            intro v hv
            subst hv
            refine wpQuiet_nil ?_
            simp only [Act.put, List.setIfInBounds_toArray, List.set_cons_succ, List.set_cons_zero]
            refine wpMix2_h rfl fun R' hR' hO => ?_
            go_wp2_with (refine wp_storeP rfl 25 (.tmp 4) (.tmp 66) rfl Z 0 _ #[.slice wa2 M2.W.length wc2, .slice la2 M2.L.length lc2, .bool M2.F] _ rfl rfl _ HSD.out.bz (by kernel_rfl) (Nat.le_of_ble_eq_true rfl) (by kernel_rfl) rfl ?_; intro v1 a1 a2 a3 a4; have HSZ := hid (HSD.out.putZ a1 a2 a3); clear a1 a2 a3 a4; (try simp only [Act.put]))
            refine hR' _ _ ⟨⟨v1, HSZ.out.bx, HSZ.out.by_⟩, rfl⟩ ?_
            clear hR' hO R'
            refine wpMix2_h rfl fun R' hR' hO => ?_
            go_wp2_with (refine wp_storeP rfl 43 (.tmp 5) (.tmp 67) rfl G 0 _ #[.int .i64 3, .int .u64 ((root : Nat) : Int), .int .u64 ((key : Nat) : Int), .int .u64 ((array : Nat) : Int), .int .i64 many, .int .i64 sp, .int .u64 ((shash : Nat) : Int), .int .u64 ((skey : Nat) : Int), .int .u64 ((slink : Nat) : Int), .int .u64 ((snode : Nat) : Int), .int .u64 ((sval : Nat) : Int), .bool sfound] _ rfl rfl _ HSZ.out.bg (by kernel_rfl) (Nat.le_of_ble_eq_true rfl) (by kernel_rfl) rfl ?_; intro v2 a1 a2 a3 a4; have HSF := hid (HSZ.out.putG a1 a2 a3); clear a1 a2 a3 a4; (try simp only [Act.put]))
            refine hR' _ _ ⟨⟨v2, HSF.out.2.2.2.2.1, HSF.out.2.2.2.2.2⟩, rfl⟩ ?_
            clear hR' hO R'
            refine wpMix2_done ?_
            simp only [List.drop_succ_cons, List.drop_nil]
            go_wp2
            refine bodyPost_ret (rStep19_result HSF.out.1 rfl HSF.out.2.1 rfl) rfl ?_
            rw [HLE.out]
            exact ⟨wa2, wc2, la2, lc2, rfl, HSF.out.2.2.1, HSF.out.2.2.2.1⟩
        | some ad =>
          obtain ⟨a, dd⟩ := ad
          obtain ⟨hd2, hd4, ha⟩ := saysW_some hs
          obtain ⟨hdep, hp4, hp16⟩ := pow_dep hd2 hd4
          have hb := ofN_lt (key := key) (show dd ≤ 64 by omega)
          obtain ⟨b, hbb⟩ : ∃ b, ofN key dd = b := ⟨_, rfl⟩
          obtain ⟨p, hp⟩ : ∃ p, 2 ^ dd = p := ⟨_, rfl⟩
          rw [hbb, hp] at hb
          rw [hp] at hdep hp4 hp16
          cases d with
          | false =>
            have HLE : Hid (lookE M ⟨0, root, key, array, many, ⟨sp, shash, skey, slink, snode, sval, sfound⟩⟩ = (M2, ⟨3, root, key, array, many, ⟨sp, shash, skey, slink, snode, sval, sfound⟩⟩, true)) := hid (by
              unfold lookE
              dsimp only
              rw [if_pos rfl, HMI.out, HX.out]
              dsimp only
              rw [if_neg (by decide)])
            have HSY : Hid (∀ W, Calls Tryz.prog 33 #[.int .u64 ((x : Nat) : Int)] W (Ret (.tuple #[.int .u64 ((a : Nat) : Int), .int .i64 ((p : Nat) : Int), .bool true]) W)) := hid fun W => by
              have := rSays_any x W hx
              rw [hs] at this
              unfold rsaysV at this
              dsimp only at this
              rw [hp] at this
              exact this
            clear hs hx HX HMI
            go_wp2_with fail
            refine (HSY.out w8).mono ?_
            rintro e w9 ⟨rfl, hb9⟩
            have HY9 := hid (HY.out.grow hb9)
            have KQ9 := hid (keep_laid KQ.out hb9)
            clear g0 g1 HY KQ hb9 HSY
            have g1 := cell_laid (i := 1) KQ9.out rfl
            go_upto_region 15 with (refine wp_storeP rfl 3 (.tmp 65) (.const (.int .i64 3)) rfl Y 0 _ #[.int .i64 3, .int .u64 ((root : Nat) : Int), .int .u64 ((key : Nat) : Int), .int .u64 ((array : Nat) : Int), .int .i64 many, .int .i64 sp, .int .u64 ((shash : Nat) : Int), .int .u64 ((skey : Nat) : Int), .int .u64 ((slink : Nat) : Int), .int .u64 ((snode : Nat) : Int), .int .u64 ((sval : Nat) : Int), .bool sfound] _ rfl rfl _ HY9.out.by_ (by kernel_rfl) (Nat.le_of_ble_eq_true rfl) (by kernel_rfl) rfl ?_; intro uy a1 a2 a3 a4; replace HY9 := hid (HY9.out.putY a1 a2 a3); clear a1 a2 a3 a4; (try simp only [Act.put]))
            clear g1
            obtain ⟨D, hD⟩ : ∃ DX, World.drew uy = DX := ⟨_, rfl⟩
            have hbD : Below (uy).heap.size uy D := by rw [← hD]; exact (Below.refl _ _).drew
            have HSD := hid (HY9.out.grow hbD)
            have HD := hid hD
            clear hD hbD HY9
            haveI : Nonempty (RYX 43 X Y #[.slice wa2 M2.W.length wc2, .slice la2 M2.L.length lc2, .bool M2.F] #[.int .i64 3, .int .u64 ((root : Nat) : Int), .int .u64 ((key : Nat) : Int), .int .u64 ((array : Nat) : Int), .int .i64 many, .int .i64 sp, .int .u64 ((shash : Nat) : Int), .int .u64 ((skey : Nat) : Int), .int .u64 ((slink : Nat) : Int), .int .u64 ((snode : Nat) : Int), .int .u64 ((sval : Nat) : Int), .bool sfound]) := ⟨⟨D, HSD.out.bx, HSD.out.by_⟩⟩
            refine wp_region_mix2 (fun W => ∃ z : RYX 43 X Y #[.slice wa2 M2.W.length wc2, .slice la2 M2.L.length lc2, .bool M2.F] #[.int .i64 3, .int .u64 ((root : Nat) : Int), .int .u64 ((key : Nat) : Int), .int .u64 ((array : Nat) : Int), .int .i64 many, .int .i64 sp, .int .u64 ((shash : Nat) : Int), .int .u64 ((skey : Nat) : Int), .int .u64 ((slink : Nat) : Int), .int .u64 ((snode : Nat) : Int), .int .u64 ((sval : Nat) : Int), .bool sfound], W = z.w) 4 (.q 0 (.q 1 (.h 2 (.h 3 (.done))))) (by kernel_rfl) (by kernel_rfl) (by rw [HD.out]; exact ⟨⟨D, HSD.out.bx, HSD.out.by_⟩, rfl⟩) ?_
            rw [HD.out]
            refine wpMix2_q rfl rfl ?_
            refine wpQuiet_loadW rfl 25 (.tmp 2) rfl X _ rfl _ (by rintro _ ⟨z, rfl⟩; exact z.bx) _ Tryz.underlying25 rfl (by kernel_rfl) ?_
            intro v hv
            subst hv
            refine wpQuiet_nil ?_
            refine wpMix2_q rfl rfl ?_
            refine wpQuiet_loadW rfl 43 (.tmp 3) rfl Y _ rfl _ (by rintro _ ⟨z, rfl⟩; exact z.by_) _ Tryz.underlying43 rfl (by kernel_rfl) ?_
            intro v hv
            subst hv
            refine wpQuiet_nil ?_
            simp only [Act.put, List.setIfInBounds_toArray, List.set_cons_succ, List.set_cons_zero]
            refine wpMix2_h rfl fun R' hR' hO => ?_
            go_wp2_with (refine wp_storeP rfl 25 (.tmp 4) (.tmp 66) rfl Z 0 _ #[.slice wa2 M2.W.length wc2, .slice la2 M2.L.length lc2, .bool M2.F] _ rfl rfl _ HSD.out.bz (by kernel_rfl) (Nat.le_of_ble_eq_true rfl) (by kernel_rfl) rfl ?_; intro v1 a1 a2 a3 a4; have HSZ := hid (HSD.out.putZ a1 a2 a3); clear a1 a2 a3 a4; (try simp only [Act.put]))
            refine hR' _ _ ⟨⟨v1, HSZ.out.bx, HSZ.out.by_⟩, rfl⟩ ?_
            clear hR' hO R'
            refine wpMix2_h rfl fun R' hR' hO => ?_
            go_wp2_with (refine wp_storeP rfl 43 (.tmp 5) (.tmp 67) rfl G 0 _ #[.int .i64 3, .int .u64 ((root : Nat) : Int), .int .u64 ((key : Nat) : Int), .int .u64 ((array : Nat) : Int), .int .i64 many, .int .i64 sp, .int .u64 ((shash : Nat) : Int), .int .u64 ((skey : Nat) : Int), .int .u64 ((slink : Nat) : Int), .int .u64 ((snode : Nat) : Int), .int .u64 ((sval : Nat) : Int), .bool sfound] _ rfl rfl _ HSZ.out.bg (by kernel_rfl) (Nat.le_of_ble_eq_true rfl) (by kernel_rfl) rfl ?_; intro v2 a1 a2 a3 a4; have HSF := hid (HSZ.out.putG a1 a2 a3); clear a1 a2 a3 a4; (try simp only [Act.put]))
            refine hR' _ _ ⟨⟨v2, HSF.out.2.2.2.2.1, HSF.out.2.2.2.2.2⟩, rfl⟩ ?_
            clear hR' hO R'
            refine wpMix2_done ?_
            simp only [List.drop_succ_cons, List.drop_nil]
            go_wp2
            refine bodyPost_ret (rStep19_result HSF.out.1 rfl HSF.out.2.1 rfl) rfl ?_
            rw [HLE.out]
            exact ⟨wa2, wc2, la2, lc2, rfl, HSF.out.2.2.1, HSF.out.2.2.2.1⟩
          | true =>
            have HLE : Hid (lookE M ⟨0, root, key, array, many, ⟨sp, shash, skey, slink, snode, sval, sfound⟩⟩ = (M2, ⟨1, root, key, a, ((p : Nat) : Int), seekK (a + b) (hashN key) key⟩, true)) := hid (by
              unfold lookE
              dsimp only
              rw [if_pos rfl, HMI.out, HX.out]
              dsimp only
              rw [if_pos rfl, hs]
              dsimp only
              rw [hbb, hp])
            have HSY : Hid (∀ W, Calls Tryz.prog 33 #[.int .u64 ((x : Nat) : Int)] W (Ret (.tuple #[.int .u64 ((a : Nat) : Int), .int .i64 ((p : Nat) : Int), .bool true]) W)) := hid fun W => by
              have := rSays_any x W hx
              rw [hs] at this
              unfold rsaysV at this
              dsimp only at this
              rw [hp] at this
              exact this
            have HOF : Hid (∀ W, Calls Tryz.prog 36 #[.int .u64 ((key : Nat) : Int), .int .i64 ((p : Nat) : Int)] W (Ret (.int .i64 ((b : Nat) : Int)) W)) := hid fun W => by
              have := rOf_any key dd ((p : Nat) : Int) W hdep
              rw [hbb] at this
              exact this
            obtain ⟨t, ht⟩ : ∃ t, a + b = t := ⟨_, rfl⟩
            have hsi : IntKind.u64.wrap (((a : Nat) : Int) + ((b : Nat) : Int)) = ((t : Nat) : Int) := by rw [IntKind.wrap_u64]; omega
            have hsc : IntKind.u64.wrap ((b : Nat) : Int) = ((b : Nat) : Int) := by rw [IntKind.wrap_u64]; omega
            rw [ht] at HLE
            clear hs hx HX HMI hdep hp hbb ht
            go_wp2_with fail
            refine (HSY.out w8).mono ?_
            rintro e w9 ⟨rfl, hb9⟩
            have HY9 := hid (HY.out.grow hb9)
            have KQ9 := hid (keep_laid KQ.out hb9)
            clear g0 g1 HY KQ hb9 HSY
            have g1 := cell_laid (i := 1) KQ9.out rfl
            go_upto_region 17 with (first | (refine wp_storeP rfl 3 (.tmp 70) (.const (.int .i64 1)) rfl Y 0 _ #[.int .i64 1, .int .u64 ((root : Nat) : Int), .int .u64 ((key : Nat) : Int), .int .u64 ((array : Nat) : Int), .int .i64 many, .int .i64 sp, .int .u64 ((shash : Nat) : Int), .int .u64 ((skey : Nat) : Int), .int .u64 ((slink : Nat) : Int), .int .u64 ((snode : Nat) : Int), .int .u64 ((sval : Nat) : Int), .bool sfound] _ rfl rfl _ HY9.out.by_ (by kernel_rfl) (Nat.le_of_ble_eq_true rfl) (by kernel_rfl) rfl ?_; intro uy a1 a2 a3 a4; replace HY9 := hid (HY9.out.putY a1 a2 a3); clear a1 a2 a3 a4; (try simp only [Act.put])) | (refine wp_storeP rfl 26 (.tmp 71) (.tmp 68) rfl Y 3 _ #[.int .i64 1, .int .u64 ((root : Nat) : Int), .int .u64 ((key : Nat) : Int), .int .u64 ((a : Nat) : Int), .int .i64 many, .int .i64 sp, .int .u64 ((shash : Nat) : Int), .int .u64 ((skey : Nat) : Int), .int .u64 ((slink : Nat) : Int), .int .u64 ((snode : Nat) : Int), .int .u64 ((sval : Nat) : Int), .bool sfound] _ rfl rfl _ HY9.out.by_ (by kernel_rfl) (Nat.le_of_ble_eq_true rfl) (by kernel_rfl) rfl ?_; intro uy a1 a2 a3 a4; replace HY9 := hid (HY9.out.putY a1 a2 a3); clear a1 a2 a3 a4; (try simp only [Act.put])) | (refine wp_storeP rfl 3 (.tmp 72) (.tmp 69) rfl Y 4 _ #[.int .i64 1, .int .u64 ((root : Nat) : Int), .int .u64 ((key : Nat) : Int), .int .u64 ((a : Nat) : Int), .int .i64 ((p : Nat) : Int), .int .i64 sp, .int .u64 ((shash : Nat) : Int), .int .u64 ((skey : Nat) : Int), .int .u64 ((slink : Nat) : Int), .int .u64 ((snode : Nat) : Int), .int .u64 ((sval : Nat) : Int), .bool sfound] _ rfl rfl _ HY9.out.by_ (by kernel_rfl) (Nat.le_of_ble_eq_true rfl) (by kernel_rfl) rfl ?_; intro uy a1 a2 a3 a4; replace HY9 := hid (HY9.out.putY a1 a2 a3); clear a1 a2 a3 a4; (try simp only [Act.put])))
            clear g1
            obtain ⟨D, hD⟩ : ∃ DX, World.drew uy = DX := ⟨_, rfl⟩
            have hbD : Below (uy).heap.size uy D := by rw [← hD]; exact (Below.refl _ _).drew
            have HSD := hid (HY9.out.grow hbD)
            have HD := hid hD
            clear hD hbD HY9
            haveI HNE : Nonempty (RYX 43 X Y #[.slice wa2 M2.W.length wc2, .slice la2 M2.L.length lc2, .bool M2.F] #[.int .i64 1, .int .u64 ((root : Nat) : Int), .int .u64 ((key : Nat) : Int), .int .u64 ((a : Nat) : Int), .int .i64 ((p : Nat) : Int), .int .i64 sp, .int .u64 ((shash : Nat) : Int), .int .u64 ((skey : Nat) : Int), .int .u64 ((slink : Nat) : Int), .int .u64 ((snode : Nat) : Int), .int .u64 ((sval : Nat) : Int), .bool sfound]) := ⟨⟨D, HSD.out.bx, HSD.out.by_⟩⟩
            have r2 := ryx_y HNE 2 (.int .u64 ((key : Nat) : Int)) rfl
            refine wp_region_turn (fun W => ∃ z : RYX 43 X Y #[.slice wa2 M2.W.length wc2, .slice la2 M2.L.length lc2, .bool M2.F] #[.int .i64 1, .int .u64 ((root : Nat) : Int), .int .u64 ((key : Nat) : Int), .int .u64 ((a : Nat) : Int), .int .i64 ((p : Nat) : Int), .int .i64 sp, .int .u64 ((shash : Nat) : Int), .int .u64 ((skey : Nat) : Int), .int .u64 ((slink : Nat) : Int), .int .u64 ((snode : Nat) : Int), .int .u64 ((sval : Nat) : Int), .bool sfound], W = z.w) 14 (.p 0 (.q 1 (.p 3 (.q 4 (.p 5 (.p 6 (.q 7 (.p 8 (.h 2 (.h 9 (.p 10 (.p 11 (.p 12 (.p 13 (.h 14 .done))))))))))))))) (by kernel_rfl) (by kernel_rfl) (by rw [HD.out]; exact ⟨⟨D, HSD.out.bx, HSD.out.by_⟩, rfl⟩) ?_
            rw [HD.out]
            (refine wpTurn_p rfl rfl ?_; go_big_quiet_step (fail); refine wpQuiet_nil ?_)
            (refine wpTurn_q rfl rfl ?_; go_big_quiet_step (fail); refine wpQuiet_nil ?_)
            (refine wpTurn_p rfl rfl ?_; go_big_quiet_step (fail); refine wpQuiet_nil ?_)
            (refine wpTurn_q rfl rfl ?_; go_big_quiet_step (fail); refine wpQuiet_nil ?_)
            (refine wpTurn_p rfl rfl ?_; go_big_quiet_step (fail); refine wpQuiet_nil ?_)
            (refine wpTurn_p rfl rfl ?_; go_big_quiet_step (fail); refine wpQuiet_nil ?_)
            (refine wpTurn_q rfl rfl ?_; go_big_quiet_step (fail); refine wpQuiet_nil ?_)
            (refine wpTurn_p rfl rfl ?_; go_big_quiet_step (fail); refine wpQuiet_nil ?_)
            refine wpTurn_h rfl rfl fun R' hR' hO => ?_
            go_wp2_with fail
            refine (rHash_any key D).mono ?_
            rintro e w10 ⟨rfl, hb10⟩
            have HS10 := hid (HSD.out.grow hb10)
            clear hb10
            go_wp2
            refine hR' _ _ ⟨⟨w10, HS10.out.bx, HS10.out.by_⟩, rfl⟩ ?_
            clear hR' hO R'
            refine wpTurn_h rfl rfl fun R' hR' hO => ?_
            go_wp2_with fail
            refine (HOF.out w10).mono ?_
            rintro e w11 ⟨rfl, hb11⟩
            have HS11 := hid (HS10.out.grow hb11)
            clear hb11
            go_wp2
            refine hR' _ _ ⟨⟨w11, HS11.out.bx, HS11.out.by_⟩, rfl⟩ ?_
            clear hR' hO R'
            (refine wpTurn_p rfl rfl ?_; go_big_quiet_step (fail); refine wpQuiet_nil ?_)
            (refine wpTurn_p rfl rfl ?_; go_big_quiet_step (fail); refine wpQuiet_nil ?_)
            (refine wpTurn_p rfl rfl ?_; go_big_quiet_step (fail); refine wpQuiet_nil ?_)
            (refine wpTurn_p rfl rfl ?_; go_big_quiet_step (fail); refine wpQuiet_nil ?_)
            refine wpTurn_m rfl fun R' hR' hO => ?_
            go_wp2_with (refine wp_storeP rfl 41 (.tmp 86) (.tmp 85) rfl Y 5 _ #[.int .i64 1, .int .u64 ((root : Nat) : Int), .int .u64 ((key : Nat) : Int), .int .u64 ((a : Nat) : Int), .int .i64 ((p : Nat) : Int), .int .i64 0, .int .u64 (((hashN key) : Nat) : Int), .int .u64 ((key : Nat) : Int), .int .u64 ((t : Nat) : Int), .int .u64 ((0 : Nat) : Int), .int .u64 ((0 : Nat) : Int), .bool false] _ rfl rfl _ HS11.out.by_ (by kernel_rfl) (Nat.le_of_ble_eq_true rfl) (by kernel_rfl) rfl ?_; intro w12 a1 a2 a3 a4; have HS12 := hid (HS11.out.putY a1 a2 a3); clear a1 a2 a3 a4; (try simp only [Act.put]))
            refine hR' _ _ ?_
            clear hR' hO R'
            refine wpTurn_done ?_
            clear r2 HD HNE HSD HS10 HS11 hsi hsc HOF
            go_upto_region 18 with (fail)
            obtain ⟨D, hD⟩ : ∃ DX, World.drew w12 = DX := ⟨_, rfl⟩
            have hbD : Below (w12).heap.size w12 D := by rw [← hD]; exact (Below.refl _ _).drew
            have HSD := hid (HS12.out.grow hbD)
            have HD := hid hD
            clear hD hbD HS12
            haveI : Nonempty (RYX 43 X Y #[.slice wa2 M2.W.length wc2, .slice la2 M2.L.length lc2, .bool M2.F] #[.int .i64 1, .int .u64 ((root : Nat) : Int), .int .u64 ((key : Nat) : Int), .int .u64 ((a : Nat) : Int), .int .i64 ((p : Nat) : Int), .int .i64 0, .int .u64 (((hashN key) : Nat) : Int), .int .u64 ((key : Nat) : Int), .int .u64 ((t : Nat) : Int), .int .u64 ((0 : Nat) : Int), .int .u64 ((0 : Nat) : Int), .bool false]) := ⟨⟨D, HSD.out.bx, HSD.out.by_⟩⟩
            refine wp_region_mix2 (fun W => ∃ z : RYX 43 X Y #[.slice wa2 M2.W.length wc2, .slice la2 M2.L.length lc2, .bool M2.F] #[.int .i64 1, .int .u64 ((root : Nat) : Int), .int .u64 ((key : Nat) : Int), .int .u64 ((a : Nat) : Int), .int .i64 ((p : Nat) : Int), .int .i64 0, .int .u64 (((hashN key) : Nat) : Int), .int .u64 ((key : Nat) : Int), .int .u64 ((t : Nat) : Int), .int .u64 ((0 : Nat) : Int), .int .u64 ((0 : Nat) : Int), .bool false], W = z.w) 4 (.q 0 (.q 1 (.h 2 (.h 3 (.done))))) (by kernel_rfl) (by kernel_rfl) (by rw [HD.out]; exact ⟨⟨D, HSD.out.bx, HSD.out.by_⟩, rfl⟩) ?_
            rw [HD.out]
            refine wpMix2_q rfl rfl ?_
            refine wpQuiet_loadW rfl 25 (.tmp 2) rfl X _ rfl _ (by rintro _ ⟨z, rfl⟩; exact z.bx) _ Tryz.underlying25 rfl (by kernel_rfl) ?_
            intro v hv
            subst hv
            refine wpQuiet_nil ?_
            refine wpMix2_q rfl rfl ?_
            refine wpQuiet_loadW rfl 43 (.tmp 3) rfl Y _ rfl _ (by rintro _ ⟨z, rfl⟩; exact z.by_) _ Tryz.underlying43 rfl (by kernel_rfl) ?_
            intro v hv
            subst hv
            refine wpQuiet_nil ?_
            simp only [Act.put, List.setIfInBounds_toArray, List.set_cons_succ, List.set_cons_zero]
            refine wpMix2_h rfl fun R' hR' hO => ?_
            go_wp2_with (refine wp_storeP rfl 25 (.tmp 4) (.tmp 87) rfl Z 0 _ #[.slice wa2 M2.W.length wc2, .slice la2 M2.L.length lc2, .bool M2.F] _ rfl rfl _ HSD.out.bz (by kernel_rfl) (Nat.le_of_ble_eq_true rfl) (by kernel_rfl) rfl ?_; intro v1 a1 a2 a3 a4; have HSZ := hid (HSD.out.putZ a1 a2 a3); clear a1 a2 a3 a4; (try simp only [Act.put]))
            refine hR' _ _ ⟨⟨v1, HSZ.out.bx, HSZ.out.by_⟩, rfl⟩ ?_
            clear hR' hO R'
            refine wpMix2_h rfl fun R' hR' hO => ?_
            go_wp2_with (refine wp_storeP rfl 43 (.tmp 5) (.tmp 88) rfl G 0 _ #[.int .i64 1, .int .u64 ((root : Nat) : Int), .int .u64 ((key : Nat) : Int), .int .u64 ((a : Nat) : Int), .int .i64 ((p : Nat) : Int), .int .i64 0, .int .u64 (((hashN key) : Nat) : Int), .int .u64 ((key : Nat) : Int), .int .u64 ((t : Nat) : Int), .int .u64 ((0 : Nat) : Int), .int .u64 ((0 : Nat) : Int), .bool false] _ rfl rfl _ HSZ.out.bg (by kernel_rfl) (Nat.le_of_ble_eq_true rfl) (by kernel_rfl) rfl ?_; intro v2 a1 a2 a3 a4; have HSF := hid (HSZ.out.putG a1 a2 a3); clear a1 a2 a3 a4; (try simp only [Act.put]))
            refine hR' _ _ ⟨⟨v2, HSF.out.2.2.2.2.1, HSF.out.2.2.2.2.2⟩, rfl⟩ ?_
            clear hR' hO R'
            refine wpMix2_done ?_
            simp only [List.drop_succ_cons, List.drop_nil]
            go_wp2
            refine bodyPost_ret (rStep19_result HSF.out.1 rfl HSF.out.2.1 rfl) rfl ?_
            rw [HLE.out]
            exact ⟨wa2, wc2, la2, lc2, rfl, HSF.out.2.2.1, HSF.out.2.2.2.1⟩
    · have hc2 : 2 ≤ lp ∧ lp ≤ 3 := by
        have := HCK.out
        unfold chkE at this
        dsimp only at this
        rw [if_neg h1, Bool.and_eq_true] at this
        have a := of_decide_eq_true this.1
        have b := of_decide_eq_true this.2
        omega
      have HLE : Hid (lookE M ⟨lp, root, key, array, many, ⟨sp, shash, skey, slink, snode, sval, sfound⟩⟩ = (M, ⟨lp, root, key, array, many, ⟨sp, shash, skey, slink, snode, sval, sfound⟩⟩, false)) := hid (by unfold lookE; dsimp only; rw [if_neg h0, if_neg h1])
      have t1 : (lp == 1) = false := by simp [h1]
      have t2 : decide (lp > 1) = true := decide_eq_true (by omega)
      have t3 : decide (1 < lp) = true := decide_eq_true (by omega)
      go_upto_region 7 with (fail)
      clear y0 t1 t2 t3 hV1 hV2 hV3 hV4 hX hY hZ hG hc2
      obtain ⟨D, hD⟩ : ∃ DX, World.drew V4 = DX := ⟨_, rfl⟩
      have hbD : Below (V4).heap.size V4 D := by rw [← hD]; exact (Below.refl _ _).drew
      have HSD := hid (HS.out.grow hbD)
      have HD := hid hD
      clear hD hbD HS
      haveI : Nonempty (RYX 43 X Y #[.slice wa M.W.length wc, .slice la M.L.length lc, .bool M.F] #[.int .i64 lp, .int .u64 ((root : Nat) : Int), .int .u64 ((key : Nat) : Int), .int .u64 ((array : Nat) : Int), .int .i64 many, .int .i64 sp, .int .u64 ((shash : Nat) : Int), .int .u64 ((skey : Nat) : Int), .int .u64 ((slink : Nat) : Int), .int .u64 ((snode : Nat) : Int), .int .u64 ((sval : Nat) : Int), .bool sfound]) := ⟨⟨D, HSD.out.bx, HSD.out.by_⟩⟩
      refine wp_region_mix2 (fun W => ∃ z : RYX 43 X Y #[.slice wa M.W.length wc, .slice la M.L.length lc, .bool M.F] #[.int .i64 lp, .int .u64 ((root : Nat) : Int), .int .u64 ((key : Nat) : Int), .int .u64 ((array : Nat) : Int), .int .i64 many, .int .i64 sp, .int .u64 ((shash : Nat) : Int), .int .u64 ((skey : Nat) : Int), .int .u64 ((slink : Nat) : Int), .int .u64 ((snode : Nat) : Int), .int .u64 ((sval : Nat) : Int), .bool sfound], W = z.w) 4 (.q 0 (.q 1 (.h 2 (.h 3 (.done))))) (by kernel_rfl) (by kernel_rfl) (by rw [HD.out]; exact ⟨⟨D, HSD.out.bx, HSD.out.by_⟩, rfl⟩) ?_
      rw [HD.out]
      refine wpMix2_q rfl rfl ?_
      refine wpQuiet_loadW rfl 25 (.tmp 2) rfl X _ rfl _ (by rintro _ ⟨z, rfl⟩; exact z.bx) _ Tryz.underlying25 rfl (by kernel_rfl) ?_
      intro v hv
      subst hv
      refine wpQuiet_nil ?_
      refine wpMix2_q rfl rfl ?_
      refine wpQuiet_loadW rfl 43 (.tmp 3) rfl Y _ rfl _ (by rintro _ ⟨z, rfl⟩; exact z.by_) _ Tryz.underlying43 rfl (by kernel_rfl) ?_
      intro v hv
      subst hv
      refine wpQuiet_nil ?_
      simp only [Act.put, List.setIfInBounds_toArray, List.set_cons_succ, List.set_cons_zero]
      refine wpMix2_h rfl fun R' hR' hO => ?_
      go_wp2_with (refine wp_storeP rfl 25 (.tmp 4) (.tmp 36) rfl Z 0 _ #[.slice wa M.W.length wc, .slice la M.L.length lc, .bool M.F] _ rfl rfl _ HSD.out.bz (by kernel_rfl) (Nat.le_of_ble_eq_true rfl) (by kernel_rfl) rfl ?_; intro v1 a1 a2 a3 a4; have HSZ := hid (HSD.out.putZ a1 a2 a3); clear a1 a2 a3 a4; (try simp only [Act.put]))
      refine hR' _ _ ⟨⟨v1, HSZ.out.bx, HSZ.out.by_⟩, rfl⟩ ?_
      clear hR' hO R'
      refine wpMix2_h rfl fun R' hR' hO => ?_
      go_wp2_with (refine wp_storeP rfl 43 (.tmp 5) (.tmp 37) rfl G 0 _ #[.int .i64 lp, .int .u64 ((root : Nat) : Int), .int .u64 ((key : Nat) : Int), .int .u64 ((array : Nat) : Int), .int .i64 many, .int .i64 sp, .int .u64 ((shash : Nat) : Int), .int .u64 ((skey : Nat) : Int), .int .u64 ((slink : Nat) : Int), .int .u64 ((snode : Nat) : Int), .int .u64 ((sval : Nat) : Int), .bool sfound] _ rfl rfl _ HSZ.out.bg (by kernel_rfl) (Nat.le_of_ble_eq_true rfl) (by kernel_rfl) rfl ?_; intro v2 a1 a2 a3 a4; have HSF := hid (HSZ.out.putG a1 a2 a3); clear a1 a2 a3 a4; (try simp only [Act.put]))
      refine hR' _ _ ⟨⟨v2, HSF.out.2.2.2.2.1, HSF.out.2.2.2.2.2⟩, rfl⟩ ?_
      clear hR' hO R'
      refine wpMix2_done ?_
      simp only [List.drop_succ_cons, List.drop_nil]
      go_wp2
      refine bodyPost_ret (rStep19_result HSF.out.1 rfl HSF.out.2.1 rfl) rfl ?_
      rw [HLE.out]
      exact ⟨wa, wc, la, lc, rfl, HSF.out.2.2.1, HSF.out.2.2.2.1⟩
end Go.Proofs.YtahicokokfcieaaGreatDoor
