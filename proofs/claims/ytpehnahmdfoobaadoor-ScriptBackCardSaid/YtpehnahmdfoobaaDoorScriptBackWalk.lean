/- ScriptBack: its walk: the call returns true and writes on nothing that was there. -/
import Derived.Test.YtpehnahmdfoobaaDoorScript21
namespace Go.Proofs.YtpehnahmdfoobaaDoor.scriptBack
open Go.RowKit
open Go.Proofs
set_option linter.unusedVariables false

theorem wtake {w : World} {a : Option Addr} {n c m : Nat} {l : List Nat} (h : Leads w a n c (wcells l)) (hl : l.length = n) (hm : m ≤ n) : Leads w a m c (wcells (l.take m)) := by
  obtain ⟨h1, h2, ⟨h3, h4⟩ | ⟨b, off, h3, h4, h5⟩⟩ := h
  · obtain rfl : m = 0 := by omega
    exact ⟨by omega, h2, .inl ⟨rfl, by simp [wcells]⟩⟩
  · refine ⟨by omega, h2, .inr ⟨b, off, h3, h4, fun i v hv => h5 i v ?_⟩⟩
    have e : wcells (l.take m) = (wcells l).take m := by simp [wcells]
    rw [e] at hv
    rw [List.getElem?_take] at hv
    split at hv
    · exact hv
    · cases hv

set_option maxRecDepth 100000 in
set_option maxHeartbeats 4000000 in
theorem walk (S : Scr) (la : Option Addr) (lc : Nat) (us : List Value) (pa : Option Addr) (pc : Nat) (ws : List Nat) (a : Option Addr) (n cap : Nat) (w : World) (h : ScrL w la lc us pa pc S) (hS : S.Ok) (hl : ws.length = n) (hw : Leads w a n cap (wcells ws)) (hok : wok ws) (hG : Glob w) :
    Calls Tryd.prog 5 #[scrV la lc pa pc S, .slice a n cap] w (Ret (.bool true) w) := by
  obtain ⟨w1, hw1, hb1, hs1, hl1⟩ := laid w #[.int .i64 S.C, .int .i64 S.P, .slice la S.ls.length lc, .slice pa S.ps.length pc] 35
  obtain ⟨X, hX⟩ : ∃ X, w.heap.size = X := ⟨_, rfl⟩
  rw [hX] at hl1 hs1
  have HW := hid fun V (hV : Below w.heap.size w V) => wakes_any V (hG.grow hV)
  have HO := hid fun V (hV : Below w.heap.size w V) => own_S S la pa lc pc us V hS (h.grow hV)
  have HG := hid fun V (hV : Below w.heap.size w V) => hG.grow hV
  obtain ⟨T, hT⟩ : ∃ T, ownS S = T := ⟨_, rfl⟩
  have HTok : Hid T.Ok := hid (by rw [← hT]; exact ownS_ok hS)
  have HTf := hid (ownS_few S)
  rw [hT] at HO HTf
  obtain ⟨m, hm⟩ : ∃ m, min n 600 = m := ⟨_, rfl⟩
  have hmI : min (((n : Nat) : Int)) 600 = ((m : Nat) : Int) := by omega
  have hmn : m ≤ n := by omega
  have hm6 : m ≤ 600 := by omega
  have hmc : m ≤ cap := Nat.le_trans hmn hw.1
  have hml := hw.len
  have hmlen : (ws.take m).length = m := by rw [List.length_take]; omega
  have hwok : ∀ x ∈ ws.take m, x < 18446744073709551616 := fun x hx => hok x (List.mem_of_mem_take hx)
  have HL := hid (wtake hw hl hmn)
  obtain ⟨q, hq⟩ : ∃ q, ws.take m = q := ⟨_, rfl⟩
  rw [hq] at HL hmlen hwok
  have HR := hid fun V (hV : Below w.heap.size w V) => Read_S q a m cap V hmlen (by omega) hwok (HL.out.grow hV) (hG.grow hV)
  obtain ⟨U, hU⟩ : ∃ U, rdS q = U := ⟨_, rfl⟩
  have HU := hid (read_ok q hwok)
  rw [hU] at HR HU
  have HB1 := hid hb1
  have HL1 := hid hl1
  clear h hS hl hw hok hG hm hq hmlen hwok hb1 hl1 hT hU
  unfold scrV at HO ⊢
  go_enter Tryd.func5, Tryd.ntmps5
  go_wp2_with fail
  refine (HW.out _ HB1.out).mono ?_
  rintro e w2 ⟨rfl, hb2⟩
  obtain ⟨p0, p1, p2, p3⟩ := cells4 (keep_laid HL1.out hb2)
  have HB2 := hid (step HB1.out hb2)
  clear hb2
  go_wp2_with fail
  refine (HO.out _ HB2.out).mono ?_
  rintro e w3 ⟨lb, ld, vs, pb, pd, rfl, hT, hb3⟩
  unfold scrV
  have HT := hid hT
  have HB3 := hid (step HB2.out hb3)
  obtain ⟨w4, Y, hw4, hY, hs4, ⟨y0, y1, y2, y3⟩, ⟨z0, z1, z2, z3⟩, hput⟩ := scr_put w3
  go_upto_region 4 with (fail)
  obtain ⟨w5, hw5, hb5, hl5⟩ := hput.out (.int .i64 T.C) (.int .i64 T.P) (.slice lb T.ls.length ld) (.slice pb T.ps.length pd)
  rw [← hw5]
  have HB5 := hid (step HB3.out hb5)
  have HL5 := hid hl5
  have HT5 := hid (HT.out.grow hb5)
  obtain ⟨q0, q1, q2, q3⟩ := cells4 hl5
  clear hw5 y0 y1 y2 y3 z0 z1 z2 z3 hw4 hY hs4 hput hb5 hl5 hT hb3
  go_cut [6, 7] (fun t6 t7 V => Below w5.heap.size w5 V ∧ ((okS T = true ∧ t7 = .int .i64 0 ∧ ∃ a6 c6, t6 = .slice a6 (ofW T).length c6 ∧ Leads V a6 (ofW T).length c6 (wcells (ofW T))) ∨ (okS T = false ∧ t7 = .int .i64 130)))
  case first =>
    by_cases hok : okS T = true
    · have HOF := hid (Of_S T lb pb ld pd vs w5 HT5.out HTok.out (HG.out _ HB5.out) hok)
      have HOK := hid hok
      unfold scrV at HOF
      clear hok
      go_wp2_with fail
      refine HOF.out.mono ?_
      rintro e w6 ⟨a6, c6, rfl, hl6, hb6⟩
      have HL6 := hid hl6
      have HB6 := hid hb6
      clear hl6 hb6
      go_wp2
      go_meet
      exact ⟨HB6.out, .inl ⟨HOK.out, rfl, a6, c6, rfl, HL6.out⟩⟩
    · have hno : okS T = false := by simpa using hok
      have HOF := hid (Of_no T lb pb ld pd vs w5 HT5.out (by have := HTf.out.1; omega) (fun cs hcs => by have := HTf.out.2 cs hcs; omega) hno)
      have HOK := hid hno
      unfold scrV at HOF
      clear hok hno
      go_wp2_with fail
      refine HOF.out.mono ?_
      rintro e w6 ⟨rfl, hb6⟩
      have HB6 := hid hb6
      clear hb6
      go_wp2
      go_meet
      exact ⟨HB6.out, .inr ⟨HOK.out, rfl⟩⟩
  case rest =>
  obtain ⟨hb6, hway⟩ := hcut
  have HB56 := hid hb6
  clear hb6 q0 q1 q2 q3
  have HWAY := hid hway
  clear hway
  go_upto_region 5 with (fail)
  go_cut [28] (fun t28 V => t28 = .bool false ∧ Below w.heap.size w V)
  case first =>
    rcases HWAY.out with ⟨hok, rfl, a6, c6, rfl, hl6⟩ | ⟨hok, rfl⟩
    · have HOK := hid hok
      have hb6 := HB56.out
      have HL6 := hid hl6
      have HB6 := hid (step HB5.out hb6)
      have HT6 := hid (HT5.out.grow hb6)
      have HY6 := hid (keep_laid HL5.out hb6)
      have r0 : ∀ z : Ext wc, z.v.cell? ⟨Y, 0, none⟩ = some (.int .i64 T.C) := fun z => (cells4 (keep_laid HY6.out z.b)).1
      have r1 : ∀ z : Ext wc, z.v.cell? ⟨Y, 1, none⟩ = some (.int .i64 T.P) := fun z => (cells4 (keep_laid HY6.out z.b)).2.1
      have r2 : ∀ z : Ext wc, z.v.cell? ⟨Y, 2, none⟩ = some (.slice lb T.ls.length ld) := fun z => (cells4 (keep_laid HY6.out z.b)).2.2.1
      have r3 : ∀ z : Ext wc, z.v.cell? ⟨Y, 3, none⟩ = some (.slice pb T.ps.length pd) := fun z => (cells4 (keep_laid HY6.out z.b)).2.2.2
      clear hl6 hb6 hok HWAY
      refine wp_region_mix2 (fun V => ∃ z : Ext wc, V = z.v) 9 (.q 0 (.q 1 (.q 2 (.q 3 (.q 5 (.h 4 (.h 6 (.q 7 (.q 8 (.done)))))))))) (by kernel_rfl) (by kernel_rfl) ⟨⟨_, (Below.refl _ _).drew⟩, rfl⟩ ?_
      repeat (refine wpMix2_q rfl rfl ?_; go_big_quiet_step (fail); refine wpQuiet_nil ?_)
      refine wpMix2_h rfl fun R' hR' hO => ?_
      have hb6d : Below wc.heap.size wc wc.drew := (Below.refl _ _).drew
      go_wp2_with fail
      refine (Read_of_S T a6 c6 _ HTok.out HOK.out (HL6.out.grow hb6d) (HG.out _ (step HB6.out hb6d))).mono ?_
      rintro e w7 ⟨la7, lc7, vs7, pa7, pc7, rfl, hS7, hb7⟩
      unfold scrV
      have hb67 := step hb6d hb7
      have HS7 := hid hS7
      have HT7 := hid (HT6.out.grow hb67)
      have HSM := hid (Same_S T la7 lb pa7 pb lc7 ld pc7 pd vs7 vs w7 HTok.out HS7.out HT7.out)
      unfold scrV at HSM
      clear hS7
      go_wp2
      refine hR' _ _ ⟨⟨w7, hb67⟩, rfl⟩ ?_
      refine wpMix2_h rfl fun R' hR' hO => ?_
      go_wp2_with fail
      refine HSM.out.mono ?_
      rintro e w8 ⟨rfl, hb8⟩
      have hb68 := step hb67 hb8
      go_wp2
      refine hR' _ _ ⟨⟨w8, hb68⟩, rfl⟩ ?_
      repeat (refine wpMix2_q rfl rfl ?_; go_big_quiet_step (fail); refine wpQuiet_nil ?_)
      refine wpMix2_done ?_
      simp only [List.drop_succ_cons, List.drop_nil]
      go_wp2
      go_meet
      exact ⟨rfl, step HB6.out hb68⟩
    · have HOK := hid hok
      clear hok HWAY
      refine wp_region_mix2 (fun V => ∃ z : Ext wc, V = z.v) 9 (.q 0 (.q 1 (.q 2 (.q 3 (.q 5 (.h 4 (.h 6 (.q 7 (.q 8 (.done)))))))))) (by kernel_rfl) (by kernel_rfl) ⟨⟨_, (Below.refl _ _).drew⟩, rfl⟩ ?_
      repeat (refine wpMix2_q rfl rfl ?_; go_big_quiet_step (fail); refine wpQuiet_nil ?_)
      refine wpMix2_h rfl fun R' hR' hO => ?_
      go_wp2
      refine hR' _ _ ⟨⟨_, (Below.refl _ _).drew⟩, rfl⟩ ?_
      refine wpMix2_h rfl fun R' hR' hO => ?_
      go_wp2
      refine hR' _ _ ⟨⟨_, (Below.refl _ _).drew⟩, rfl⟩ ?_
      repeat (refine wpMix2_q rfl rfl ?_; go_big_quiet_step (fail); refine wpQuiet_nil ?_)
      refine wpMix2_done ?_
      simp only [List.drop_succ_cons, List.drop_nil]
      go_wp2
      go_meet
      exact ⟨rfl, (step HB5.out HB56.out).drew⟩
  case rest =>
    obtain ⟨rfl, hbV⟩ := hcut
    have HBV := hid hbV
    clear hbV p0 p1 p2 p3 HB56 HWAY HB5 HL5 HT5
    go_wp2_with fail
    refine (HR.out _ HBV.out).mono ?_
    rintro e w3 ⟨lb, ld, vs, pb, pd, rfl, hT, hb3⟩
    unfold scrV
    have HT := hid hT
    have HB3 := hid (step HBV.out hb3)
    obtain ⟨w4, Y, hw4, hY, hs4, ⟨y0, y1, y2, y3⟩, ⟨z0, z1, z2, z3⟩, hput⟩ := scr_put w3
    clear hT hb3
    go_upto_region 8 with (fail)
    obtain ⟨w5, hw5, hb5, hl5⟩ := hput.out (.int .i64 U.C) (.int .i64 U.P) (.slice lb U.ls.length ld) (.slice pb U.ps.length pd)
    rw [← hw5]
    have HB5 := hid (step HB3.out hb5)
    have HL5 := hid hl5
    have HT5 := hid (HT.out.grow hb5)
    obtain ⟨q0, q1, q2, q3⟩ := cells4 hl5
    clear hw5 y0 y1 y2 y3 z0 z1 z2 z3 hw4 hY hs4 hput hb5 hl5
    have HOF := hid (Of_S U lb pb ld pd vs w5 HT5.out HU.out.2 (HG.out _ HB5.out) HU.out.1)
    unfold scrV at HOF
    go_wp2_with fail
    refine HOF.out.mono ?_
    rintro e w6 ⟨a6, c6, rfl, hl6, hb6⟩
    have HL6 := hid hl6
    have HB6 := hid (step HB5.out hb6)
    have HT6 := hid (HT5.out.grow hb6)
    have HY6 := hid (keep_laid HL5.out hb6)
    have r0 : ∀ z : Ext w6, z.v.cell? ⟨Y, 0, none⟩ = some (.int .i64 U.C) := fun z => (cells4 (keep_laid HY6.out z.b)).1
    have r1 : ∀ z : Ext w6, z.v.cell? ⟨Y, 1, none⟩ = some (.int .i64 U.P) := fun z => (cells4 (keep_laid HY6.out z.b)).2.1
    have r2 : ∀ z : Ext w6, z.v.cell? ⟨Y, 2, none⟩ = some (.slice lb U.ls.length ld) := fun z => (cells4 (keep_laid HY6.out z.b)).2.2.1
    have r3 : ∀ z : Ext w6, z.v.cell? ⟨Y, 3, none⟩ = some (.slice pb U.ps.length pd) := fun z => (cells4 (keep_laid HY6.out z.b)).2.2.2
    clear hl6 hb6 q0 q1 q2 q3
    go_upto_region 9 with (fail)
    refine wp_region_mix2 (fun V => ∃ z : Ext w6, V = z.v) 14 (.q 0 (.h 1 (.q 2 (.q 3 (.q 4 (.q 5 (.q 6 (.q 7 (.q 8 (.q 10 (.h 9 (.h 11 (.q 12 (.q 13 (.done))))))))))))))) (by kernel_rfl) (by kernel_rfl) ⟨⟨_, (Below.refl _ _).drew⟩, rfl⟩ ?_
    repeat (refine wpMix2_q rfl rfl ?_; go_big_quiet_step (fail); refine wpQuiet_nil ?_)
    refine wpMix2_h rfl fun R' hR' hO => ?_
    have hb6d : Below w6.heap.size w6 w6.drew := (Below.refl _ _).drew
    have HCK := hid (Check_S U lb pb ld pd vs w6.drew (HT6.out.grow hb6d) HU.out.1)
    unfold scrV at HCK
    go_wp2_with fail
    refine HCK.out.mono ?_
    rintro e w7 ⟨rfl, hb7⟩
    have hb67 := step hb6d hb7
    clear hb7
    go_wp2
    refine hR' _ _ ⟨⟨w7, hb67⟩, rfl⟩ ?_
    repeat (refine wpMix2_q rfl rfl ?_; go_big_quiet_step (fail); refine wpQuiet_nil ?_)
    refine wpMix2_h rfl fun R' hR' hO => ?_
    go_wp2_with fail
    refine (Read_of_S U a6 c6 _ HU.out.2 HU.out.1 (HL6.out.grow hb67) (HG.out _ (step HB6.out hb67))).mono ?_
    rintro e w8 ⟨la7, lc7, vs7, pa7, pc7, rfl, hS7, hb8⟩
    unfold scrV
    have hb68 := step hb67 hb8
    have HS7 := hid hS7
    have HT7 := hid (HT6.out.grow hb68)
    have HSM := hid (Same_S U la7 lb pa7 pb lc7 ld pc7 pd vs7 vs w8 HU.out.2 HS7.out HT7.out)
    unfold scrV at HSM
    clear hS7
    go_wp2
    refine hR' _ _ ⟨⟨w8, hb68⟩, rfl⟩ ?_
    refine wpMix2_h rfl fun R' hR' hO => ?_
    go_wp2_with fail
    refine HSM.out.mono ?_
    rintro e w9 ⟨rfl, hb9⟩
    have hb69 := step hb68 hb9
    go_wp2
    refine hR' _ _ ⟨⟨w9, hb69⟩, rfl⟩ ?_
    repeat (refine wpMix2_q rfl rfl ?_; go_big_quiet_step (fail); refine wpQuiet_nil ?_)
    refine wpMix2_done ?_
    simp only [List.drop_succ_cons, List.drop_nil]
    go_wp2
    go_ret
    exact ⟨rfl, step HB6.out hb69⟩
end Go.Proofs.YtpehnahmdfoobaaDoor.scriptBack
