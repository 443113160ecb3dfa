/- ScriptReads: its walk: the call returns true and writes on nothing that was there. -/
import Derived.Test.YtpehnahmdfoobaaDoorScriptRef5
import Derived.Test.YtpehnahmdfoobaaDoorScriptRef2
namespace Go.Proofs.YtpehnahmdfoobaaDoor.scriptReads
open Go.RowKit
open Go.Proofs
set_option linter.unusedVariables false

theorem wtake {w : World} {a : Option Addr} {n c m : Nat} {l : List Nat} (h : Leads w a n c (wcells l)) (hl : l.length = n) (hm : m ≤ n) : Leads w a m c (wcells (l.take m)) := by
  obtain ⟨h1, h2, ⟨h3, h4⟩ | ⟨b, off, h3, h4, h5⟩⟩ := h
  · obtain rfl : m = 0 := by omega
    exact ⟨by omega, h2, .inl ⟨rfl, by simp [wcells]⟩⟩
  · refine ⟨by omega, h2, .inr ⟨b, off, h3, h4, fun i v hv => h5 i v ?_⟩⟩
    have e : wcells (l.take m) = (wcells l).take m := by simp [wcells]
    rw [e] at hv
    rw [List.getElem?_take] at hv
    split at hv
    · exact hv
    · cases hv
theorem wone (l : List Nat) : ∀ u ∈ wcells l, u.oneCell' = true := by
  intro u hu
  obtain ⟨x, -, rfl⟩ := List.mem_map.1 hu
  rfl
theorem icells_get {zs : List Int} {i : Nat} (h : i < zs.length) : (icells zs)[i]? = some (.int .i64 (zs[i])) := by unfold icells; rw [List.getElem?_map, List.getElem?_eq_getElem h]; rfl
theorem icells_set (zs : List Int) (i : Nat) (z : Int) : (icells zs).set i (.int .i64 z) = icells (zs.set i z) := by simp [icells, List.map_set]

set_option maxRecDepth 100000 in
set_option maxHeartbeats 4000000 in
theorem walk (ws : List Nat) (a : Option Addr) (n cap : Nat) (w : World) (hl : ws.length = n) (hw : Leads w a n cap (wcells ws)) (hok : wok ws) (hG : Glob w) :
    Calls Tryd.prog 4 #[.slice a n cap] w (Ret (.bool true) w) := by
  have HW := hid (wakes_any w hG)
  have HG := hid fun V (hV : Below w.heap.size w V) => hG.grow hV
  obtain ⟨m, hm⟩ : ∃ m, min n 600 = m := ⟨_, rfl⟩
  have hmI : min (((n : Nat) : Int)) 600 = ((m : Nat) : Int) := by omega
  have hmn : m ≤ n := by omega
  have hm6 : m ≤ 600 := by omega
  have hmc : m ≤ cap := Nat.le_trans hmn hw.1
  have hml := hw.len
  have hmlen : (ws.take m).length = m := by rw [List.length_take]; omega
  have hwok : ∀ x ∈ ws.take m, x < 18446744073709551616 := fun x hx => hok x (List.mem_of_mem_take hx)
  have HL := hid (wtake hw hl hmn)
  obtain ⟨q, hq⟩ : ∃ q, ws.take m = q := ⟨_, rfl⟩
  rw [hq] at HL hmlen hwok
  have HCL := hid fun V (hV : Below w.heap.size w V) => CloneW_any a m cap (wcells q) V (HL.out.grow hV) (by simp [wcells, hmlen]) (by omega) (wone q)
  have HU := hid (read_ok q hwok)
  have HQL := hid hmlen
  have HQW := hid hwok
  clear hl hw hok hG hm hq hmlen hwok
  go_enter Tryd.func4, Tryd.ntmps4
  go_wp2_with fail
  refine HW.out.mono ?_
  rintro e w2 ⟨rfl, hb2⟩
  have HB2 := hid hb2
  clear hb2
  go_wp2_with fail
  refine (HCL.out _ HB2.out).mono ?_
  rintro e w3 ⟨v3, rfl, ho3, hb3⟩
  obtain ⟨xa, xc, rfl, hx3⟩ := Leads.of_own ho3
  have HX := hid hx3
  have hxl := hx3.len
  have hxm := hx3.1
  have HB3 := hid (step HB2.out hb3)
  clear ho3 hb3 hx3
  go_wp2_with fail
  refine (Read_any q xa m xc w3 HQL.out (by omega) HQW.out HX.out (HG.out _ HB3.out)).mono ?_
  rintro e w4 ⟨g_, vs, pv, base, rfl, R, a', r', c', calls', hJ⟩
  obtain ⟨pa, pc, hpv, hSL⟩ := hJ.scrL (readC_in q).2.1
  subst hpv
  obtain ⟨np, hnp⟩ : ∃ np, (readL q).2.length = np := ⟨_, rfl⟩
  have hpick := hJ.pick
  rw [hnp] at hpick
  rw [hnp]
  have HNP := hid hnp
  have HPK := hid hpick
  have HSL := hid (show ScrL w4 (some ⟨g_, 0, none⟩) (readC q) vs pa pc (rdS q) from hSL)
  have hlo := hJ.lo
  have HLO := hid (show w3.heap.size ≤ base by omega)
  have HBB := hid (show base ≤ w4.heap.size by have := lt_laid hJ.tab; omega)
  have HJB := hid hJ.below
  have hpl := (Leads.of_own1 hpick).len
  obtain ⟨CC, hCC⟩ : ∃ CC, readC q = CC := ⟨_, rfl⟩
  obtain ⟨PP, hPP⟩ : ∃ PP, readP q = PP := ⟨_, rfl⟩
  have HLL : Hid ((rdS q).ls.length = CC) := hid (by rw [← hCC]; exact hJ.llen)
  have HSC : Hid ((rdS q).C = ((CC : Nat) : Int) ∧ (rdS q).P = ((PP : Nat) : Int)) := hid ⟨by rw [← hCC]; rfl, by rw [← hPP]; rfl⟩
  have HSN : Hid ((rdS q).ps.length = np) := hid hnp
  rw [hCC] at HSL
  rw [hCC, hPP]
  clear hJ hSL hnp hpick hCC hPP hlo
  obtain ⟨w5, Y, hw5, hY, hs5, ⟨y0, y1, y2, y3⟩, ⟨z0, z1, z2, z3⟩, hput⟩ := scr_put w4
  go_upto_region 5 with (fail)
  obtain ⟨w6, hw6, hb6, hl6⟩ := hput.out (.int .i64 ((CC : Nat) : Int)) (.int .i64 ((PP : Nat) : Int)) (.slice (some ⟨g_, 0, none⟩) CC CC) (.slice pa np pc)
  rw [← hw6]
  have HB46 := hid hb6
  have HY6 := hid hl6
  clear hw6 y0 y1 y2 y3 z0 z1 z2 z3 hw5 hY hs5 hput hb6 hl6
  have HB36 := hid (step HJB.out HB46.out)
  go_wp2_with fail
  refine (RefRead_any q xa m xc w6 HQL.out (by omega) HQW.out (HX.out.grow HB36.out)).mono ?_
  rintro e w7 ⟨Yq, bq, lq, pq, vq, rfl, hO⟩
  rw [HSC.out.1, HSC.out.2]
  rw [HSC.out.1, HSC.out.2] at hO
  obtain ⟨lqa, lqc, pqa, pqc, rfl, rfl, -⟩ := hO.scrL
  obtain ⟨nls, hnls⟩ : ∃ nls, (rdS q).ls.length = nls := ⟨_, rfl⟩
  obtain ⟨nps, hnps⟩ : ∃ nps, (rdS q).ps.length = nps := ⟨_, rfl⟩
  rw [hnls, hnps]
  rw [hnls, hnps] at hO
  have HNLS := hid hnls
  have HNPS := hid hnps
  clear hnls hnps
  have HO7 := hid hO
  have HB67 := hid hO.below
  have HBQ := hid hO.lo.1
  have HY7 := hid (keep_laid HY6.out hO.below)
  clear hO
  obtain ⟨w8, Y2, hw8, hY2, hs8, ⟨y0, y1, y2, y3⟩, ⟨z0, z1, z2, z3⟩, hput⟩ := scr_put w7
  go_upto_region 6 with (fail)
  obtain ⟨w9, hw9, hb9, hl9⟩ := hput.out (.int .i64 ((CC : Nat) : Int)) (.int .i64 ((PP : Nat) : Int)) (.slice lqa nls lqc) (.slice pqa nps pqc)
  rw [← hw9]
  have HO9 := hid (HO7.out.grow hb9)
  have HY9 := hid (keep_laid HY7.out hb9)
  have HZ9 := hid hl9
  have HB49 := hid (step (step HB46.out HB67.out) hb9)
  have HB39 := hid (step HJB.out HB49.out)
  have HB9 := hid (step HB3.out HB39.out)
  obtain ⟨p0, p1, p2, p3⟩ := cells4 HY9.out
  obtain ⟨q0, q1, q2, q3⟩ := cells4 HZ9.out
  clear hw9 y0 y1 y2 y3 z0 z1 z2 z3 hw8 hY2 hs8 hput hb9 hl9
  obtain ⟨lqa', lqc', pqa', pqc', e1, e2, hSQ⟩ := HO9.out.scrL
  rw [HNLS.out] at e1
  rw [HNPS.out] at e2
  simp only [Value.slice.injEq, true_and] at e1 e2
  obtain ⟨rfl, rfl⟩ := e1
  obtain ⟨rfl, rfl⟩ := e2
  have HSM : Hid (Calls Tryd.prog 15 #[.agg #[.int .i64 ((CC : Nat) : Int), .int .i64 ((PP : Nat) : Int), .slice (some ⟨g_, 0, none⟩) CC CC, .slice pa np pc], .agg #[.int .i64 ((CC : Nat) : Int), .int .i64 ((PP : Nat) : Int), .slice lqa nls lqc, .slice pqa nps pqc]] w9 (Ret (.bool true) w9)) := hid (by
    have h1 := RefSame_any (rdS q) (rdS q) (some ⟨g_, 0, none⟩) lqa pa pqa CC lqc pc pqc vs vq w9 HU.out.2 HU.out.2 (HSL.out.grow HB49.out) (by rw [← HSC.out.1, ← HSC.out.2] at hSQ; exact hSQ)
    rw [sameS_self] at h1
    unfold scrV at h1
    have e1 : nls = CC := HNLS.out.symm.trans HLL.out
    have e2 : nps = np := HNPS.out.symm.trans HSN.out
    rw [HLL.out, HSN.out, HSC.out.1, HSC.out.2] at h1
    rw [e1, e2]
    exact h1)
  have HEQ : Hid (∀ V : World, Below w9.heap.size w9 V → Calls Tryd.prog 16 #[.slice xa m xc, .slice a m cap] V (Ret (.bool true) V)) := hid (fun V hV => by
    have h1 := EqW_any q q xa a m m xc cap V HQL.out HQL.out (HX.out.grow (step HB39.out hV)) (HL.out.grow (step HB9.out hV))
    rw [decide_eq_true (rfl : q = q)] at h1
    exact h1)
  clear hSQ
  go_wp2_with fail
  refine HSM.out.mono ?_
  rintro e w10 ⟨rfl, hb10⟩
  have HB10 := hid hb10
  go_wp2_with fail
  refine (HEQ.out _ HB10.out).mono ?_
  rintro e w11 ⟨rfl, hb11⟩
  have HB911 := hid (step hb10 hb11)
  have HY11 := hid (keep_laid HY9.out HB911.out)
  have HZ11 := hid (keep_laid HZ9.out HB911.out)
  have HO11 := hid ((HO9.out.grow HB911.out).lower (HB36.out))
  have HB311 := hid (step HB39.out HB911.out)
  have HP11 := hid (own_grow HPK.out (step HB49.out HB911.out))
  have HPI : Hid (∀ z ∈ (rdS q).ps, -9223372036854775808 ≤ z ∧ z ≤ 9223372036854775807) := hid HU.out.2.picks
  have r3 := (cells4 HY11.out).2.2.2
  clear p0 p1 p2 p3 q0 q1 q2 q3 hb10 hb11
  go_wp2
  go_loopg [35] np (fun g t V => ∃ (i : Nat) (zs : List Int), g + i = np ∧ t = .int .i64 (i : Nat) ∧ zs.length = np ∧ Hid (∀ z ∈ zs, -9223372036854775808 ≤ z ∧ z ≤ 9223372036854775807) ∧ Hid (V.ownsRow base 3 1 (.slice pa np pc) np (icells zs)) ∧ Hid (V.heap[Y]? = some (.cells #[.int .i64 ((CC : Nat) : Int), .int .i64 ((PP : Nat) : Int), .slice (some ⟨g_, 0, none⟩) CC CC, .slice pa np pc] 35 (0, 0))) ∧ Hid (V.heap[Y2]? = some (.cells #[.int .i64 ((CC : Nat) : Int), .int .i64 ((PP : Nat) : Int), .slice lqa nls lqc, .slice pqa nps pqc] 35 (0, 0))) ∧ Hid (OwnS Yq bq ((CC : Nat) : Int) ((PP : Nat) : Int) (rdS q).ls (rdS q).ps (.slice lqa nls lqc) (.slice pqa nps pqc) vq w3 V))
  case atStart =>
    exact ⟨0, (rdS q).ps, rfl, rfl, HSN.out, HPI, HP11, HY11, HZ11, HO11⟩
  case round =>
    obtain ⟨i, zs, hi, rfl, hzl, hzb, hpk, hy, hz, ho⟩ := hrel
    have HI := hid hi
    have HZB := hid hzb.out
    clear hi hzb
    by_cases hlt : i < np
    · obtain ⟨kp, rfl⟩ : ∃ kp, pa = some ⟨kp, 0, none⟩ := by
        rcases hpk.out.2 with ⟨h0, h1⟩ | ⟨g, c, cur, e, -⟩
        · omega
        · simp only [Value.slice.injEq] at e; exact ⟨g, e.1⟩
      obtain ⟨z, hzz⟩ : ∃ z, zs[i]'(by omega) = z := ⟨_, rfl⟩
      have hc := hpk.out.cellAt i (by omega)
      rw [icells_get (by omega), hzz] at hc
      have hf := hpk.out.frozenAt i
      have hzr := HZB.out z (by rw [← hzz]; exact List.getElem_mem _)
      have y3 := (cells4 hy.out).2.2.2
      obtain ⟨z', hz'⟩ : ∃ z', IntKind.i64.wrap (z + 1) = z' := ⟨_, rfl⟩
      have hzr' : -9223372036854775808 ≤ z' ∧ z' ≤ 9223372036854775807 := by rw [← hz', IntKind.wrap_i64]; omega
      have hkb := (hpk.out.lt kp rfl).1
      have hst := hpk.out.stored i (.int .i64 z')
      obtain ⟨cur, hcur⟩ := own_type hpk.out kp rfl
      have HN1 : Hid ((wr.setCell ⟨kp, i, none⟩ (.int .i64 z')).ownsRow base 3 1 (.slice (some ⟨kp, 0, none⟩) np pc) np (icells (zs.set i z'))) := hid (by rw [← icells_set]; exact hst.1)
      have HN2 := hid (other_laid (i := i) hy.out (type_ne hy.out hcur (by decide)) (.int .i64 z'))
      have HN3 := hid (other_laid (i := i) hz.out (type_ne hz.out hcur (by decide)) (.int .i64 z'))
      have HN4 := hid (ho.out.setZ (i := i) (Z := kp) (.int .i64 z') (by have := (HPK.out.lt kp rfl); have := own_lt HPK.out kp rfl; have := HBQ.out; have := HB46.out.size; omega) (by have := HLO.out; omega))
      have HN5 : Hid (∀ x ∈ zs.set i z', -9223372036854775808 ≤ x ∧ x ≤ 9223372036854775807) := hid (by
        intro x hx
        rcases List.mem_or_eq_of_mem_set hx with hx | rfl
        · exact HZB.out x hx
        · exact hzr')
      clear hzz hst hcur hpk hy hz ho
      go_wp2
      go_roundg (gk - 1)
      case measure => have := HI.out; omega
      case rel => exact ⟨i + 1, _, by have := HI.out; omega, by go_num, by simpa using hzl, HN5, by first | exact HN1 | (rw [hz']; exact HN1), by first | exact HN2 | (rw [hz']; exact HN2), by first | exact HN3 | (rw [hz']; exact HN3), by first | exact HN4 | (rw [hz']; exact HN4)⟩
    · have hb3 := ho.out.below
      have HB3r := hid hb3
      have r0 : ∀ x : Ext wr, x.v.cell? ⟨Y2, 0, none⟩ = some (.int .i64 ((CC : Nat) : Int)) := fun x => (cells4 (keep_laid hz.out x.b)).1
      have r1 : ∀ x : Ext wr, x.v.cell? ⟨Y2, 1, none⟩ = some (.int .i64 ((PP : Nat) : Int)) := fun x => (cells4 (keep_laid hz.out x.b)).2.1
      have r2 : ∀ x : Ext wr, x.v.cell? ⟨Y2, 2, none⟩ = some (.slice lqa nls lqc) := fun x => (cells4 (keep_laid hz.out x.b)).2.2.1
      have r3 : ∀ x : Ext wr, x.v.cell? ⟨Y2, 3, none⟩ = some (.slice pqa nps pqc) := fun x => (cells4 (keep_laid hz.out x.b)).2.2.2
      clear hb3 hpk
      go_upto_region 13 with (fail)
      refine wp_region_mix2 (fun V => ∃ z : Ext wr, V = z.v) 5 (.q 0 (.q 2 (.h 1 (.h 3 (.q 4 (.done)))))) (by kernel_rfl) (by kernel_rfl) ⟨⟨_, (Below.refl _ _).drew⟩, rfl⟩ ?_
      repeat (refine wpMix2_q rfl rfl ?_; go_big_quiet_step (fail); refine wpQuiet_nil ?_)
      refine wpMix2_h rfl fun R' hR' hO => ?_
      have hbd : Below wr.heap.size wr wr.drew := (Below.refl _ _).drew
      go_wp2_with fail
      refine (Read_S q xa m xc wr.drew HQL.out (by omega) HQW.out (HX.out.grow (step HB3r.out hbd)) (HG.out _ (step HB3.out (step HB3r.out hbd)))).mono ?_
      rintro e w12 ⟨la7, lc7, vs7, pa7, pc7, rfl, hS7, hb12⟩
      unfold scrV
      have hb0 := step hbd hb12
      obtain ⟨lqa', lqc', pqa', pqc', e1, e2, hSQ⟩ := (ho.out.grow hb0).scrL
      rw [HNLS.out] at e1
      rw [HNPS.out] at e2
      simp only [Value.slice.injEq, true_and] at e1 e2
      obtain ⟨rfl, rfl⟩ := e1
      obtain ⟨rfl, rfl⟩ := e2
      have HSM2 := hid (RefSame_any (rdS q) (rdS q) la7 lqa pa7 pqa lc7 lqc pc7 pqc vs7 vq w12 HU.out.2 HU.out.2 hS7 (by rw [← HSC.out.1, ← HSC.out.2] at hSQ; exact hSQ))
      rw [sameS_self] at HSM2
      unfold scrV at HSM2
      have hC := HSC.out.1
      have hP := HSC.out.2
      have hL := HNLS.out
      have hN := HNPS.out
      rw [hC, hP, hL, hN] at HSM2
      rw [hC, hP, hL, hN]
      clear hS7 hSQ hC hP hL hN
      go_wp2
      refine hR' _ _ ⟨⟨w12, hb0⟩, rfl⟩ ?_
      refine wpMix2_h rfl fun R' hR' hO => ?_
      go_wp2_with fail
      refine HSM2.out.mono ?_
      rintro e w13 ⟨rfl, hb13⟩
      have hb1 := step hb0 hb13
      go_wp2
      refine hR' _ _ ⟨⟨w13, hb1⟩, rfl⟩ ?_
      repeat (refine wpMix2_q rfl rfl ?_; go_big_quiet_step (fail); refine wpQuiet_nil ?_)
      refine wpMix2_done ?_
      simp only [List.drop_succ_cons, List.drop_nil]
      go_wp2
      go_ret
      exact ⟨rfl, step HB3.out (step HB3r.out hb1)⟩
end Go.Proofs.YtpehnahmdfoobaaDoor.scriptReads
