/- Lists linked both ways: Remove (printed by gen_dbl19.py). -/
import Derived.Test.YtoihjmdpbbcbjaaDbl18
namespace Go.Proofs.Ytoihjmdpbbcbjaa
open Go.RowKit
open Go.Proofs
set_option linter.unusedVariables false
attribute [local go_sem] Oper.semAt_some

def remP (M : Mem) (head node : Nat) : Mem × Nat × Nat :=
  if (lookN M head).2 ≠ 0 then (zeroM, 0, (lookN M head).2) else if hasN (lookN M head).1 node = false then (zeroM, 0, 4) else ((runE 12 M (cutE head node) 0).1, (runE 12 M (cutE head node) 0).2, 0)
def GivesI (R : Mem × Nat × Nat) (w : World) (e : Ending) (W : World) : Prop := ∃ wa wc la lc, e = .returned (.tuple #[memV wa wc la lc R.1, .int .i64 ((R.2.1 : Nat) : Int), .int .i64 ((R.2.2 : Nat) : Int)]) ∧ MemO w.heap.size wa wc la lc R.1 W ∧ Below w.heap.size w W
theorem remove_result {W : World} {b : Nat} {v0 v1 v2 s u : Value} {tmps : Array Value} (h : W.heap[b]? = some (.cells #[v0, v1, v2] 25 (0, 0))) (hp : tmps[6]?.getD undef = .pointer (some ⟨b, 0, none⟩)) (hs : tmps[7]?.getD undef = s) (hu : tmps[8]?.getD undef = u) :
    (results Try.f17 tmps).run Try.prog W = .ok (.tuple #[.agg #[v0, v1, v2], s, u]) W := by
  have h0 := cell_laid (i := 0) (v := v0) h rfl
  have h1 := cell_laid (i := 1) (v := v1) h rfl
  have h2 := cell_laid (i := 2) (v := v2) h rfl
  simp [results, Try.results17, go_sem, hp, hs, hu, h0, h1, h2]
theorem cutE_ok {head node : Nat} (h1 : head < 18446744073709551616) (h2 : node < 18446744073709551616) : (cutE head node).Ok := ⟨by unfold cutE; dsimp only; omega, h1, h2, by unfold cutE; dsimp only; omega, by unfold cutE; dsimp only; omega, by unfold cutE; dsimp only; omega, by unfold cutE; dsimp only; omega⟩
theorem putE_ok {head prev : Nat} {t : Tw} (h1 : head < 18446744073709551616) (h2 : prev < 18446744073709551616) (h3 : t.1 < 18446744073709551616 ∧ t.2.1 < 18446744073709551616 ∧ t.2.2 < 18446744073709551616) : (putE head prev t).Ok := ⟨by unfold putE; dsimp only; omega, h1, h3.1, h3.2.1, h3.2.2, h2, by unfold putE; dsimp only; omega⟩

set_option maxRecDepth 100000 in
set_option maxHeartbeats 8000000 in
theorem Remove_any (M : Mem) (wa la : Option Addr) (wc lc head node : Nat) (V : World) (h : MemL V wa wc la lc M) (hh : head < 18446744073709551616) (hnd : node < 18446744073709551616) (hW : Wok M) :
    Calls Try.prog 17 #[memV wa wc la lc M, .int .u64 ((head : Nat) : Int), .int .u64 ((node : Nat) : Int)] V (GivesI (remP M head node) V) := by
  obtain ⟨V1, hV1, hb1, hs1, hl1⟩ := laid V #[.slice wa M.W.length wc, .slice la M.L.length lc, .bool M.F] 25
  obtain ⟨V2, hV2, hb2, hs2, hl2⟩ := laid V1 #[.slice none 0 0, .slice none 0 0, .bool false] 25
  obtain ⟨X, hX⟩ : ∃ X, V.heap.size = X := ⟨_, rfl⟩
  obtain ⟨Z, hZ⟩ : ∃ X, V1.heap.size = X := ⟨_, rfl⟩
  rw [hX] at hl1
  rw [hZ] at hl2
  have HX := hid (keep_laid hl1 hb2)
  have HZ := hid hl2
  have HB2 := hid (step hb1 hb2)
  have hZV : V.heap.size ≤ Z := by omega
  have HM := hid (h.grow HB2.out)
  have HL := hid (look_any M wa la wc lc head V2 HM.out hh hW)
  have HCUT := hid (fun W => Cut_any head node W)
  have HRUN := hid (fun (W : World) (hb : Below V2.heap.size V2 W) (hok : okM M = true) => run_any M (cutE head node) wa la wc lc W (HM.out.grow hb) hok hW (cutE_ok hh hnd) (show (0 : Int) ≤ 5 by decide) (show (5 : Int) ≤ 10 by decide))
  rw [show decide ((cutE head node).ph < 9) = true from rfl] at HRUN
  have hwl := h.w.len
  have hll := h.l.len
  unfold memV at HL HRUN ⊢
  unfold edV at HRUN HCUT
  obtain ⟨n, hn⟩ : ∃ n, M.W.length = n := ⟨_, rfl⟩
  obtain ⟨m, hm⟩ : ∃ n, M.L.length = n := ⟨_, rfl⟩
  obtain ⟨F, hF⟩ : ∃ n, M.F = n := ⟨_, rfl⟩
  obtain ⟨x0, x1, x2⟩ := cells3 HX.out
  rw [hn] at hV1 x0 hwl HL HRUN ⊢
  rw [hm] at hV1 x1 hll HL HRUN ⊢
  rw [hF] at hV1 x2 HL HRUN ⊢
  have HNN := hid hn
  have HMM := hid hm
  have HFF := hid hF
  clear h hn hm hF hs1 hs2 hl1 hl2 hb1 hb2 hW
  go_enter Try.func17, Try.ntmps17
  go_wp2_with fail
  refine HL.out.mono ?_
  intro e W hlk
  obtain ⟨xs, code, v, mv, rfl, hU⟩ := look_uni hlk
  obtain ⟨va, vc, rfl, hlv⟩ := Leads.of_own hU.row
  obtain ⟨q, hq⟩ : ∃ q, xs.length = q := ⟨_, rfl⟩
  rw [hq] at hlv ⊢
  have hq5 : q ≤ 1100 := by have := lookN_len M head; rw [hU.eq] at this; rw [← hq]; exact this
  have hlvl := hlv.len
  have HUB := hid hU.below
  have HEQ := hid hU.eq
  have HOK := hid (fun h0 => (hU.map h0).1)
  have HIN := hid (in_any xs va q vc node W hlv hq (by omega))
  clear hlk hU hlv hq
  by_cases hc : code = 0
  · subst hc
    have HOKK := hid (HOK.out rfl)
    clear HOK
    cases hh2 : hasN xs node with
    | false =>
      have HR : Hid (remP M head node = (zeroM, 0, 4)) := hid (by unfold remP; rw [HEQ.out]; rw [if_neg (fun h => h rfl), hh2]; rfl)
      rw [hh2] at HIN
      clear hh2
      go_wp2_with fail
      refine HIN.out.mono ?_
      rintro e W2 ⟨rfl, hbw⟩
      have HUB := hid (step HUB.out hbw)
      clear hbw
      have hkz := keep_laid HZ.out HUB.out
      obtain ⟨V6, hV6, a3, -, a5, -⟩ := put_mem hkz (.slice none 0 0) (.slice none 0 0) (.bool false)
      obtain ⟨z0, z1, z2⟩ := cells3 hkz
      have zf0 := free_laid (i := 0) hkz
      have zf1 := free_laid (i := 1) hkz
      have zf2 := free_laid (i := 2) hkz
      have HV6 := hid hV6
      have A3 := hid a3
      have HB6 := hid (a5 V.heap.size V hZV (step HB2.out HUB.out))
      clear hkz hV6 a3 a5
      go_wp2
      rw [← HV6.out]
      refine bodyPost_ret (remove_result A3.out rfl rfl rfl) rfl ?_
      rw [HR.out]
      exact ⟨none, 0, none, 0, rfl, ⟨World.ownsRow_nil _ _ _ _, World.ownsRow_nil _ _ _ _⟩, HB6.out⟩
    | true =>
      have HR : Hid (remP M head node = ((runE 12 M (cutE head node) 0).1, (runE 12 M (cutE head node) 0).2, 0)) := hid (by unfold remP; rw [HEQ.out]; rw [if_neg (fun h => h rfl), hh2]; rfl)
      rw [hh2] at HIN
      clear hh2
      go_wp2_with fail
      refine HIN.out.mono ?_
      rintro e W2 ⟨rfl, hbw⟩
      have HUB := hid (step HUB.out hbw)
      clear hbw
      go_upto_region 6 with (fail)
      obtain ⟨D, hD⟩ : ∃ D, W2.drew = D := ⟨_, rfl⟩
      have hbD : Below W2.heap.size W2 D := by rw [← hD]; exact (Below.refl _ _).drew
      have HD := hid hD
      have HB2D := hid (step HUB.out hbD)
      have HBVD := hid (step HB2.out HB2D.out)
      have hVD : V.heap.size ≤ D.heap.size := HBVD.out.size
      have HXD := hid (keep_laid HX.out HB2D.out)
      have HZD := hid (keep_laid HZ.out HB2D.out)
      have HRUN := hid (fun W (hb : Below D.heap.size D W) => HRUN.out W (HB2D.out.trans (hb.mono HB2D.out.size)) HOKK.out)
      have r0 : ∀ z : Ext D, z.v.cell? ⟨X, 0, none⟩ = some (.slice wa n wc) := fun z => by have := cell_laid (i := 0) (keep_laid HXD.out z.b) rfl; rw [HNN.out] at this; exact this
      have r1 : ∀ z : Ext D, z.v.cell? ⟨X, 1, none⟩ = some (.slice la m lc) := fun z => by have := cell_laid (i := 1) (keep_laid HXD.out z.b) rfl; rw [HMM.out] at this; exact this
      have r2 : ∀ z : Ext D, z.v.cell? ⟨X, 2, none⟩ = some (.bool F) := fun z => by have := cell_laid (i := 2) (keep_laid HXD.out z.b) rfl; rw [HFF.out] at this; exact this
      clear hD hbD x0 x1 x2
      refine wp_region_mix2 (fun V => ∃ z : Ext D, V = z.v) 11 (.q 0 (.q 1 (.q 2 (.h2 3 (.h2 4 (.q 5 (.q 6 (.q 7 (.h 8 (.h 9 (.q 10 (.done))))))) 8 (.h 4 (.q 5 (.q 6 (.q 7 (.h 9 (.q 10 (.done)))))))) 8 (.h 3 (.h 4 (.q 5 (.q 6 (.q 7 (.h 9 (.q 10 (.done)))))))))))) (by kernel_rfl) (by kernel_rfl) (by rw [HD.out]; exact ⟨⟨D, Below.refl _ _⟩, rfl⟩) ?_
      rw [HD.out]
      repeat (refine wpMix2_q rfl rfl ?_; go_big_quiet_step (fail); refine wpQuiet_nil ?_)
      refine wpMix2_h2 ?_ ?_
      rotate_left
      refine wpMix2_h rfl fun R' hR' hO => ?_
      obtain ⟨Wa, hWa, hba, hsa, hla⟩ := laid D #[.slice none 0 0, .slice none 0 0, .bool false] 25
      obtain ⟨q, hq⟩ : ∃ q, D.heap.size = q := ⟨_, rfl⟩
      rw [hq] at hla
      have HQ := hid hla
      have HVq := hid (show D.heap.size ≤ q from by have := ((Below.refl _ _) : Below D.heap.size D D).size; omega)
      have HBA := hid (step (Below.refl _ _) hba)
      clear hba hsa hla
      go_wp2
      refine hR' _ _ ⟨⟨Wa, HBA.out⟩, rfl⟩ ?_
      clear hR' hO R'
      refine wpMix2_h rfl fun R' hR' hO => ?_
      go_wp2_with fail
      refine (HCUT.out Wa).mono ?_
      rintro e Wc ⟨rfl, hbc⟩
      have HBC := hid (step HBA.out hbc)
      have HQ1 := hid (keep_laid HQ.out hbc)
      clear hbc
      go_wp2
      refine hR' _ _ ⟨⟨Wc, HBC.out⟩, rfl⟩ ?_
      clear hR' hO R'
      refine wpMix2_h rfl fun R' hR' hO => ?_
      go_wp2_with fail
      refine (HRUN.out Wc HBC.out).mono ?_
      rintro e Wr ⟨wx, wcx, lx, lcx, rfl, -, hmo, hbr⟩
      have HMO := hid ((hmo rfl).base (Nat.le_trans hVD (HBC.out : Below D.heap.size D Wc).size))
      have HBR := hid (step HBC.out hbr)
      have HQ2 := hid (keep_laid HQ1.out hbr)
      clear hmo hbr
      unfold memV
      go_wp2
      refine hR' _ _ ⟨⟨Wr, HBR.out⟩, rfl⟩ ?_
      clear hR' hO R'
      obtain ⟨Ws, hWs, s1, s2, s3, s4⟩ := put_mem HQ2.out (.slice wx (runE 12 M (cutE head node) 0).1.W.length wcx) (.slice lx (runE 12 M (cutE head node) 0).1.L.length lcx) (.bool (runE 12 M (cutE head node) 0).1.F)
      obtain ⟨z0, z1, z2⟩ := cells3 HQ2.out
      have zf0 := free_laid (i := 0) HQ2.out
      have zf1 := free_laid (i := 1) HQ2.out
      have zf2 := free_laid (i := 2) HQ2.out
      have HWS := hid hWs
      have S1 := hid s1
      have HBS := hid (s3 D.heap.size D HVq.out HBR.out)
      have HMS := hid (s4 _ _ _ _ _ _ HMO.out)
      clear hWs s1 s2 s3 s4
      repeat (refine wpMix2_q rfl rfl ?_; go_big_quiet_step (fail); refine wpQuiet_nil ?_)
      refine wpMix2_h rfl fun R' hR' hO => ?_
      go_wp2
      rw [← HWS.out]
      refine hR' _ _ ⟨⟨Ws, HBS.out⟩, rfl⟩ ?_
      clear hR' hO R'
      repeat (refine wpMix2_q rfl rfl ?_; go_big_quiet_step (fail); refine wpQuiet_nil ?_)
      refine wpMix2_done ?_
      simp only [List.drop_succ_cons, List.drop_zero]
      have hkz := keep_laid HZD.out HBS.out
      obtain ⟨c0, c1, c2⟩ := cells3 S1.out
      obtain ⟨V6, hV6, a3, -, a5, a6⟩ := put_mem hkz (.slice wx (runE 12 M (cutE head node) 0).1.W.length wcx) (.slice lx (runE 12 M (cutE head node) 0).1.L.length lcx) (.bool (runE 12 M (cutE head node) 0).1.F)
      obtain ⟨y0, y1, y2⟩ := cells3 hkz
      have yf0 := free_laid (i := 0) hkz
      have yf1 := free_laid (i := 1) hkz
      have yf2 := free_laid (i := 2) hkz
      have HV6 := hid hV6
      have A3 := hid a3
      have HB6 := hid (a5 V.heap.size V hZV (HBVD.out.trans (HBS.out.mono hVD)))
      have HM6 := hid (a6 _ _ _ _ _ _ HMS.out)
      clear hkz hV6 a3 a5 a6 z0 z1 z2 zf0 zf1 zf2
      go_wp2
      rw [← HV6.out]
      refine bodyPost_ret (remove_result A3.out rfl rfl rfl) rfl ?_
      rw [HR.out]
      exact ⟨_, _, _, _, rfl, HM6.out, HB6.out⟩
      refine wpMix2_h rfl fun R' hR' hO => ?_
      go_wp2_with fail
      refine (HCUT.out D).mono ?_
      rintro e Wc ⟨rfl, hbc⟩
      have HBC := hid (step (Below.refl _ _) hbc)
      clear hbc
      go_wp2
      refine hR' _ _ ⟨⟨Wc, HBC.out⟩, rfl⟩ ?_
      clear hR' hO R'
      refine wpMix2_h2 ?_ ?_
      · skip
        refine wpMix2_h rfl fun R' hR' hO => ?_
        go_wp2_with fail
        refine (HRUN.out Wc HBC.out).mono ?_
        rintro e Wr ⟨wx, wcx, lx, lcx, rfl, -, hmo, hbr⟩
        have HMO := hid ((hmo rfl).base (Nat.le_trans hVD (HBC.out : Below D.heap.size D Wc).size))
        have HBR := hid (step HBC.out hbr)
        clear hmo hbr
        unfold memV
        go_wp2
        refine hR' _ _ ⟨⟨Wr, HBR.out⟩, rfl⟩ ?_
        clear hR' hO R'
        repeat (refine wpMix2_q rfl rfl ?_; go_big_quiet_step (fail); refine wpQuiet_nil ?_)
        refine wpMix2_h rfl fun R' hR' hO => ?_
        obtain ⟨Wa, hWa, hba, hsa, hla⟩ := laid Wr #[.slice none 0 0, .slice none 0 0, .bool false] 25
        obtain ⟨q, hq⟩ : ∃ q, Wr.heap.size = q := ⟨_, rfl⟩
        rw [hq] at hla
        have HQ := hid hla
        have HVq := hid (show D.heap.size ≤ q from by have := (HBR.out : Below D.heap.size D Wr).size; omega)
        have HBA := hid (step HBR.out hba)
        have HMA := hid (HMO.out.grow hba)
        clear hba hsa hla
        go_wp2
        refine hR' _ _ ⟨⟨Wa, HBA.out⟩, rfl⟩ ?_
        clear hR' hO R'
        obtain ⟨Ws, hWs, s1, s2, s3, s4⟩ := put_mem HQ.out (.slice wx (runE 12 M (cutE head node) 0).1.W.length wcx) (.slice lx (runE 12 M (cutE head node) 0).1.L.length lcx) (.bool (runE 12 M (cutE head node) 0).1.F)
        obtain ⟨z0, z1, z2⟩ := cells3 HQ.out
        have zf0 := free_laid (i := 0) HQ.out
        have zf1 := free_laid (i := 1) HQ.out
        have zf2 := free_laid (i := 2) HQ.out
        have HWS := hid hWs
        have S1 := hid s1
        have HBS := hid (s3 D.heap.size D HVq.out HBA.out)
        have HMS := hid (s4 _ _ _ _ _ _ HMA.out)
        clear hWs s1 s2 s3 s4
        repeat (refine wpMix2_q rfl rfl ?_; go_big_quiet_step (fail); refine wpQuiet_nil ?_)
        refine wpMix2_h rfl fun R' hR' hO => ?_
        go_wp2
        rw [← HWS.out]
        refine hR' _ _ ⟨⟨Ws, HBS.out⟩, rfl⟩ ?_
        clear hR' hO R'
        repeat (refine wpMix2_q rfl rfl ?_; go_big_quiet_step (fail); refine wpQuiet_nil ?_)
        refine wpMix2_done ?_
        simp only [List.drop_succ_cons, List.drop_zero]
        have hkz := keep_laid HZD.out HBS.out
        obtain ⟨c0, c1, c2⟩ := cells3 S1.out
        obtain ⟨V6, hV6, a3, -, a5, a6⟩ := put_mem hkz (.slice wx (runE 12 M (cutE head node) 0).1.W.length wcx) (.slice lx (runE 12 M (cutE head node) 0).1.L.length lcx) (.bool (runE 12 M (cutE head node) 0).1.F)
        obtain ⟨y0, y1, y2⟩ := cells3 hkz
        have yf0 := free_laid (i := 0) hkz
        have yf1 := free_laid (i := 1) hkz
        have yf2 := free_laid (i := 2) hkz
        have HV6 := hid hV6
        have A3 := hid a3
        have HB6 := hid (a5 V.heap.size V hZV (HBVD.out.trans (HBS.out.mono hVD)))
        have HM6 := hid (a6 _ _ _ _ _ _ HMS.out)
        clear hkz hV6 a3 a5 a6 z0 z1 z2 zf0 zf1 zf2
        go_wp2
        rw [← HV6.out]
        refine bodyPost_ret (remove_result A3.out rfl rfl rfl) rfl ?_
        rw [HR.out]
        exact ⟨_, _, _, _, rfl, HM6.out, HB6.out⟩
      · skip
        refine wpMix2_h rfl fun R' hR' hO => ?_
        obtain ⟨Wa, hWa, hba, hsa, hla⟩ := laid Wc #[.slice none 0 0, .slice none 0 0, .bool false] 25
        obtain ⟨q, hq⟩ : ∃ q, Wc.heap.size = q := ⟨_, rfl⟩
        rw [hq] at hla
        have HQ := hid hla
        have HVq := hid (show D.heap.size ≤ q from by have := (HBC.out : Below D.heap.size D Wc).size; omega)
        have HBA := hid (step HBC.out hba)
        clear hba hsa hla
        go_wp2
        refine hR' _ _ ⟨⟨Wa, HBA.out⟩, rfl⟩ ?_
        clear hR' hO R'
        refine wpMix2_h rfl fun R' hR' hO => ?_
        go_wp2_with fail
        refine (HRUN.out Wa HBA.out).mono ?_
        rintro e Wr ⟨wx, wcx, lx, lcx, rfl, -, hmo, hbr⟩
        have HMO := hid ((hmo rfl).base (Nat.le_trans hVD (HBA.out : Below D.heap.size D Wa).size))
        have HBR := hid (step HBA.out hbr)
        have HQ2 := hid (keep_laid HQ.out hbr)
        clear hmo hbr
        unfold memV
        go_wp2
        refine hR' _ _ ⟨⟨Wr, HBR.out⟩, rfl⟩ ?_
        clear hR' hO R'
        obtain ⟨Ws, hWs, s1, s2, s3, s4⟩ := put_mem HQ2.out (.slice wx (runE 12 M (cutE head node) 0).1.W.length wcx) (.slice lx (runE 12 M (cutE head node) 0).1.L.length lcx) (.bool (runE 12 M (cutE head node) 0).1.F)
        obtain ⟨z0, z1, z2⟩ := cells3 HQ2.out
        have zf0 := free_laid (i := 0) HQ2.out
        have zf1 := free_laid (i := 1) HQ2.out
        have zf2 := free_laid (i := 2) HQ2.out
        have HWS := hid hWs
        have S1 := hid s1
        have HBS := hid (s3 D.heap.size D HVq.out HBR.out)
        have HMS := hid (s4 _ _ _ _ _ _ HMO.out)
        clear hWs s1 s2 s3 s4
        repeat (refine wpMix2_q rfl rfl ?_; go_big_quiet_step (fail); refine wpQuiet_nil ?_)
        refine wpMix2_h rfl fun R' hR' hO => ?_
        go_wp2
        rw [← HWS.out]
        refine hR' _ _ ⟨⟨Ws, HBS.out⟩, rfl⟩ ?_
        clear hR' hO R'
        repeat (refine wpMix2_q rfl rfl ?_; go_big_quiet_step (fail); refine wpQuiet_nil ?_)
        refine wpMix2_done ?_
        simp only [List.drop_succ_cons, List.drop_zero]
        have hkz := keep_laid HZD.out HBS.out
        obtain ⟨c0, c1, c2⟩ := cells3 S1.out
        obtain ⟨V6, hV6, a3, -, a5, a6⟩ := put_mem hkz (.slice wx (runE 12 M (cutE head node) 0).1.W.length wcx) (.slice lx (runE 12 M (cutE head node) 0).1.L.length lcx) (.bool (runE 12 M (cutE head node) 0).1.F)
        obtain ⟨y0, y1, y2⟩ := cells3 hkz
        have yf0 := free_laid (i := 0) hkz
        have yf1 := free_laid (i := 1) hkz
        have yf2 := free_laid (i := 2) hkz
        have HV6 := hid hV6
        have A3 := hid a3
        have HB6 := hid (a5 V.heap.size V hZV (HBVD.out.trans (HBS.out.mono hVD)))
        have HM6 := hid (a6 _ _ _ _ _ _ HMS.out)
        clear hkz hV6 a3 a5 a6 z0 z1 z2 zf0 zf1 zf2
        go_wp2
        rw [← HV6.out]
        refine bodyPost_ret (remove_result A3.out rfl rfl rfl) rfl ?_
        rw [HR.out]
        exact ⟨_, _, _, _, rfl, HM6.out, HB6.out⟩
  · have hcne : ((((code : Nat) : Int)) != 0) = true := by simp; omega
    have HR : Hid (remP M head node = (zeroM, 0, code)) := hid (by unfold remP; rw [HEQ.out]; rw [if_pos hc])
    clear hc
    have hkz := keep_laid HZ.out HUB.out
    obtain ⟨V6, hV6, a3, -, a5, -⟩ := put_mem hkz (.slice none 0 0) (.slice none 0 0) (.bool false)
    obtain ⟨z0, z1, z2⟩ := cells3 hkz
    have zf0 := free_laid (i := 0) hkz
    have zf1 := free_laid (i := 1) hkz
    have zf2 := free_laid (i := 2) hkz
    have HV6 := hid hV6
    have A3 := hid a3
    have HB6 := hid (a5 V.heap.size V hZV (step HB2.out HUB.out))
    clear hkz hV6 a3 a5
    go_wp2
    rw [← HV6.out]
    refine bodyPost_ret (remove_result A3.out rfl rfl rfl) rfl ?_
    rw [HR.out]
    exact ⟨none, 0, none, 0, rfl, ⟨World.ownsRow_nil _ _ _ _, World.ownsRow_nil _ _ _ _⟩, HB6.out⟩
end Go.Proofs.Ytoihjmdpbbcbjaa
