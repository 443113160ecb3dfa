/- Several texts in one. -/
import Derived.Test.YtahicokokfcieaaDoorTgAt
namespace Go.Proofs.YtahicokokfcieaaDoor
open Go.RowKit
open Go.Proofs
set_option linter.unusedVariables false
attribute [local go_sem] Oper.semAt_some
structure Edd (B R E : Nat) (V : World) (M : Mem) (s : Ede) (n g : Nat) (X : Mem × Ede × Nat) (W : World) : Prop where
  run : RunT B R M n W
  be : W.heap[E]? = some (.cells (ed8 s) 106 (0, 0))
  tch : Tch (fun k => k = R ∨ k = E) V W
  ok : okM M = true
  wok : ∀ x ∈ M.W, x < 18446744073709551616
  sok : s.Ok
  p0 : 0 ≤ s.ph
  p7 : s.ph ≤ 7
  res : editRun g M s n = X
  cnt : n + g ≤ 200000
structure REd (R E : Nat) (cs cs' : Array Value) where
  w : World
  br : w.heap[R]? = some (.cells cs 96 (0, 0))
  be : w.heap[E]? = some (.cells cs' 106 (0, 0))
def GivesEdits (B R : Nat) (X : Mem × Ede × Nat) (V : World) (e : Ending) (W : World) : Prop := e = .returned (.tuple #[]) ∧ RunT B R X.1 X.2.2 W ∧ Tch (fun k => k = R) V W
set_option maxRecDepth 100000 in
set_option maxHeartbeats 4000000 in
theorem tedit_any (B R n0 F : Nat) (M : Mem) (s : Ede) (X : Mem × Ede × Nat) (V : World) (h : RunT B R M n0 V) (hB : B ≤ V.heap.size) (hok : okM M = true) (hW : ∀ x ∈ M.W, x < 18446744073709551616) (hs : s.Ok) (h0 : 0 ≤ s.ph) (h7 : s.ph ≤ 7) (hx : editRun F M s n0 = X) (hX : 6 ≤ X.2.1.ph) (hn : n0 + F ≤ 200000) :
    Calls Tryd.prog 49 #[.pointer (some ⟨R, 0, none⟩), edV s] V (GivesEdits B R X V) := by
  obtain ⟨V1, hV1, hb1, hs1, hl1⟩ := laid V #[.int .i64 s.ph, .bool s.cuts, .int .u64 ((s.link : Nat) : Int), .int .u64 ((s.at_ : Nat) : Int), .int .u64 ((s.key : Nat) : Int), .int .u64 ((s.val : Nat) : Int), .int .u64 ((s.hash : Nat) : Int), .int .u64 ((s.next : Nat) : Int)] 106
  obtain ⟨E, hE⟩ : ∃ X, V.heap.size = X := ⟨_, rfl⟩
  rw [hE] at hl1
  have hVE : V.heap.size ≤ E := by omega
  have hRlt := h.lt
  have hRE : R < E := by omega
  have HF : Hid (Edd B R E V M s n0 F X V1) := hid ⟨h.grow hb1, hl1, Tch.of_below hb1, hok, hW, hs, h0, h7, hx, hn⟩
  have HX := hid hX
  unfold edV
  clear hb1 hs1 hl1 h hok hW hs h0 h7 hx hX hn
  go_enter Tryd.func49, Tryd.ntmps49
  go_wp2
  clear hE
  go_loopg [6] F (fun g t6 wr => ∃ (M2 : Mem) (s2 : Ede) (n : Nat), Hid (Edd B R E V M2 s2 n g X wr))
  case atStart => exact ⟨_, _, _, HF⟩
  case round =>
    clear HF
    obtain ⟨M2, s, n, hF⟩ := hrel
    have x0 := cell_laid (i := 0) hF.out.be rfl
    by_cases h6 : 6 ≤ s.ph
    · have d6 : decide (s.ph < 6) = false := decide_eq_false (by omega)
      have HFIN : Hid (RunT B R X.1 X.2.2 wr ∧ Tch (fun k => k = R) V wr) := hid (by
        have e := hF.out.res
        rw [editRun_end h6] at e
        rw [← e]
        exact ⟨hF.out.run, hF.out.tch.drop hVE⟩)
      have h6' : ¬ s.ph < 6 := by omega
      clear hF h6
      go_wp2
      go_end0
      exact ⟨rfl, HFIN.out.1, HFIN.out.2⟩
    · have d6 : decide (s.ph < 6) = true := decide_eq_true (by omega)
      have h6' : s.ph < 6 := by omega
      obtain ⟨g1, hg1⟩ : ∃ g1, gk = g1 + 1 := by
        cases gk with
        | zero =>
          have e := hF.out.res
          unfold editRun at e
          rw [← e] at HX
          exact absurd HX.out h6
        | succ g => exact ⟨g, rfl⟩
      obtain ⟨⟨M', s', b⟩, hXE⟩ : ∃ X, editE M2 s = X := ⟨_, rfl⟩
      obtain ⟨k1, k2, k3, k4⟩ := editE_ok hF.out.ok hF.out.wok hF.out.sok hF.out.p0 hF.out.p7
      rw [hXE] at k1 k2 k3 k4
      dsimp only at k1 k2 k3 k4
      have HRES : Hid (editRun g1 M' s' (n + 1) = X) := hid (by
        have e := hF.out.res
        rw [hg1, editRun_step h6 hXE] at e
        exact e)
      have HP : seditP M2 s = (M', s', 0) := by
        unfold seditP
        rw [if_neg (by rw [hF.out.ok]; decide), if_neg (by have := hF.out.p0; have := hF.out.p7; omega), hXE]
      have HK1 := hid k1
      have HK2 := hid k2
      have HK3 := hid k3
      have HK4 : Hid (0 ≤ s'.ph ∧ s'.ph ≤ 7) := hid (by have := k4.1 h6'; have := hF.out.p0; omega)
      have HG := hid hg1
      have HCN := hid hF.out.cnt
      obtain ⟨wa, wc, la, lc, kR, oM⟩ := hF.out.run
      have KRw := hid kR
      have KEw := hid hF.out.be
      have HOw := hid oM
      have HTw := hid hF.out.tch
      have hnc : n ≤ 200000 := by have := HCN.out; omega
      have hwl := HOw.out.memL.w.len
      have hll := HOw.out.memL.l.len
      have hBw : B ≤ wr.heap.size := Nat.le_trans hB HTw.out.size
      obtain ⟨D, hD⟩ : ∃ DX, wr.drew = DX := ⟨_, rfl⟩
      have hbD : Below wr.heap.size wr D := by rw [← hD]; exact (Below.refl _ _).drew
      have HD := hid hD
      have KRD := hid (keep_laid KRw.out hbD)
      have KED := hid (keep_laid KEw.out hbD)
      have HOD := hid (HOw.out.grow hbD)
      have HTD := hid (HTw.out.trans (Tch.of_below hbD))
      have hBD : B ≤ D.heap.size := Nat.le_trans hBw hbD.size
      have HSE := hid (StepEdit_any M2 s wa la wc lc D HOD.out.memL hF.out.sok)
      rw [HP] at HSE
      unfold memV edV at HSE
      have hRE' : R ≠ E := by omega
      have hER' : E ≠ R := by omega
      haveI : Nonempty (REd R E #[.slice wa M2.W.length wc, .slice la M2.L.length lc, .bool M2.F, .int .i64 ((n : Nat) : Int)] (ed8 s)) := ⟨⟨D, KRD.out, KED.out⟩⟩
      have r0 : ∀ z : REd R E #[.slice wa M2.W.length wc, .slice la M2.L.length lc, .bool M2.F, .int .i64 ((n : Nat) : Int)] (ed8 s), z.w.cell? ⟨R, 0, none⟩ = some (.slice wa M2.W.length wc) := fun z => cell_laid (i := 0) z.br rfl
      have r1 : ∀ z : REd R E #[.slice wa M2.W.length wc, .slice la M2.L.length lc, .bool M2.F, .int .i64 ((n : Nat) : Int)] (ed8 s), z.w.cell? ⟨R, 1, none⟩ = some (.slice la M2.L.length lc) := fun z => cell_laid (i := 1) z.br rfl
      have r2 : ∀ z : REd R E #[.slice wa M2.W.length wc, .slice la M2.L.length lc, .bool M2.F, .int .i64 ((n : Nat) : Int)] (ed8 s), z.w.cell? ⟨R, 2, none⟩ = some (.bool M2.F) := fun z => cell_laid (i := 2) z.br rfl
      have q0 : ∀ z : REd R E #[.slice wa M2.W.length wc, .slice la M2.L.length lc, .bool M2.F, .int .i64 ((n : Nat) : Int)] (ed8 s), z.w.cell? ⟨E, 0, none⟩ = some (.int .i64 s.ph) := fun z => cell_laid (i := 0) z.be rfl
      have q1 : ∀ z : REd R E #[.slice wa M2.W.length wc, .slice la M2.L.length lc, .bool M2.F, .int .i64 ((n : Nat) : Int)] (ed8 s), z.w.cell? ⟨E, 1, none⟩ = some (.bool s.cuts) := fun z => cell_laid (i := 1) z.be rfl
      have q2 : ∀ z : REd R E #[.slice wa M2.W.length wc, .slice la M2.L.length lc, .bool M2.F, .int .i64 ((n : Nat) : Int)] (ed8 s), z.w.cell? ⟨E, 2, none⟩ = some (.int .u64 ((s.link : Nat) : Int)) := fun z => cell_laid (i := 2) z.be rfl
      have q3 : ∀ z : REd R E #[.slice wa M2.W.length wc, .slice la M2.L.length lc, .bool M2.F, .int .i64 ((n : Nat) : Int)] (ed8 s), z.w.cell? ⟨E, 3, none⟩ = some (.int .u64 ((s.at_ : Nat) : Int)) := fun z => cell_laid (i := 3) z.be rfl
      have q4 : ∀ z : REd R E #[.slice wa M2.W.length wc, .slice la M2.L.length lc, .bool M2.F, .int .i64 ((n : Nat) : Int)] (ed8 s), z.w.cell? ⟨E, 4, none⟩ = some (.int .u64 ((s.key : Nat) : Int)) := fun z => cell_laid (i := 4) z.be rfl
      have q5 : ∀ z : REd R E #[.slice wa M2.W.length wc, .slice la M2.L.length lc, .bool M2.F, .int .i64 ((n : Nat) : Int)] (ed8 s), z.w.cell? ⟨E, 5, none⟩ = some (.int .u64 ((s.val : Nat) : Int)) := fun z => cell_laid (i := 5) z.be rfl
      have q6 : ∀ z : REd R E #[.slice wa M2.W.length wc, .slice la M2.L.length lc, .bool M2.F, .int .i64 ((n : Nat) : Int)] (ed8 s), z.w.cell? ⟨E, 6, none⟩ = some (.int .u64 ((s.hash : Nat) : Int)) := fun z => cell_laid (i := 6) z.be rfl
      have q7 : ∀ z : REd R E #[.slice wa M2.W.length wc, .slice la M2.L.length lc, .bool M2.F, .int .i64 ((n : Nat) : Int)] (ed8 s), z.w.cell? ⟨E, 7, none⟩ = some (.int .u64 ((s.next : Nat) : Int)) := fun z => cell_laid (i := 7) z.be rfl
      clear hF h6 hg1 hXE HP k1 k2 k3 k4 kR oM hD hbD KRw KEw HOw HTw
      go_upto_region 2 with (fail)
      clear x0
      refine wp_region_turn (fun W => ∃ z : REd R E #[.slice wa M2.W.length wc, .slice la M2.L.length lc, .bool M2.F, .int .i64 ((n : Nat) : Int)] (ed8 s), W = z.w) 13 (.p 0 (.p 1 (.p 2 (.p 3 (.q 4 (.q 5 (.h 6 (.p 7 (.p 8 (.p 9 (.p 10 (.p 11 (.p 12 (.h 13 (.h 14 (.done)))))))))))))))) (by kernel_rfl) (by kernel_rfl) (by rw [HD.out]; exact ⟨⟨D, KRD.out, KED.out⟩, rfl⟩) ?_
      rw [HD.out]
      iterate 4 (refine wpTurn_p rfl rfl ?_; go_big_quiet_step (fail); refine wpQuiet_nil ?_)
      iterate 2 (refine wpTurn_q rfl rfl ?_; go_big_quiet_step (fail); refine wpQuiet_nil ?_)
      refine wpTurn_h rfl rfl fun R' hR' hO => ?_
      go_wp2_with fail
      refine HSE.out.mono ?_
      rintro e w5 ⟨wa', wc', la', lc', rfl, hoo, hb5⟩
      have KR5 := hid (keep_laid KRD.out hb5)
      have KE5 := hid (keep_laid KED.out hb5)
      have HN5 := hid (hoo.base hBD)
      have HT5 := hid (HTD.out.trans (Tch.of_below hb5))
      unfold memV edV
      clear hoo hb5 HSE
      go_wp2
      refine hR' _ _ ⟨⟨w5, KR5.out, KE5.out⟩, rfl⟩ ?_
      clear hR' hO R'
      iterate 6 (refine wpTurn_p rfl rfl ?_; go_big_quiet_step (fail); refine wpQuiet_nil ?_)
      refine wpTurn_m rfl fun R' hR' hO => ?_
      go_wp2_with (refine wp_storeP rfl 38 (.tmp 19) (.tmp 15) rfl R 0 _ #[.slice wa' M'.W.length wc', .slice la' M'.L.length lc', .bool M'.F, .int .i64 ((n : Nat) : Int)] _ rfl rfl _ KR5.out (by kernel_rfl) (Nat.le_of_ble_eq_true rfl) (by kernel_rfl) rfl ?_; intro w6 a1 a2 a3 a4; have KR6 := hid a1; have KE6 := hid (a2 E _ hER' KE5.out); have HN6 : Hid (MemO B wa' wc' la' lc' M' w6) := hid ⟨own_keep HN5.out.w fun j o hj ho => a2 j o (fun e => own_neP HN5.out.w KR5.out (by decide) (by rw [← e]; exact hj)) ho, own_keep HN5.out.l fun j o hj ho => a2 j o (fun e => own_neP HN5.out.l KR5.out (by decide) (by rw [← e]; exact hj)) ho⟩; have HT6 := hid (HT5.out.trans ⟨a4.os, a4.tape, a4.output, a4.size, fun k hk hne => a4.block k hk (fun e => hne (.inl (Option.some.inj e)))⟩); clear a1 a2 a3 a4)
      refine hR' _ _ ?_
      clear hR' hO R'
      refine wpTurn_b rfl fun R' hR' hO => ?_
      go_wp2_with (refine wp_storeP rfl 106 (.tmp 3) (.tmp 16) rfl E 0 _ (ed8 s') _ rfl rfl _ KE6.out (by kernel_rfl) (Nat.le_of_ble_eq_true rfl) (by kernel_rfl) rfl ?_; intro w7 a1 a2 a3 a4; have KE7 := hid a1; have KR7 := hid (a2 R _ hRE' KR6.out); have HN7 : Hid (MemO B wa' wc' la' lc' M' w7) := hid ⟨own_keep HN6.out.w fun j o hj ho => a2 j o (fun e => own_neP HN6.out.w KE6.out (by decide) (by rw [← e]; exact hj)) ho, own_keep HN6.out.l fun j o hj ho => a2 j o (fun e => own_neP HN6.out.l KE6.out (by decide) (by rw [← e]; exact hj)) ho⟩; have HT7 := hid (HT6.out.trans ⟨a4.os, a4.tape, a4.output, a4.size, fun k hk hne => a4.block k hk (fun e => hne (.inr (Option.some.inj e)))⟩); clear a1 a2 a3 a4)
      refine hR' _ _ ?_
      clear hR' hO R'
      refine wpTurn_done ?_
      clear HD r0 r1 r2 q0 q1 q2 q3 q4 q5 q6 q7 KRD KED HOD HTD KR5 KE5 HN5 HT5 KR6 KE6 HN6 HT6
      have q3 := cell_laid (i := 3) KR7.out rfl
      have f3 := free_laid (i := 3) KR7.out
      have KR9 := hid (set_laid (i := 3) KR7.out (.int .i64 ((n + 1 : Nat) : Int)))
      have KE9 := hid (other_laid (i := 3) KE7.out hER' (.int .i64 ((n + 1 : Nat) : Int)))
      have HN9 := hid (HN7.out.set (i := 3) KR7.out (by decide) (by decide) (.int .i64 ((n + 1 : Nat) : Int)))
      have HT9 := hid (HT7.out.trans (Tch.set (P := fun k => k = R ∨ k = E) (b := R) (i := 3) (.inl rfl) (.int .i64 ((n + 1 : Nat) : Int))))
      go_wp2
      go_roundg g1
      case measure => have := HG.out; omega
      case rel => exact ⟨M', s', n + 1, hid ⟨⟨wa', wc', la', lc', KR9.out, HN9.out⟩, KE9.out, HT9.out, HK1.out, HK2.out, HK3.out, HK4.out.1, HK4.out.2, HRES.out, by have := HG.out; have := HCN.out; omega⟩⟩
end Go.Proofs.YtahicokokfcieaaDoor
namespace Go.Proofs.YtahicokokfcieaaDoor
open Go.RowKit
open Go.Proofs
set_option linter.unusedVariables false
attribute [local go_sem] Oper.semAt_some
/-- What Find gives. -/
def findT (M : Mem) (root key : Nat) : Nat × Nat × Nat :=
  if okM M = false then (0, 0, 120) else if (rowsW M root).isSome = false then (0, 0, 290) else
    if (lookT M root key).1.s.found = true then ((lookT M root key).1.s.val, (lookT M root key).2, 0) else (0, 0, 4)
def findTV (x : Nat × Nat × Nat) : Value := .tuple #[.int .u64 ((x.1 : Nat) : Int), .int .i64 ((x.2.1 : Nat) : Int), .int .i64 ((x.2.2 : Nat) : Int)]
set_option maxRecDepth 100000 in
set_option maxHeartbeats 4000000 in
theorem TFind_any (M : Mem) (root key : Nat) (wa la : Option Addr) (wc lc : Nat) (V : World) (h : MemL V wa wc la lc M) (hg : Glob V) (hW : ∀ x ∈ M.W, x < 18446744073709551616) (hr : root < 18446744073709551616) (hk : key < 18446744073709551616) :
    Calls Tryd.prog 19 #[memV wa wc la lc M, .int .u64 ((root : Nat) : Int), .int .u64 ((key : Nat) : Int)] V (Ret (findTV (findT M root key)) V) := by
  obtain ⟨V1, hV1, hbV1, hsV1, hlV1⟩ := laid V #[.slice wa M.W.length wc, .slice la M.L.length lc, .bool M.F] 38
  obtain ⟨X, hX⟩ : ∃ X, V.heap.size = X := ⟨_, rfl⟩
  rw [hX] at hlV1
  have KX := hid hlV1
  have HB := hid hbV1
  have hVX : V.heap.size ≤ X := by omega
  clear hbV1 hsV1 hlV1
  obtain ⟨XX, hXX⟩ : ∃ X, findT M root key = X := ⟨_, rfl⟩
  rw [hXX]
  have HXX := hid hXX
  clear hXX
  have HM := hid (h.grow HB.out)
  have HG0 := hid hg
  have HM0 := hid h
  have HW := hid hW
  have HTO := hid (told_any root wa wc la lc M V1 hr hW HM.out (hg.grow HB.out))
  have hwl := h.w.len
  have hll := h.l.len
  have hV0 : 0 < V.heap.size := hg.one
  unfold memV at HTO ⊢
  have x0 := cell_laid (i := 0) KX.out rfl
  have x1 := cell_laid (i := 1) KX.out rfl
  have x2 := cell_laid (i := 2) KX.out rfl
  have HLOOK := hid (fun xs met hok hx => look_run (M := M) (root := root) (key := key) (xs := xs) (met := met) hok hW hr hk hx)
  clear h hg hW
  go_enter Tryd.func19, Tryd.ntmps19
  go_wp2_with fail
  refine HTO.out.mono ?_
  clear HTO
  rintro e w2 ⟨hb2, ⟨hok, rfl⟩ | ⟨hok, hno, rfl⟩ | ⟨hok, xs, met, v, mb, hR, rfl, -, -, -, -⟩⟩
  · have HB2 := hid (step HB.out hb2)
    have e : XX = (0, 0, 120) := by rw [← HXX.out]; unfold findT; rw [if_pos hok]
    subst e
    clear hb2 hok hX HXX
    go_wp2
    refine bodyPost_ret (results_tmp3 rfl _ _ _) rfl ?_
    exact ⟨rfl, HB2.out⟩
  · have HB2 := hid (step HB.out hb2)
    have e : XX = (0, 0, 290) := by rw [← HXX.out]; unfold findT; rw [if_neg (by rw [hok]; decide), if_pos (by rw [hno]; rfl)]
    subst e
    clear hb2 hok hno hX HXX
    go_wp2
    refine bodyPost_ret (results_tmp3 rfl _ _ _) rfl ?_
    exact ⟨rfl, HB2.out⟩
  · have HB2 := hid (step HB.out hb2)
    have KX2 := hid (keep_laid KX.out hb2)
    have HOK := hid hok
    have hlr := HLOOK.out xs met hok hR
    have e : XX = if (lookT M root key).1.s.found = true then ((lookT M root key).1.s.val, (lookT M root key).2, 0) else (0, 0, 4) := by rw [← HXX.out]; unfold findT; rw [if_neg (by rw [hok]; decide), if_neg (by rw [hR]; exact fun h => by cases h)]
    obtain ⟨⟨⟨lp, lr, lk, la2, lm, ⟨sp, sh, sk, sl, sn, sv, sf⟩⟩, N⟩, hlt⟩ : ∃ x, lookT M root key = x := ⟨_, rfl⟩
    rw [hlt] at hlr e
    dsimp only at hlr e
    obtain ⟨hlr, hN⟩ := hlr
    have HLR := hid hlr
    have HE := hid e
    clear hb2 hok hR e hX HXX hlt hlr HLOOK x0 x1 x2
    have x0 := cell_laid (i := 0) KX2.out rfl
    have x1 := cell_laid (i := 1) KX2.out rfl
    have x2 := cell_laid (i := 2) KX2.out rfl
    go_wp2_with fail
    refine (town_any M wa la wc lc w2 (HM0.out.grow HB2.out) HOK.out).mono ?_
    rintro e w5 ⟨R, rfl, hR, hRT, hb5⟩
    have hR0 : R ≠ 0 := by have := HB2.out.size; omega
    have hRV : V.heap.size ≤ R := by have := HB2.out.size; omega
    have HR5 := hid (hRT.base HB2.out.size)
    have HB5 := hid (step HB2.out hb5)
    clear hb5 hRT hR x0 x1 x2
    go_wp2_with fail
    refine (looked_any V.heap.size R root key N M ⟨lp, lr, lk, la2, lm, ⟨sp, sh, sk, sl, sn, sv, sf⟩⟩ w5 HR5.out HB5.out.size HOK.out (HG0.out.grow HB5.out) HW.out hR0 HLR.out (by omega)).mono ?_
    rintro e w6 ⟨rfl, hrt, htl⟩
    have HR6 := hid hrt
    have HB6 : Hid (Below V.heap.size V w6) := hid (HB5.out.trans (htl.below (by intro k e; omega) HB5.out.size))
    clear hrt htl
    unfold lkV lk12
    dsimp only
    obtain ⟨w7, hw7, hb7, hs7, hl7⟩ := laid w6 #[.int .i64 0, .int .u64 0, .int .u64 0, .int .u64 0, .int .i64 0, .int .i64 0, .int .u64 0, .int .u64 0, .int .u64 0, .int .u64 0, .int .u64 0, .bool false] 46
    obtain ⟨L, hL⟩ : ∃ X, w6.heap.size = X := ⟨_, rfl⟩
    rw [hL] at hl7
    have KL7 := hid hl7
    have hVL : V.heap.size ≤ L := by have := HB6.out.size; omega
    have hRL : R < L := by have := HR6.out.lt; omega
    have hRL' : R ≠ L := by omega
    have HR7 := hid (HR6.out.grow hb7)
    have HB7 := hid (step HB6.out hb7)
    clear hb7 hs7 hl7

    cases sf with
    | false =>
      have e := HE.out
      rw [if_neg (by decide)] at e
      subst e
      go_wp2_with (refine wp_storeP rfl 46 (.tmp 13) (.tmp 29) rfl L 0 _ (lk12 ⟨lp, lr, lk, la2, lm, ⟨sp, sh, sk, sl, sn, sv, false⟩⟩) _ rfl rfl _ KL7.out (by kernel_rfl) (Nat.le_of_ble_eq_true rfl) (by kernel_rfl) rfl ?_; intro w9 a1 a2 a3 a4; have KL9 := hid a1; have HT9 : Hid (Tch (fun k => k = L) w7 w9) := hid ⟨a4.os, a4.tape, a4.output, a4.size, fun k hk hne => a4.block k hk (fun e => hne (Option.some.inj e))⟩; have HR9 := hid (HR7.out.tch HT9.out KL7.out (by decide) (by decide) (by decide)); have HB9 := hid (a3 V.heap.size V (by omega) HB7.out); have y11 : w9.cell? ⟨L, 11, none⟩ = some (.bool false) := cell_laid (i := 11) KL9.out rfl; clear a1 a2 a3 a4)
      clear hL
      refine bodyPost_ret (results_tmp3 rfl _ _ _) rfl ?_
      exact ⟨rfl, HB9.out⟩
    | true =>
      have e := HE.out
      rw [if_pos rfl] at e
      subst e
      go_wp2_with (refine wp_storeP rfl 46 (.tmp 13) (.tmp 29) rfl L 0 _ (lk12 ⟨lp, lr, lk, la2, lm, ⟨sp, sh, sk, sl, sn, sv, true⟩⟩) _ rfl rfl _ KL7.out (by kernel_rfl) (Nat.le_of_ble_eq_true rfl) (by kernel_rfl) rfl ?_; intro w9 a1 a2 a3 a4; have KL9 := hid a1; have HT9 : Hid (Tch (fun k => k = L) w7 w9) := hid ⟨a4.os, a4.tape, a4.output, a4.size, fun k hk hne => a4.block k hk (fun e => hne (Option.some.inj e))⟩; have HR9 := hid (HR7.out.tch HT9.out KL7.out (by decide) (by decide) (by decide)); have HB9 := hid (a3 V.heap.size V (by omega) HB7.out); have y11 : w9.cell? ⟨L, 11, none⟩ = some (.bool true) := cell_laid (i := 11) KL9.out rfl; clear a1 a2 a3 a4)
      clear hL
      obtain ⟨wa', wc', la', lc', kR9, oR9⟩ := HR9.out
      obtain ⟨D, hD⟩ : ∃ DX, w9.drew = DX := ⟨_, rfl⟩
      have hbD : Below w9.heap.size w9 D := by rw [← hD]; exact (Below.refl _ _).drew
      have HD := hid hD
      have KRD := hid (keep_laid kR9 hbD)
      have KLD := hid (keep_laid KL9.out hbD)
      have HBD := hid (step HB9.out hbD)
      haveI : Nonempty (RLk R L #[.slice wa' M.W.length wc', .slice la' M.L.length lc', .bool M.F, .int .i64 ((N : Nat) : Int)] #[.int .i64 lp, .int .u64 ((lr : Nat) : Int), .int .u64 ((lk : Nat) : Int), .int .u64 ((la2 : Nat) : Int), .int .i64 lm, .int .i64 sp, .int .u64 ((sh : Nat) : Int), .int .u64 ((sk : Nat) : Int), .int .u64 ((sl : Nat) : Int), .int .u64 ((sn : Nat) : Int), .int .u64 ((sv : Nat) : Int), .bool true]) := ⟨⟨D, KRD.out, KLD.out⟩⟩
      have r3 : ∀ z : RLk R L #[.slice wa' M.W.length wc', .slice la' M.L.length lc', .bool M.F, .int .i64 ((N : Nat) : Int)] #[.int .i64 lp, .int .u64 ((lr : Nat) : Int), .int .u64 ((lk : Nat) : Int), .int .u64 ((la2 : Nat) : Int), .int .i64 lm, .int .i64 sp, .int .u64 ((sh : Nat) : Int), .int .u64 ((sk : Nat) : Int), .int .u64 ((sl : Nat) : Int), .int .u64 ((sn : Nat) : Int), .int .u64 ((sv : Nat) : Int), .bool true], z.w.cell? ⟨R, 3, none⟩ = some (.int .i64 ((N : Nat) : Int)) := fun z => cell_laid (i := 3) z.br rfl
      have s10 : ∀ z : RLk R L #[.slice wa' M.W.length wc', .slice la' M.L.length lc', .bool M.F, .int .i64 ((N : Nat) : Int)] #[.int .i64 lp, .int .u64 ((lr : Nat) : Int), .int .u64 ((lk : Nat) : Int), .int .u64 ((la2 : Nat) : Int), .int .i64 lm, .int .i64 sp, .int .u64 ((sh : Nat) : Int), .int .u64 ((sk : Nat) : Int), .int .u64 ((sl : Nat) : Int), .int .u64 ((sn : Nat) : Int), .int .u64 ((sv : Nat) : Int), .bool true], z.w.cell? ⟨L, 10, none⟩ = some (.int .u64 ((sv : Nat) : Int)) := fun z => cell_laid (i := 10) z.bs rfl
      clear hD hbD kR9 oR9 y11
      refine wp_region_mix2 (fun W => ∃ z : RLk R L #[.slice wa' M.W.length wc', .slice la' M.L.length lc', .bool M.F, .int .i64 ((N : Nat) : Int)] #[.int .i64 lp, .int .u64 ((lr : Nat) : Int), .int .u64 ((lk : Nat) : Int), .int .u64 ((la2 : Nat) : Int), .int .i64 lm, .int .i64 sp, .int .u64 ((sh : Nat) : Int), .int .u64 ((sk : Nat) : Int), .int .u64 ((sl : Nat) : Int), .int .u64 ((sn : Nat) : Int), .int .u64 ((sv : Nat) : Int), .bool true], W = z.w) 10 (.q 0 (.q 1 (.q 2 (.q 3 (.q 4 (.q 5 (.q 6 (.q 7 (.q 8 (.q 9 .done)))))))))) (by kernel_rfl) (by kernel_rfl) (by rw [HD.out]; exact ⟨⟨D, KRD.out, KLD.out⟩, rfl⟩) ?_
      rw [HD.out]
      iterate 10 (refine wpMix2_q rfl rfl ?_; go_big_quiet_step (fail); refine wpQuiet_nil ?_)
      refine wpMix2_done ?_
      simp only [List.drop_succ_cons, List.drop_nil]
      go_wp2
      refine bodyPost_ret (results_tmp3 rfl _ _ _) rfl ?_
      exact ⟨rfl, HBD.out⟩
end Go.Proofs.YtahicokokfcieaaDoor
namespace Go.Proofs.YtahicokokfcieaaDoor
open Go.RowKit
open Go.Proofs
set_option linter.unusedVariables false
theorem tlink_live {M : Mem} {head hash key : Nat} {ns : List Nd} (hok : okM M = true) (h : nodesR M head = some ns) : liveN M (posL (findS hash key head ns).1.link 0) = true := by
  obtain ⟨hw, -⟩ := nodesR_some h
  obtain ⟨h1, h2⟩ := nodesW_chain hw
  rcases findS_link (hash := hash) (key := key) head ns with e | ⟨x, hx, e⟩
  · rw [e]; exact h1
  · obtain ⟨-, q2, q3⟩ := chain_live hok _ _ h2 x hx
    rw [e, q3]
    exact q2 2 (by decide)
theorem lookT_open {M : Mem} {root key : Nat} {xs : List Rw} {met : List Nat} (h : rowsW M root = some (xs, met)) : ∃ a d ns, saysW (M.W.getD root 0) = some (a, d) ∧ 2 ≤ d ∧ d ≤ 4 ∧ a < 4294967296 ∧ nodesR M (a + ofN key d) = some ns ∧
    lookT M root key = (⟨2, root, key, a, ((2 ^ d : Nat) : Int), (findS (hashN key) key (a + ofN key d) ns).1⟩, (findS (hashN key) key (a + ofN key d) ns).2 + 1) := by
  obtain ⟨a, d, m0, m1, t0, hs, t1, hb⟩ := rows_open h
  obtain ⟨hd2, hd4, ha⟩ := saysW_some hs
  have ho := ofN_lt (key := key) (show d ≤ 64 by omega)
  obtain ⟨ns, hns⟩ := rows_buckets _ _ _ _ _ _ hb (ofN key d) (by omega) (by omega)
  exact ⟨a, d, ns, hs, hd2, hd4, ha, hns, lookT_some hs hns⟩
/-- A node that was found is cut. -/
theorem cut_look {M : Mem} {root key : Nat} {xs : List Rw} {met : List Nat} (hok : okM M = true) (h : rowsW M root = some (xs, met)) (hf : (lookT M root key).1.s.found = true) (n : Nat) :
    editRun 8 M (cutK (lookT M root key).1.s.link (lookT M root key).1.s.node) n = (cutM M (lookT M root key).1.s.link (lookT M root key).1.s.node, ⟨6, true, (lookT M root key).1.s.link, (lookT M root key).1.s.node, 0, 0, 0, wAt M (lookT M root key).1.s.node 2⟩, n + 2) := by
  obtain ⟨a, d, ns, hs, hd2, hd4, ha, hns, e⟩ := lookT_open (key := key) h
  rw [e] at hf ⊢
  dsimp only at hf ⊢
  obtain ⟨x, hx, e1, -⟩ := findS_found _ _ hf
  obtain ⟨hw, -⟩ := nodesR_some hns
  obtain ⟨-, q2, -⟩ := chain_live hok _ _ (nodesW_chain hw).2 x hx
  rw [cut_run n (by rw [e1]; exact q2 2 (by decide)) (tlink_live hok hns)]
  rfl
/-- The memory behind a row that was put where one looked. -/
def putT (M : Mem) (root : Nat) (t : Nd) : Mem := putM' M (lookT M root t.2.1).1.s.link t (lookT M root t.2.1).1.s.node
theorem put_look {M : Mem} {root : Nat} {t : Nd} {xs : List Rw} {met met' : List Nat} (hok : okM M = true) (h : rowsW M root = some (xs, met)) (ht : tmeet M t.1 4 met = some met') (n : Nat) :
    editRun 8 M (putK (lookT M root t.2.1).1.s.link t (lookT M root t.2.1).1.s.node) n = (putT M root t, ⟨6, false, (lookT M root t.2.1).1.s.link, t.1, t.2.1, t.2.2.1, t.2.2.2, (lookT M root t.2.1).1.s.node⟩, n + 5) := by
  obtain ⟨a, d, ns, hs, hd2, hd4, ha, hns, e⟩ := lookT_open (key := t.2.1) h
  obtain ⟨h1, h2, -⟩ := tmeet_iff.1 ht
  have hl := tlink_live (hash := hashN t.2.1) (key := t.2.1) hok hns
  unfold putT
  rw [e]
  dsimp only
  rw [put_run n (fun k hk => by rw [show posL t.1 k = t.1 + k by unfold posL; omega]; exact (h2 k hk).1) hl]
  rfl
end Go.Proofs.YtahicokokfcieaaDoor
namespace Go.Proofs.YtahicokokfcieaaDoor
open Go.RowKit
open Go.Proofs
set_option linter.unusedVariables false
attribute [local go_sem] Oper.semAt_some
/-- What Remove gives. -/
def remT (M : Mem) (root key : Nat) : Mem × Nat × Nat :=
  if okM M = false then (zeroM, 0, 120) else if (rowsW M root).isSome = false then (zeroM, 0, 290) else
    if (lookT M root key).1.s.found = true then (cutM M (lookT M root key).1.s.link (lookT M root key).1.s.node, (lookT M root key).1.s.node, 0) else (zeroM, 0, 4)
def GivesRem (X : Mem × Nat × Nat) (V : World) (e : Ending) (W : World) : Prop := ∃ wa wc la lc, e = .returned (.tuple #[memV wa wc la lc X.1, .int .u64 ((X.2.1 : Nat) : Int), .int .i64 ((X.2.2 : Nat) : Int)]) ∧ MemO V.heap.size wa wc la lc X.1 W ∧ Below V.heap.size V W
theorem trem_result {W : World} {b6 : Nat} {v6_0 v6_1 v6_2 u7 u8 : Value} {tmps : Array Value} (h6 : W.heap[b6]? = some (.cells #[v6_0, v6_1, v6_2] 38 (0, 0))) (q6 : tmps[6]?.getD undef = .pointer (some ⟨b6, 0, none⟩)) (q7 : tmps[7]?.getD undef = u7) (q8 : tmps[8]?.getD undef = u8) :
    (results Tryd.f24 tmps).run Tryd.prog W = .ok (.tuple #[.agg #[v6_0, v6_1, v6_2], u7, u8]) W := by
  have e6_0 := cell_laid (i := 0) (v := v6_0) h6 rfl
  have e6_1 := cell_laid (i := 1) (v := v6_1) h6 rfl
  have e6_2 := cell_laid (i := 2) (v := v6_2) h6 rfl
  simp [results, Tryd.results24, go_sem, e6_0, e6_1, e6_2, q6, q7, q8]
set_option maxRecDepth 100000 in
set_option maxHeartbeats 4000000 in
theorem TRemove_any (M : Mem) (root key : Nat) (wa la : Option Addr) (wc lc : Nat) (V : World) (h : MemL V wa wc la lc M) (hg : Glob V) (hW : ∀ x ∈ M.W, x < 18446744073709551616) (hr : root < 18446744073709551616) (hk : key < 18446744073709551616) :
    Calls Tryd.prog 24 #[memV wa wc la lc M, .int .u64 ((root : Nat) : Int), .int .u64 ((key : Nat) : Int)] V (GivesRem (remT M root key) V) := by
  obtain ⟨V1, hV1, hbV1, hsV1, hlV1⟩ := laid V #[.slice wa M.W.length wc, .slice la M.L.length lc, .bool M.F] 38
  obtain ⟨V2, hV2, hbV2, hsV2, hlV2⟩ := laid V1 #[.slice none 0 0, .slice none 0 0, .bool false] 38
  obtain ⟨X, hX⟩ : ∃ X, V.heap.size = X := ⟨_, rfl⟩
  rw [hX] at hlV1
  obtain ⟨Z, hZ⟩ : ∃ X, V1.heap.size = X := ⟨_, rfl⟩
  rw [hZ] at hlV2
  have KX := hid (keep_laid hlV1 hbV2)
  have KZ := hid hlV2
  have HB := hid (step hbV1 hbV2)
  have hVX : V.heap.size ≤ X := by omega
  have hVZ : V.heap.size ≤ Z := by omega
  have nXZ : X < Z := by omega
  clear hbV1 hsV1 hlV1 hbV2 hsV2 hlV2
  obtain ⟨XX, hXX⟩ : ∃ X, remT M root key = X := ⟨_, rfl⟩
  rw [hXX]
  have HXX := hid hXX
  clear hXX
  have HM := hid (h.grow HB.out)
  have HG0 := hid hg
  have HM0 := hid h
  have HW := hid hW
  have HTO := hid (told_any root wa wc la lc M V2 hr hW HM.out (hg.grow HB.out))
  have hwl := h.w.len
  have hll := h.l.len
  have hV0 : 0 < V.heap.size := hg.one
  unfold memV at HTO ⊢
  have x0 := cell_laid (i := 0) KX.out rfl
  have x1 := cell_laid (i := 1) KX.out rfl
  have x2 := cell_laid (i := 2) KX.out rfl
  have HLOOK := hid (fun xs met hok hx => look_run (M := M) (root := root) (key := key) (xs := xs) (met := met) hok hW hr hk hx)
  clear h hg hW
  go_enter Tryd.func24, Tryd.ntmps24
  go_wp2_with fail
  refine HTO.out.mono ?_
  clear HTO
  rintro e w2 ⟨hb2, ⟨hok, rfl⟩ | ⟨hok, hno, rfl⟩ | ⟨hok, xs, met, v, mb, hR, rfl, -, -, -, -⟩⟩
  · have HB2 := hid (step HB.out hb2)
    have KZ2 := hid (keep_laid KZ.out hb2)
    have e : XX = (zeroM, 0, 120) := by rw [← HXX.out]; unfold remT; rw [if_pos hok]
    subst e
    clear hb2 hok hX hZ HXX x0 x1 x2
    go_wp2_with (refine wp_storeP rfl 38 (.tmp 6) (.tmp 23) rfl Z 0 _ #[.slice none 0 0, .slice none 0 0, .bool false] _ rfl rfl _ KZ2.out (by kernel_rfl) (Nat.le_of_ble_eq_true rfl) (by kernel_rfl) rfl ?_; intro u1 a1 a2 a3 a4; have KZu := hid a1; have HBu := hid (a3 V.heap.size V (by omega) HB2.out); clear a1 a2 a3 a4)
    refine bodyPost_ret (trem_result KZu.out rfl rfl rfl) rfl ?_
    exact ⟨none, 0, none, 0, rfl, memO_zero _ _, HBu.out⟩
  · have HB2 := hid (step HB.out hb2)
    have KZ2 := hid (keep_laid KZ.out hb2)
    have e : XX = (zeroM, 0, 290) := by rw [← HXX.out]; unfold remT; rw [if_neg (by rw [hok]; decide), if_pos (by rw [hno]; rfl)]
    subst e
    clear hb2 hok hno hX hZ HXX x0 x1 x2
    go_wp2_with (refine wp_storeP rfl 38 (.tmp 6) (.tmp 23) rfl Z 0 _ #[.slice none 0 0, .slice none 0 0, .bool false] _ rfl rfl _ KZ2.out (by kernel_rfl) (Nat.le_of_ble_eq_true rfl) (by kernel_rfl) rfl ?_; intro u1 a1 a2 a3 a4; have KZu := hid a1; have HBu := hid (a3 V.heap.size V (by omega) HB2.out); clear a1 a2 a3 a4)
    refine bodyPost_ret (trem_result KZu.out rfl rfl rfl) rfl ?_
    exact ⟨none, 0, none, 0, rfl, memO_zero _ _, HBu.out⟩
  · have HB2 := hid (step HB.out hb2)
    have KX2 := hid (keep_laid KX.out hb2)
    have KZ2 := hid (keep_laid KZ.out hb2)
    have HOK := hid hok
    have hlr := HLOOK.out xs met hok hR
    have HCUT := hid (fun hf n => cut_look (key := key) hok hR hf n)
    have e : XX = if (lookT M root key).1.s.found = true then (cutM M (lookT M root key).1.s.link (lookT M root key).1.s.node, (lookT M root key).1.s.node, 0) else (zeroM, 0, 4) := by rw [← HXX.out]; unfold remT; rw [if_neg (by rw [hok]; decide), if_neg (by rw [hR]; exact fun h => by cases h)]
    obtain ⟨⟨⟨lp, lr, lk, la2, lm, ⟨sp, sh, sk, sl, sn, sv, sf⟩⟩, N⟩, hlt⟩ : ∃ x, lookT M root key = x := ⟨_, rfl⟩
    rw [hlt] at hlr e HCUT
    dsimp only at hlr e HCUT
    obtain ⟨hlr, hN⟩ := hlr
    have HLR := hid hlr
    have HE := hid e
    clear hb2 hok hR e hX hZ HXX hlt hlr HLOOK x0 x1 x2
    have x0 := cell_laid (i := 0) KX2.out rfl
    have x1 := cell_laid (i := 1) KX2.out rfl
    have x2 := cell_laid (i := 2) KX2.out rfl
    go_wp2_with fail
    refine (town_any M wa la wc lc w2 (HM0.out.grow HB2.out) HOK.out).mono ?_
    rintro e w5 ⟨R, rfl, hR, hRT, hb5⟩
    have hR0 : R ≠ 0 := by have := HB2.out.size; omega
    have hRV : V.heap.size ≤ R := by have := HB2.out.size; omega
    have hRZ : R ≠ Z := by have := lt_laid KZ2.out; omega
    have hZR : Z ≠ R := Ne.symm hRZ
    have HR5 := hid (hRT.base HB2.out.size)
    have HB5 := hid (step HB2.out hb5)
    have KZ5 := hid (keep_laid KZ2.out hb5)
    clear hb5 hRT hR x0 x1 x2
    go_wp2_with fail
    refine (looked_any V.heap.size R root key N M ⟨lp, lr, lk, la2, lm, ⟨sp, sh, sk, sl, sn, sv, sf⟩⟩ w5 HR5.out HB5.out.size HOK.out (HG0.out.grow HB5.out) HW.out hR0 HLR.out (by omega)).mono ?_
    rintro e w6 ⟨rfl, hrt, htl⟩
    have KZ6 := hid (htl.keep KZ5.out (by omega))
    have HR6 := hid hrt
    have HB6 : Hid (Below V.heap.size V w6) := hid (HB5.out.trans (htl.below (by intro k e; omega) HB5.out.size))
    clear hrt htl
    unfold lkV lk12
    dsimp only
    obtain ⟨w7, hw7, hb7, hs7, hl7⟩ := laid w6 #[.int .i64 0, .int .u64 0, .int .u64 0, .int .u64 0, .int .i64 0, .int .i64 0, .int .u64 0, .int .u64 0, .int .u64 0, .int .u64 0, .int .u64 0, .bool false] 46
    obtain ⟨L, hL⟩ : ∃ X, w6.heap.size = X := ⟨_, rfl⟩
    rw [hL] at hl7
    have KL7 := hid hl7
    have hVL : V.heap.size ≤ L := by have := HB6.out.size; omega
    have hRL : R < L := by have := HR6.out.lt; omega
    have hRL' : R ≠ L := by omega
    have nKZL : Z ≠ L := by have := lt_laid KZ6.out; omega
    have HR7 := hid (HR6.out.grow hb7)
    have HB7 := hid (step HB6.out hb7)
    have KZ7 := hid (keep_laid KZ6.out hb7)
    clear hb7 hs7 hl7

    cases sf with
    | false =>
      have e := HE.out
      rw [if_neg (by decide)] at e
      subst e
      go_wp2_with (first | (refine wp_storeP rfl 46 (.tmp 13) (.tmp 30) rfl L 0 _ (lk12 ⟨lp, lr, lk, la2, lm, ⟨sp, sh, sk, sl, sn, sv, false⟩⟩) _ rfl rfl _ KL7.out (by kernel_rfl) (Nat.le_of_ble_eq_true rfl) (by kernel_rfl) rfl ?_; intro w9 a1 a2 a3 a4; have KL9 := hid a1; have KZ9 := hid (a2 _ _ nKZL KZ7.out); have HT9 : Hid (Tch (fun k => k = L) w7 w9) := hid ⟨a4.os, a4.tape, a4.output, a4.size, fun k hk hne => a4.block k hk (fun e => hne (Option.some.inj e))⟩; have HR9 := hid (HR7.out.tch HT9.out KL7.out (by decide) (by decide) (by decide)); have HB9 := hid (a3 V.heap.size V (by omega) HB7.out); have y11 : w9.cell? ⟨L, 11, none⟩ = some (.bool false) := cell_laid (i := 11) KL9.out rfl; clear a1 a2 a3 a4) | (refine wp_storeP rfl 38 (.tmp 6) (.tmp 35) rfl Z 0 _ #[.slice none 0 0, .slice none 0 0, .bool false] _ rfl rfl _ KZ9.out (by kernel_rfl) (Nat.le_of_ble_eq_true rfl) (by kernel_rfl) rfl ?_; intro u1 a1 a2 a3 a4; have KZu := hid a1; have HBu := hid (a3 V.heap.size V (by omega) HB9.out); clear a1 a2 a3 a4))
      refine bodyPost_ret (trem_result KZu.out rfl rfl rfl) rfl ?_
      exact ⟨none, 0, none, 0, rfl, memO_zero _ _, HBu.out⟩
    | true =>
      have e := HE.out
      rw [if_pos rfl] at e
      have HOLK := hid HLR.out.last.1
      have hsl := HOLK.out.s.link
      have hsn := HOLK.out.s.node
      dsimp only at hsl hsn
      have HCU := hid (HCUT.out rfl N)
      obtain ⟨M', hM'⟩ : ∃ x, cutM M sl sn = x := ⟨_, rfl⟩
      rw [hM'] at HCU e
      subst e
      have HM' := hid hM'
      clear HCUT hM'
      go_wp2_with (refine wp_storeP rfl 46 (.tmp 13) (.tmp 30) rfl L 0 _ (lk12 ⟨lp, lr, lk, la2, lm, ⟨sp, sh, sk, sl, sn, sv, true⟩⟩) _ rfl rfl _ KL7.out (by kernel_rfl) (Nat.le_of_ble_eq_true rfl) (by kernel_rfl) rfl ?_; intro w9 a1 a2 a3 a4; have KL9 := hid a1; have KZ9 := hid (a2 _ _ nKZL KZ7.out); have HT9 : Hid (Tch (fun k => k = L) w7 w9) := hid ⟨a4.os, a4.tape, a4.output, a4.size, fun k hk hne => a4.block k hk (fun e => hne (Option.some.inj e))⟩; have HR9 := hid (HR7.out.tch HT9.out KL7.out (by decide) (by decide) (by decide)); have HB9 := hid (a3 V.heap.size V (by omega) HB7.out); have y8 : w9.cell? ⟨L, 8, none⟩ = some (.int .u64 ((sl : Nat) : Int)) := cell_laid (i := 8) KL9.out rfl; have y9 : w9.cell? ⟨L, 9, none⟩ = some (.int .u64 ((sn : Nat) : Int)) := cell_laid (i := 9) KL9.out rfl; have y11 : w9.cell? ⟨L, 11, none⟩ = some (.bool true) := cell_laid (i := 11) KL9.out rfl; clear a1 a2 a3 a4)
      clear hL
      refine (Cut_any sl sn w9).mono ?_
      rintro e w10 ⟨rfl, hb10⟩
      have HR10 := hid (HR9.out.grow hb10)
      have HB10 := hid (step HB9.out hb10)
      have KL10 := hid (keep_laid KL9.out hb10)
      have KZ10 := hid (keep_laid KZ9.out hb10)
      clear hb10 y8 y9 y11
      go_wp2_with fail
      refine (tedit_any V.heap.size R N 8 M (cutK sl sn) _ w10 HR10.out HB10.out.size HOK.out HW.out ⟨by unfold cutK; dsimp only; decide, hsl, hsn, by unfold cutK; dsimp only; decide, by unfold cutK; dsimp only; decide, by unfold cutK; dsimp only; decide, by unfold cutK; dsimp only; decide⟩ (by unfold cutK; dsimp only; decide) (by unfold cutK; dsimp only; decide) HCU.out (by show (6 : Int) ≤ 6; decide) (by omega)).mono ?_
      rintro e w11 ⟨rfl, hrt, htl⟩
      dsimp only at hrt
      obtain ⟨N', hN'⟩ : ∃ x, N + 2 = x := ⟨_, rfl⟩
      rw [hN'] at hrt
      obtain ⟨wa', wc', la', lc', kR, oR⟩ := hrt
      have KR11 := hid kR
      have HO11 := hid oR
      have KL11 := hid (htl.keep KL10.out (by omega))
      have KZ11 := hid (htl.keep KZ10.out (by omega))
      have HB11 : Hid (Below V.heap.size V w11) := hid (HB10.out.trans (htl.below (by intro k e; omega) HB10.out.size))
      have hwl' := HO11.out.memL.w.len
      have hll' := HO11.out.memL.l.len
      clear kR oR htl hN' HCU
      go_upto_region 9 with (fail)
      obtain ⟨D, hD⟩ : ∃ DX, w11.drew = DX := ⟨_, rfl⟩
      have hbD : Below w11.heap.size w11 D := by rw [← hD]; exact (Below.refl _ _).drew
      have HD := hid hD
      have KRD := hid (keep_laid KR11.out hbD)
      have KLD : Hid (D.heap[L]? = some (.cells #[.int .i64 lp, .int .u64 ((lr : Nat) : Int), .int .u64 ((lk : Nat) : Int), .int .u64 ((la2 : Nat) : Int), .int .i64 lm, .int .i64 sp, .int .u64 ((sh : Nat) : Int), .int .u64 ((sk : Nat) : Int), .int .u64 ((sl : Nat) : Int), .int .u64 ((sn : Nat) : Int), .int .u64 ((sv : Nat) : Int), .bool true] 46 (0, 0))) := hid (keep_laid KL11.out hbD)
      have KZD := hid (keep_laid KZ11.out hbD)
      have HOD := hid (HO11.out.grow hbD)
      have HBD := hid (step HB11.out hbD)
      haveI : Nonempty (RLk R L #[.slice wa' M'.W.length wc', .slice la' M'.L.length lc', .bool M'.F, .int .i64 ((N' : Nat) : Int)] #[.int .i64 lp, .int .u64 ((lr : Nat) : Int), .int .u64 ((lk : Nat) : Int), .int .u64 ((la2 : Nat) : Int), .int .i64 lm, .int .i64 sp, .int .u64 ((sh : Nat) : Int), .int .u64 ((sk : Nat) : Int), .int .u64 ((sl : Nat) : Int), .int .u64 ((sn : Nat) : Int), .int .u64 ((sv : Nat) : Int), .bool true]) := ⟨⟨D, KRD.out, KLD.out⟩⟩
      have r0 : ∀ z : RLk R L #[.slice wa' M'.W.length wc', .slice la' M'.L.length lc', .bool M'.F, .int .i64 ((N' : Nat) : Int)] #[.int .i64 lp, .int .u64 ((lr : Nat) : Int), .int .u64 ((lk : Nat) : Int), .int .u64 ((la2 : Nat) : Int), .int .i64 lm, .int .i64 sp, .int .u64 ((sh : Nat) : Int), .int .u64 ((sk : Nat) : Int), .int .u64 ((sl : Nat) : Int), .int .u64 ((sn : Nat) : Int), .int .u64 ((sv : Nat) : Int), .bool true], z.w.cell? ⟨R, 0, none⟩ = some (.slice wa' M'.W.length wc') := fun z => cell_laid (i := 0) z.br rfl
      have r1 : ∀ z : RLk R L #[.slice wa' M'.W.length wc', .slice la' M'.L.length lc', .bool M'.F, .int .i64 ((N' : Nat) : Int)] #[.int .i64 lp, .int .u64 ((lr : Nat) : Int), .int .u64 ((lk : Nat) : Int), .int .u64 ((la2 : Nat) : Int), .int .i64 lm, .int .i64 sp, .int .u64 ((sh : Nat) : Int), .int .u64 ((sk : Nat) : Int), .int .u64 ((sl : Nat) : Int), .int .u64 ((sn : Nat) : Int), .int .u64 ((sv : Nat) : Int), .bool true], z.w.cell? ⟨R, 1, none⟩ = some (.slice la' M'.L.length lc') := fun z => cell_laid (i := 1) z.br rfl
      have r2 : ∀ z : RLk R L #[.slice wa' M'.W.length wc', .slice la' M'.L.length lc', .bool M'.F, .int .i64 ((N' : Nat) : Int)] #[.int .i64 lp, .int .u64 ((lr : Nat) : Int), .int .u64 ((lk : Nat) : Int), .int .u64 ((la2 : Nat) : Int), .int .i64 lm, .int .i64 sp, .int .u64 ((sh : Nat) : Int), .int .u64 ((sk : Nat) : Int), .int .u64 ((sl : Nat) : Int), .int .u64 ((sn : Nat) : Int), .int .u64 ((sv : Nat) : Int), .bool true], z.w.cell? ⟨R, 2, none⟩ = some (.bool M'.F) := fun z => cell_laid (i := 2) z.br rfl
      have s9 : ∀ z : RLk R L #[.slice wa' M'.W.length wc', .slice la' M'.L.length lc', .bool M'.F, .int .i64 ((N' : Nat) : Int)] #[.int .i64 lp, .int .u64 ((lr : Nat) : Int), .int .u64 ((lk : Nat) : Int), .int .u64 ((la2 : Nat) : Int), .int .i64 lm, .int .i64 sp, .int .u64 ((sh : Nat) : Int), .int .u64 ((sk : Nat) : Int), .int .u64 ((sl : Nat) : Int), .int .u64 ((sn : Nat) : Int), .int .u64 ((sv : Nat) : Int), .bool true], z.w.cell? ⟨L, 9, none⟩ = some (.int .u64 ((sn : Nat) : Int)) := fun z => cell_laid (i := 9) z.bs rfl
      clear hD hbD
      refine wp_region_mix2 (fun W => ∃ z : RLk R L #[.slice wa' M'.W.length wc', .slice la' M'.L.length lc', .bool M'.F, .int .i64 ((N' : Nat) : Int)] #[.int .i64 lp, .int .u64 ((lr : Nat) : Int), .int .u64 ((lk : Nat) : Int), .int .u64 ((la2 : Nat) : Int), .int .i64 lm, .int .i64 sp, .int .u64 ((sh : Nat) : Int), .int .u64 ((sk : Nat) : Int), .int .u64 ((sl : Nat) : Int), .int .u64 ((sn : Nat) : Int), .int .u64 ((sv : Nat) : Int), .bool true], W = z.w) 10 (.q 0 (.q 1 (.q 2 (.q 3 (.q 4 (.q 5 (.q 6 (.h 7 (.q 8 (.q 9 .done)))))))))) (by kernel_rfl) (by kernel_rfl) (by rw [HD.out]; exact ⟨⟨D, KRD.out, KLD.out⟩, rfl⟩) ?_
      rw [HD.out]
      iterate 7 (refine wpMix2_q rfl rfl ?_; go_big_quiet_step (fail); refine wpQuiet_nil ?_)
      refine wpMix2_h rfl fun R' hR' hO => ?_
      go_wp2_with (refine wp_storeP rfl 38 (.tmp 6) (.tmp 48) rfl Z 0 _ #[.slice wa' M'.W.length wc', .slice la' M'.L.length lc', .bool M'.F] _ rfl rfl _ KZD.out (by kernel_rfl) (Nat.le_of_ble_eq_true rfl) (by kernel_rfl) rfl ?_; intro u1 a1 a2 a3 a4; have KZu := hid a1; have KRu := hid (a2 R _ hRZ KRD.out); have KLu := hid (a2 L _ (Ne.symm nKZL) KLD.out); have HBu := hid (a3 V.heap.size V (by omega) HBD.out); have HOu : Hid (MemO V.heap.size wa' wc' la' lc' M' u1) := hid ⟨own_keep HOD.out.w fun j o hj ho => a2 j o (fun e => own_neP HOD.out.w KZD.out (by decide) (by rw [← e]; exact hj)) ho, own_keep HOD.out.l fun j o hj ho => a2 j o (fun e => own_neP HOD.out.l KZD.out (by decide) (by rw [← e]; exact hj)) ho⟩; clear a1 a2 a3 a4)
      refine hR' _ _ ⟨⟨u1, KRu.out, KLu.out⟩, rfl⟩ ?_
      clear hR' hO R'
      iterate 2 (refine wpMix2_q rfl rfl ?_; go_big_quiet_step (fail); refine wpQuiet_nil ?_)
      refine wpMix2_done ?_
      simp only [List.drop_succ_cons, List.drop_nil]
      go_wp2
      refine bodyPost_ret (trem_result KZu.out rfl rfl rfl) rfl ?_
      exact ⟨wa', wc', la', lc', rfl, HOu.out, HBu.out⟩
end Go.Proofs.YtahicokokfcieaaDoor
