/- Several texts in one. -/
import Derived.Test.YtahicokokfcieaaDoorTgAu
namespace Go.Proofs.YtahicokokfcieaaDoor
open Go.RowKit
open Go.Proofs
set_option linter.unusedVariables false
attribute [local go_sem] Oper.semAt_some
/-- What Insert gives. -/
def insT (M : Mem) (root at_ key val : Nat) : Mem × Nat × Nat :=
  if okM M = false then (zeroM, 0, 120) else match rowsW M root with
    | none => (zeroM, 0, 290)
    | some r => if at_ = 0 ∨ (tmeet M at_ 4 r.2).isNone = true then (zeroM, 0, 2) else
      if (lookT M root key).1.s.found = true then (zeroM, 0, 5) else (putT M root (at_, key, val, hashN key), (lookT M root key).2 + 5, 0)
def GivesIns (X : Mem × Nat × Nat) (V : World) (e : Ending) (W : World) : Prop := ∃ wa wc la lc, e = .returned (.tuple #[memV wa wc la lc X.1, .int .i64 ((X.2.1 : Nat) : Int), .int .i64 ((X.2.2 : Nat) : Int)]) ∧ MemO V.heap.size wa wc la lc X.1 W ∧ Below V.heap.size V W
def InsA (M : Mem) (at_ mb : Nat) (met : List Nat) (W W' : World) : Prop := W.grownBy W' (some mb) ∧ ∃ met', tmeet M at_ 4 met = some met'
def InsB (M : Mem) (at_ mb : Nat) (met : List Nat) (W W' : World) : Prop := W.grownBy W' (some mb) ∧ tmeet M at_ 4 met = none
structure RLA (L A : Nat) (cs cs' : Array Value) where
  w : World
  bl : w.heap[L]? = some (.cells cs 46 (0, 0))
  ba : w.heap[A]? = some (.cells cs' 25 (0, 0))
theorem tins_result {W : World} {b10 : Nat} {v10_0 v10_1 v10_2 u11 u12 : Value} {tmps : Array Value} (h10 : W.heap[b10]? = some (.cells #[v10_0, v10_1, v10_2] 38 (0, 0))) (q10 : tmps[10]?.getD undef = .pointer (some ⟨b10, 0, none⟩)) (q11 : tmps[11]?.getD undef = u11) (q12 : tmps[12]?.getD undef = u12) :
    (results Tryd.f18 tmps).run Tryd.prog W = .ok (.tuple #[.agg #[v10_0, v10_1, v10_2], u11, u12]) W := by
  have e10_0 := cell_laid (i := 0) (v := v10_0) h10 rfl
  have e10_1 := cell_laid (i := 1) (v := v10_1) h10 rfl
  have e10_2 := cell_laid (i := 2) (v := v10_2) h10 rfl
  simp [results, Tryd.results18, go_sem, e10_0, e10_1, e10_2, q10, q11, q12]
set_option maxRecDepth 100000 in
set_option maxHeartbeats 8000000 in
theorem TInsert_any (M : Mem) (root at_ key val : Nat) (wa la : Option Addr) (wc lc : Nat) (V : World) (h : MemL V wa wc la lc M) (hg : Glob V) (hW : ∀ x ∈ M.W, x < 18446744073709551616) (hr : root < 18446744073709551616) (ha : at_ < 18446744073709551616) (hk : key < 18446744073709551616) (hv : val < 18446744073709551616) :
    Calls Tryd.prog 18 #[memV wa wc la lc M, .int .u64 ((root : Nat) : Int), .int .u64 ((at_ : Nat) : Int), .int .u64 ((key : Nat) : Int), .int .u64 ((val : Nat) : Int)] V (GivesIns (insT M root at_ key val) V) := by
  obtain ⟨V1, hV1, hbV1, hsV1, hlV1⟩ := laid V #[.slice wa M.W.length wc, .slice la M.L.length lc, .bool M.F] 38
  obtain ⟨V2, hV2, hbV2, hsV2, hlV2⟩ := laid V1 #[.int .u64 ((at_ : Nat) : Int)] 25
  obtain ⟨V3, hV3, hbV3, hsV3, hlV3⟩ := laid V2 #[.slice none 0 0, .slice none 0 0, .bool false] 38
  obtain ⟨X, hX⟩ : ∃ X, V.heap.size = X := ⟨_, rfl⟩
  rw [hX] at hlV1
  obtain ⟨A, hA⟩ : ∃ X, V1.heap.size = X := ⟨_, rfl⟩
  rw [hA] at hlV2
  obtain ⟨Z, hZ⟩ : ∃ X, V2.heap.size = X := ⟨_, rfl⟩
  rw [hZ] at hlV3
  have KX := hid (keep_laid (keep_laid hlV1 hbV2) hbV3)
  have KA := hid (keep_laid hlV2 hbV3)
  have KZ := hid hlV3
  have HB := hid (step (step hbV1 hbV2) hbV3)
  have hVX : V.heap.size ≤ X := by omega
  have hVA : V.heap.size ≤ A := by omega
  have nXA : X < A := by omega
  have hVZ : V.heap.size ≤ Z := by omega
  have nXZ : X < Z := by omega
  have nAZ : A < Z := by omega
  clear hbV1 hsV1 hlV1 hbV2 hsV2 hlV2 hbV3 hsV3 hlV3
  obtain ⟨XX, hXX⟩ : ∃ X, insT M root at_ key val = X := ⟨_, rfl⟩
  rw [hXX]
  have HXX := hid hXX
  clear hXX
  have HM := hid (h.grow HB.out)
  have HG0 := hid hg
  have HM0 := hid h
  have HW := hid hW
  have HTO := hid (told_any root wa wc la lc M V3 hr hW HM.out (hg.grow HB.out))
  have hwl := h.w.len
  have hll := h.l.len
  have hV0 : 0 < V.heap.size := hg.one
  unfold memV at HTO ⊢
  have x0 := cell_laid (i := 0) KX.out rfl
  have x1 := cell_laid (i := 1) KX.out rfl
  have x2 := cell_laid (i := 2) KX.out rfl
  have HLOOK := hid (fun xs met hok hx => look_run (M := M) (root := root) (key := key) (xs := xs) (met := met) hok hW hr hk hx)
  have hmf : ∀ (fn : Fn) (first cap : Array Value) (w : World), (Instr.makeFunc fn first cap).run Tryd.prog w = .ok (.func fn first cap) w := fun _ _ _ _ => rfl
  clear h hg hW
  go_enter Tryd.func18, Tryd.ntmps18
  go_wp2_with fail
  refine HTO.out.mono ?_
  clear HTO
  rintro e w2 ⟨hb2, ⟨hok, rfl⟩ | ⟨hok, hno, rfl⟩ | ⟨hok, xs, met, v, mb, hR, rfl, -, hmb, hid2, hmet⟩⟩
  · have e : XX = (zeroM, 0, 120) := by rw [← HXX.out]; unfold insT; rw [if_pos hok]
    subst e
    have HB2 := hid (step HB.out hb2)
    have KX2 := hid (keep_laid KX.out hb2)
    have KA2 := hid (keep_laid KA.out hb2)
    have KZ2 := hid (keep_laid KZ.out hb2)
    clear hb2 hok hX hA hZ HXX x0 x1 x2
    obtain ⟨w3, hw3, hb3, hs3, hl3⟩ := laid w2 #[.map none] 86
    obtain ⟨T, hT⟩ : ∃ X, w2.heap.size = X := ⟨_, rfl⟩
    rw [hT] at hl3
    have KT3 := hid hl3
    have hVT : V.heap.size ≤ T := by have := HB2.out.size; omega
    have nXT : X < T := by have := lt_laid KX2.out; omega
    have nAT : A < T := by have := lt_laid KA2.out; omega
    have nZT : Z < T := by have := lt_laid KZ2.out; omega
    have KX3 := hid (keep_laid KX2.out hb3)
    have KA3 := hid (keep_laid KA2.out hb3)
    have KZ3 := hid (keep_laid KZ2.out hb3)
    have HB3 := hid (step HB2.out hb3)
    have HB23 := hid hb3
    clear hb3 hs3 hl3
    go_wp2_with (first | (refine wp_storeP rfl 86 (.tmp 14) (.tmp 23) rfl T 0 _ #[.map none] _ rfl rfl _ KT3.out (by kernel_rfl) (Nat.le_of_ble_eq_true rfl) (by kernel_rfl) rfl ?_; intro w4 a1 a2 a3 a4; have KT4 := hid a1; have KX4 := hid (a2 X _ (by omega) KX3.out); have KA4 := hid (a2 A _ (by omega) KA3.out); have KZ4 := hid (a2 Z _ (by omega) KZ3.out); have HB4 := hid (a3 V.heap.size V (by omega) HB3.out); have HB24 := hid (a3 w2.heap.size w2 (by omega) HB23.out); have ya : w4.cell? ⟨A, 0, none⟩ = some (.int .u64 ((at_ : Nat) : Int)) := cell_laid (i := 0) KA4.out rfl; clear a1 a2 a3 a4) | (refine wp_storeP rfl 38 (.tmp 10) (.tmp 27) rfl Z 0 _ #[.slice none 0 0, .slice none 0 0, .bool false] _ rfl rfl _ KZ4.out (by kernel_rfl) (Nat.le_of_ble_eq_true rfl) (by kernel_rfl) rfl ?_; intro u1 a1 a2 a3 a4; have KZu := hid a1; have HBu := hid (a3 V.heap.size V (by omega) HB4.out); clear a1 a2 a3 a4))
    refine bodyPost_ret (tins_result KZu.out rfl rfl rfl) rfl ?_
    exact ⟨none, 0, none, 0, rfl, memO_zero _ _, HBu.out⟩
  · have e : XX = (zeroM, 0, 290) := by rw [← HXX.out]; unfold insT; rw [if_neg (by rw [hok]; decide), hno]
    subst e
    have HB2 := hid (step HB.out hb2)
    have KX2 := hid (keep_laid KX.out hb2)
    have KA2 := hid (keep_laid KA.out hb2)
    have KZ2 := hid (keep_laid KZ.out hb2)
    clear hb2 hok hno hX hA hZ HXX x0 x1 x2
    obtain ⟨w3, hw3, hb3, hs3, hl3⟩ := laid w2 #[.map none] 86
    obtain ⟨T, hT⟩ : ∃ X, w2.heap.size = X := ⟨_, rfl⟩
    rw [hT] at hl3
    have KT3 := hid hl3
    have hVT : V.heap.size ≤ T := by have := HB2.out.size; omega
    have nXT : X < T := by have := lt_laid KX2.out; omega
    have nAT : A < T := by have := lt_laid KA2.out; omega
    have nZT : Z < T := by have := lt_laid KZ2.out; omega
    have KX3 := hid (keep_laid KX2.out hb3)
    have KA3 := hid (keep_laid KA2.out hb3)
    have KZ3 := hid (keep_laid KZ2.out hb3)
    have HB3 := hid (step HB2.out hb3)
    have HB23 := hid hb3
    clear hb3 hs3 hl3
    go_wp2_with (first | (refine wp_storeP rfl 86 (.tmp 14) (.tmp 23) rfl T 0 _ #[.map none] _ rfl rfl _ KT3.out (by kernel_rfl) (Nat.le_of_ble_eq_true rfl) (by kernel_rfl) rfl ?_; intro w4 a1 a2 a3 a4; have KT4 := hid a1; have KX4 := hid (a2 X _ (by omega) KX3.out); have KA4 := hid (a2 A _ (by omega) KA3.out); have KZ4 := hid (a2 Z _ (by omega) KZ3.out); have HB4 := hid (a3 V.heap.size V (by omega) HB3.out); have HB24 := hid (a3 w2.heap.size w2 (by omega) HB23.out); have ya : w4.cell? ⟨A, 0, none⟩ = some (.int .u64 ((at_ : Nat) : Int)) := cell_laid (i := 0) KA4.out rfl; clear a1 a2 a3 a4) | (refine wp_storeP rfl 38 (.tmp 10) (.tmp 27) rfl Z 0 _ #[.slice none 0 0, .slice none 0 0, .bool false] _ rfl rfl _ KZ4.out (by kernel_rfl) (Nat.le_of_ble_eq_true rfl) (by kernel_rfl) rfl ?_; intro u1 a1 a2 a3 a4; have KZu := hid a1; have HBu := hid (a3 V.heap.size V (by omega) HB4.out); clear a1 a2 a3 a4))
    refine bodyPost_ret (tins_result KZu.out rfl rfl rfl) rfl ?_
    exact ⟨none, 0, none, 0, rfl, memO_zero _ _, HBu.out⟩
  · have hmbV := hmb
    have hmbV2 : V.heap.size ≤ mb := by have := HB.out.size; omega
    have HI2 := hid hid2
    have hmbl : mb < w2.heap.size := World.ownsMap.lt hid2
    obtain ⟨hn1, hn4, hmn, -⟩ := okM_spec hok
    have hml : met.length ≤ 10000 := by have := hmet.len; omega
    have HMN := hid hmn
    have HB2 := hid (step HB.out hb2)
    have KX2 := hid (keep_laid KX.out hb2)
    have KA2 := hid (keep_laid KA.out hb2)
    have KZ2 := hid (keep_laid KZ.out hb2)
    have HOK := hid hok
    have hlr := HLOOK.out xs met hok hR
    have HPUT := hid (fun met' ht n => put_look (t := (at_, key, val, hashN key)) (met' := met') hok hR ht n)
    have e : XX = if at_ = 0 ∨ (tmeet M at_ 4 met).isNone = true then (zeroM, 0, 2) else if (lookT M root key).1.s.found = true then (zeroM, 0, 5) else (putT M root (at_, key, val, hashN key), (lookT M root key).2 + 5, 0) := by rw [← HXX.out]; unfold insT; rw [if_neg (by rw [hok]; decide), hR]
    obtain ⟨⟨⟨lp, lr, lk, la2, lm, ⟨sp, sh, sk, sl, sn, sv, sf⟩⟩, N⟩, hlt⟩ : ∃ x, lookT M root key = x := ⟨_, rfl⟩
    dsimp only at HPUT
    rw [hlt] at hlr e HPUT
    dsimp only at hlr e HPUT
    obtain ⟨MP, hMP⟩ : ∃ x, putT M root (at_, key, val, hashN key) = x := ⟨_, rfl⟩
    rw [hMP] at e HPUT
    obtain ⟨hlr, hN⟩ := hlr
    have HLR := hid hlr
    have HE := hid e
    clear hb2 hok hR e hX hA hZ HXX hlt hlr HLOOK x0 x1 x2 hmb hid2 hmet hn1 hn4 hmn hMP
    obtain ⟨w3, hw3, hb3, hs3, hl3⟩ := laid w2 #[.map none] 86
    obtain ⟨T, hT⟩ : ∃ X, w2.heap.size = X := ⟨_, rfl⟩
    rw [hT] at hl3
    have KT3 := hid hl3
    have hVT : V.heap.size ≤ T := by have := HB2.out.size; omega
    have nXT : X < T := by have := lt_laid KX2.out; omega
    have nAT : A < T := by have := lt_laid KA2.out; omega
    have nZT : Z < T := by have := lt_laid KZ2.out; omega
    have KX3 := hid (keep_laid KX2.out hb3)
    have KA3 := hid (keep_laid KA2.out hb3)
    have KZ3 := hid (keep_laid KZ2.out hb3)
    have HB3 := hid (step HB2.out hb3)
    have HB23 := hid hb3
    clear hb3 hs3 hl3
    by_cases h0 : at_ = 0
    · subst h0
      have e := HE.out
      rw [if_pos (.inl rfl)] at e
      subst e
      have t0 : (((0 : Nat) : Int) == 0) = true := rfl
      go_wp2_with (first | (refine wp_storeP rfl 86 (.tmp 14) (.tmp 23) rfl T 0 _ #[.map (some mb)] _ rfl rfl _ KT3.out (by kernel_rfl) (Nat.le_of_ble_eq_true rfl) (by kernel_rfl) rfl ?_; intro w4 a1 a2 a3 a4; have KT4 := hid a1; have KX4 := hid (a2 X _ (by omega) KX3.out); have KA4 := hid (a2 A _ (by omega) KA3.out); have KZ4 := hid (a2 Z _ (by omega) KZ3.out); have HB4 := hid (a3 V.heap.size V (by omega) HB3.out); have HB24 := hid (a3 w2.heap.size w2 (by omega) HB23.out); have ya : w4.cell? ⟨A, 0, none⟩ = some (.int .u64 ((0 : Nat) : Int)) := cell_laid (i := 0) KA4.out rfl; clear a1 a2 a3 a4) | (refine wp_storeP rfl 38 (.tmp 10) (.tmp 36) rfl Z 0 _ #[.slice none 0 0, .slice none 0 0, .bool false] _ rfl rfl _ KZ4.out (by kernel_rfl) (Nat.le_of_ble_eq_true rfl) (by kernel_rfl) rfl ?_; intro u1 a1 a2 a3 a4; have KZu := hid a1; have HBu := hid (a3 V.heap.size V (by omega) HB4.out); clear a1 a2 a3 a4))
      refine bodyPost_ret (tins_result KZu.out rfl rfl rfl) rfl ?_
      exact ⟨none, 0, none, 0, rfl, memO_zero _ _, HBu.out⟩
    · have t0 : (((at_ : Nat) : Int) == 0) = false := by simp [h0]
      have h0' : ¬ ((at_ : Nat) : Int) = 0 := by omega
      go_wp2_with (refine wp_storeP rfl 86 (.tmp 14) (.tmp 23) rfl T 0 _ #[.map (some mb)] _ rfl rfl _ KT3.out (by kernel_rfl) (Nat.le_of_ble_eq_true rfl) (by kernel_rfl) rfl ?_; intro w4 a1 a2 a3 a4; have KT4 := hid a1; have KX4 := hid (a2 X _ (by omega) KX3.out); have KA4 := hid (a2 A _ (by omega) KA3.out); have KZ4 := hid (a2 Z _ (by omega) KZ3.out); have HB4 := hid (a3 V.heap.size V (by omega) HB3.out); have HB24 := hid (a3 w2.heap.size w2 (by omega) HB23.out); have ya : w4.cell? ⟨A, 0, none⟩ = some (.int .u64 ((at_ : Nat) : Int)) := cell_laid (i := 0) KA4.out rfl; clear a1 a2 a3 a4)
      clear hT
      have HM4 := hid (HM0.out.grow HB4.out)
      have HI4 := hid (HI2.out.grow HB24.out)
      have hmb4 : mb < w4.heap.size := by have := HB24.out.size; omega
      have hmX : mb ≠ X := fun e => idsI_ne HI4.out KX4.out (congrArg some e)
      have hmA : mb ≠ A := fun e => idsI_ne HI4.out KA4.out (congrArg some e)
      have hmZ : mb ≠ Z := fun e => idsI_ne HI4.out KZ4.out (congrArg some e)
      refine (tries_any 46 #[.pointer (some ⟨T, 0, none⟩), .pointer (some ⟨X, 0, none⟩), .pointer (some ⟨A, 0, none⟩)] (InsA M at_ mb met) (InsB M at_ mb met) w4 (enters_of Tryd.func46 (by kernel_rfl) rfl)
        (fun W hb => (ins1_any T X A mb at_ M.W.length wa wc la lc M met W rfl (by rw [HMN.out]) ha (HM4.out.grow hb) (HI4.out.grow hb) hml (by have := keep_laid KX4.out hb; rw [HMN.out] at this; exact this) (keep_laid KA4.out hb) (keep_laid KT4.out hb)).mono (by
          rintro e W' (⟨h1, h2, met', h3, -⟩ | ⟨h1, h2, h3⟩)
          · exact .inl ⟨h1, h2, met', h3⟩
          · exact .inr ⟨h1, h2, h3⟩))
        (fun W W' Z' hb h1 h2 hAB => by
          have ht : W.grownBy W' (some mb) := hAB.elim (fun hA => hA.1) (fun hB => hB.1)
          exact ht.block Z' h2 (fun e => by have := Option.some.inj e; omega))).mono ?_
      rintro e W2 ⟨Z', W, W1, hbW, hz1, hz2, hgr, hAB⟩
      have hVW : V.heap.size ≤ W.heap.size := by have := HB4.out.size; have := hbW.size; omega
      have hWg : W.grownBy W1 (some mb) := hAB.elim (fun hA => hA.2.1) (fun hB => hB.2.1)
      have HTg : Hid (Tch (fun k => k = mb ∨ k = Z') w4 W2) := hid (((Tch.of_below hbW).trans (tch_grown hWg)).trans ⟨hgr.os, hgr.tape, hgr.output, hgr.size, fun k hk hn => hgr.block k hk (fun e => hn (.inr (Option.some.inj e)))⟩)
      have HB5 : Hid (Below V.heap.size V W2) := hid (HB4.out.trans (HTg.out.below (by rintro k (e | e) <;> omega) HB4.out.size))
      have lx := lt_laid KX4.out
      have lA := lt_laid KA4.out
      have lZ := lt_laid KZ4.out
      have KX5 := hid (HTg.out.keep KX4.out (by rintro (e | e) <;> omega))
      have KA5 := hid (HTg.out.keep KA4.out (by rintro (e | e) <;> omega))
      have KZ5 := hid (HTg.out.keep KZ4.out (by rintro (e | e) <;> omega))
      clear hbW hgr hWg HTg hVW hz1 hz2
      rcases hAB with ⟨rfl, -, met', hmt⟩ | ⟨rfl, -, hmt⟩
      · have e := HE.out
        rw [if_neg (by rintro (e | e); exact h0 e; rw [hmt] at e; cases e)] at e
        have HE := hid e
        have HPT := hid (fun n => HPUT.out met' hmt n)
        clear e hmt HPUT
        have x0 := cell_laid (i := 0) KX5.out rfl
        have x1 := cell_laid (i := 1) KX5.out rfl
        have x2 := cell_laid (i := 2) KX5.out rfl
        go_wp2_with fail
        refine (town_any M wa la wc lc W2 (HM0.out.grow HB5.out) HOK.out).mono ?_
        rintro e w5 ⟨R, rfl, hR, hRT, hb5⟩
        have hR0 : R ≠ 0 := by have := HB5.out.size; omega
        have hRV : V.heap.size ≤ R := by have := HB5.out.size; omega
        have hRZ : R ≠ Z := by have := lt_laid KZ5.out; omega
        have hRA : R ≠ A := by have := lt_laid KA5.out; omega
        have HR6 := hid (hRT.base HB5.out.size)
        have HB6 := hid (step HB5.out hb5)
        have KZ6 := hid (keep_laid KZ5.out hb5)
        have KA6 := hid (keep_laid KA5.out hb5)
        clear hb5 hRT hR x0 x1 x2
        go_wp2_with fail
        refine (looked_any V.heap.size R root key N M ⟨lp, lr, lk, la2, lm, ⟨sp, sh, sk, sl, sn, sv, sf⟩⟩ w5 HR6.out HB6.out.size HOK.out (HG0.out.grow HB6.out) HW.out hR0 HLR.out (by omega)).mono ?_
        rintro e w6 ⟨rfl, hrt, htl⟩
        have KZ7 := hid (htl.keep KZ6.out (by omega))
        have KA7 := hid (htl.keep KA6.out (by omega))
        have HR7 := hid hrt
        have HB7 : Hid (Below V.heap.size V w6) := hid (HB6.out.trans (htl.below (by intro k e; omega) HB6.out.size))
        clear hrt htl
        unfold lkV lk12
        dsimp only
        obtain ⟨w7, hw7, hb7, hs7, hl7⟩ := laid w6 #[.int .i64 0, .int .u64 0, .int .u64 0, .int .u64 0, .int .i64 0, .int .i64 0, .int .u64 0, .int .u64 0, .int .u64 0, .int .u64 0, .int .u64 0, .bool false] 46
        obtain ⟨L, hL⟩ : ∃ X, w6.heap.size = X := ⟨_, rfl⟩
        rw [hL] at hl7
        have KL8 := hid hl7
        have hVL : V.heap.size ≤ L := by have := HB7.out.size; omega
        have hRL : R < L := by have := HR7.out.lt; omega
        have hRL' : R ≠ L := by omega
        have nKZL : Z ≠ L := by have := lt_laid KZ7.out; omega
        have nKAL : A ≠ L := by have := lt_laid KA7.out; omega
        have HR8 := hid (HR7.out.grow hb7)
        have HB8 := hid (step HB7.out hb7)
        have KZ8 := hid (keep_laid KZ7.out hb7)
        have KA8 := hid (keep_laid KA7.out hb7)
        clear hb7 hs7 hl7
        cases sf with
        | true =>
          have e := HE.out
          rw [if_pos rfl] at e
          subst e
          go_wp2_with (first | (refine wp_storeP rfl 46 (.tmp 17) (.tmp 42) rfl L 0 _ (lk12 ⟨lp, lr, lk, la2, lm, ⟨sp, sh, sk, sl, sn, sv, true⟩⟩) _ rfl rfl _ KL8.out (by kernel_rfl) (Nat.le_of_ble_eq_true rfl) (by kernel_rfl) rfl ?_; intro w9 a1 a2 a3 a4; have KL9 := hid a1; have KZ9 := hid (a2 _ _ nKZL KZ8.out); have KA9 := hid (a2 _ _ nKAL KA8.out); have HT9 : Hid (Tch (fun k => k = L) w7 w9) := hid ⟨a4.os, a4.tape, a4.output, a4.size, fun k hk hne => a4.block k hk (fun e => hne (Option.some.inj e))⟩; have HR9 := hid (HR8.out.tch HT9.out KL8.out (by decide) (by decide) (by decide)); have HB9 := hid (a3 V.heap.size V (by omega) HB8.out); have y11 : w9.cell? ⟨L, 11, none⟩ = some (.bool true) := cell_laid (i := 11) KL9.out rfl; clear a1 a2 a3 a4) | (refine wp_storeP rfl 38 (.tmp 10) (.tmp 46) rfl Z 0 _ #[.slice none 0 0, .slice none 0 0, .bool false] _ rfl rfl _ KZ9.out (by kernel_rfl) (Nat.le_of_ble_eq_true rfl) (by kernel_rfl) rfl ?_; intro u1 a1 a2 a3 a4; have KZu := hid a1; have HBu := hid (a3 V.heap.size V (by omega) HB9.out); clear a1 a2 a3 a4))
          refine bodyPost_ret (tins_result KZu.out rfl rfl rfl) rfl ?_
          exact ⟨none, 0, none, 0, rfl, memO_zero _ _, HBu.out⟩
        | false =>
          have e := HE.out
          rw [if_neg (by decide)] at e
          subst e
          have HOLK := hid HLR.out.last.1
          have hsl := HOLK.out.s.link
          have hsn := HOLK.out.s.node
          dsimp only at hsl hsn
          have HPN := hid (HPT.out N)
          clear HPT HE HOLK HLR
          go_wp2_with (refine wp_storeP rfl 46 (.tmp 17) (.tmp 42) rfl L 0 _ (lk12 ⟨lp, lr, lk, la2, lm, ⟨sp, sh, sk, sl, sn, sv, false⟩⟩) _ rfl rfl _ KL8.out (by kernel_rfl) (Nat.le_of_ble_eq_true rfl) (by kernel_rfl) rfl ?_; intro w9 a1 a2 a3 a4; have KL9 := hid a1; have KZ9 := hid (a2 _ _ nKZL KZ8.out); have KA9 := hid (a2 _ _ nKAL KA8.out); have HT9 : Hid (Tch (fun k => k = L) w7 w9) := hid ⟨a4.os, a4.tape, a4.output, a4.size, fun k hk hne => a4.block k hk (fun e => hne (Option.some.inj e))⟩; have HR9 := hid (HR8.out.tch HT9.out KL8.out (by decide) (by decide) (by decide)); have HB9 := hid (a3 V.heap.size V (by omega) HB8.out); have y11 : w9.cell? ⟨L, 11, none⟩ = some (.bool false) := cell_laid (i := 11) KL9.out rfl; clear a1 a2 a3 a4)
          clear hL y11
          obtain ⟨D, hD⟩ : ∃ DX, w9.drew = DX := ⟨_, rfl⟩
          have hbD : Below w9.heap.size w9 D := by rw [← hD]; exact (Below.refl _ _).drew
          have HD := hid hD
          have HRD := hid (HR9.out.grow hbD)
          have KLD : Hid (D.heap[L]? = some (.cells #[.int .i64 lp, .int .u64 ((lr : Nat) : Int), .int .u64 ((lk : Nat) : Int), .int .u64 ((la2 : Nat) : Int), .int .i64 lm, .int .i64 sp, .int .u64 ((sh : Nat) : Int), .int .u64 ((sk : Nat) : Int), .int .u64 ((sl : Nat) : Int), .int .u64 ((sn : Nat) : Int), .int .u64 ((sv : Nat) : Int), .bool false] 46 (0, 0))) := hid (keep_laid KL9.out hbD)
          have KAD := hid (keep_laid KA9.out hbD)
          have KZD := hid (keep_laid KZ9.out hbD)
          have HBD := hid (step HB9.out hbD)
          haveI : Nonempty (RLA L A #[.int .i64 lp, .int .u64 ((lr : Nat) : Int), .int .u64 ((lk : Nat) : Int), .int .u64 ((la2 : Nat) : Int), .int .i64 lm, .int .i64 sp, .int .u64 ((sh : Nat) : Int), .int .u64 ((sk : Nat) : Int), .int .u64 ((sl : Nat) : Int), .int .u64 ((sn : Nat) : Int), .int .u64 ((sv : Nat) : Int), .bool false] #[.int .u64 ((at_ : Nat) : Int)]) := ⟨⟨D, KLD.out, KAD.out⟩⟩
          have s8 : ∀ z : RLA L A #[.int .i64 lp, .int .u64 ((lr : Nat) : Int), .int .u64 ((lk : Nat) : Int), .int .u64 ((la2 : Nat) : Int), .int .i64 lm, .int .i64 sp, .int .u64 ((sh : Nat) : Int), .int .u64 ((sk : Nat) : Int), .int .u64 ((sl : Nat) : Int), .int .u64 ((sn : Nat) : Int), .int .u64 ((sv : Nat) : Int), .bool false] #[.int .u64 ((at_ : Nat) : Int)], z.w.cell? ⟨L, 8, none⟩ = some (.int .u64 ((sl : Nat) : Int)) := fun z => cell_laid (i := 8) z.bl rfl
          have s9 : ∀ z : RLA L A #[.int .i64 lp, .int .u64 ((lr : Nat) : Int), .int .u64 ((lk : Nat) : Int), .int .u64 ((la2 : Nat) : Int), .int .i64 lm, .int .i64 sp, .int .u64 ((sh : Nat) : Int), .int .u64 ((sk : Nat) : Int), .int .u64 ((sl : Nat) : Int), .int .u64 ((sn : Nat) : Int), .int .u64 ((sv : Nat) : Int), .bool false] #[.int .u64 ((at_ : Nat) : Int)], z.w.cell? ⟨L, 9, none⟩ = some (.int .u64 ((sn : Nat) : Int)) := fun z => cell_laid (i := 9) z.bl rfl
          have sa : ∀ z : RLA L A #[.int .i64 lp, .int .u64 ((lr : Nat) : Int), .int .u64 ((lk : Nat) : Int), .int .u64 ((la2 : Nat) : Int), .int .i64 lm, .int .i64 sp, .int .u64 ((sh : Nat) : Int), .int .u64 ((sk : Nat) : Int), .int .u64 ((sl : Nat) : Int), .int .u64 ((sn : Nat) : Int), .int .u64 ((sv : Nat) : Int), .bool false] #[.int .u64 ((at_ : Nat) : Int)], z.w.cell? ⟨A, 0, none⟩ = some (.int .u64 ((at_ : Nat) : Int)) := fun z => cell_laid (i := 0) z.ba rfl
          clear hD hbD KL9 KA9 KZ9 HB9 HR9
          refine wp_region_mix2 (fun W => ∃ z : RLA L A #[.int .i64 lp, .int .u64 ((lr : Nat) : Int), .int .u64 ((lk : Nat) : Int), .int .u64 ((la2 : Nat) : Int), .int .i64 lm, .int .i64 sp, .int .u64 ((sh : Nat) : Int), .int .u64 ((sk : Nat) : Int), .int .u64 ((sl : Nat) : Int), .int .u64 ((sn : Nat) : Int), .int .u64 ((sv : Nat) : Int), .bool false] #[.int .u64 ((at_ : Nat) : Int)], W = z.w) 15 (.q 0 (.q 1 (.q 2 (.q 3 (.q 4 (.q 5 (.q 6 (.q 7 (.q 10 (.q 11 (.q 12 (.h 8 (.q 9 (.h 13 (.h 14 .done))))))))))))))) (by kernel_rfl) (by kernel_rfl) (by rw [HD.out]; exact ⟨⟨D, KLD.out, KAD.out⟩, rfl⟩) ?_
          rw [HD.out]
          iterate 11 (refine wpMix2_q rfl rfl ?_; go_big_quiet_step (fail); refine wpQuiet_nil ?_)
          refine wpMix2_h rfl fun R' hR' hO => ?_
          go_wp2_with fail
          refine (Hash_any key D).mono ?_
          rintro e w10 ⟨rfl, hb10⟩
          have HR10 := hid (HRD.out.grow hb10)
          have KL10 := hid (keep_laid KLD.out hb10)
          have KA10 := hid (keep_laid KAD.out hb10)
          have KZ10 := hid (keep_laid KZD.out hb10)
          have HB10 := hid (step HBD.out hb10)
          clear hb10
          go_wp2
          refine hR' _ _ ⟨⟨w10, KL10.out, KA10.out⟩, rfl⟩ ?_
          clear hR' hO R'
          refine wpMix2_q rfl rfl ?_
          go_big_quiet_step (fail)
          refine wpQuiet_nil ?_
          refine wpMix2_h rfl fun R' hR' hO => ?_
          go_wp2_with fail
          refine (Put_any sl sn (at_, key, val, hashN key) w10).mono ?_
          rintro e w11 ⟨rfl, hb11⟩
          have HR11 := hid (HR10.out.grow hb11)
          have KL11 := hid (keep_laid KL10.out hb11)
          have KA11 := hid (keep_laid KA10.out hb11)
          have KZ11 := hid (keep_laid KZ10.out hb11)
          have HB11 := hid (step HB10.out hb11)
          clear hb11
          go_wp2
          refine hR' _ _ ⟨⟨w11, KL11.out, KA11.out⟩, rfl⟩ ?_
          clear hR' hO R'
          refine wpMix2_h rfl fun R' hR' hO => ?_
          go_wp2_with fail
          refine (tedit_any V.heap.size R N 8 M (putK sl (at_, key, val, hashN key) sn) _ w11 HR11.out HB11.out.size HOK.out HW.out ⟨by unfold putK; dsimp only; decide, hsl, ha, hk, hv, hashN_lt key, hsn⟩ (by unfold putK; dsimp only; decide) (by unfold putK; dsimp only; decide) HPN.out (by show (6 : Int) ≤ 6; decide) (by omega)).mono ?_
          rintro e w12 ⟨rfl, hrt, htl⟩
          dsimp only at hrt
          have HR12 := hid hrt
          have KL12 := hid (htl.keep KL11.out (by omega))
          have KA12 := hid (htl.keep KA11.out (by omega))
          have KZ12 := hid (htl.keep KZ11.out (by omega))
          have HB12 : Hid (Below V.heap.size V w12) := hid (HB11.out.trans (htl.below (by intro k e; omega) HB11.out.size))
          clear hrt htl
          go_wp2
          refine hR' _ _ ⟨⟨w12, KL12.out, KA12.out⟩, rfl⟩ ?_
          clear hR' hO R'
          refine wpMix2_done ?_
          simp only [List.drop_succ_cons, List.drop_nil]
          clear s8 s9 sa HPN HD HRD KLD KAD KZD HBD HR10 KL10 KA10 KZ10 HB10 HR11 KL11 KA11 KZ11 HB11
          go_upto_region 11 with (fail)
          have hrt := HR12.out
          obtain ⟨N', hN'⟩ : ∃ x, N + 5 = x := ⟨_, rfl⟩
          rw [hN'] at hrt ⊢
          obtain ⟨wa', wc', la', lc', kR, oR⟩ := hrt
          have KR12 := hid kR
          have HO12 := hid oR
          have hwl' := HO12.out.memL.w.len
          have hll' := HO12.out.memL.l.len
          have HN' := hid hN'
          clear kR oR hN'
          obtain ⟨D, hD⟩ : ∃ DX, w12.drew = DX := ⟨_, rfl⟩
          have hbD : Below w12.heap.size w12 D := by rw [← hD]; exact (Below.refl _ _).drew
          have HD := hid hD
          have KRD := hid (keep_laid KR12.out hbD)
          have KLD : Hid (D.heap[L]? = some (.cells #[.int .i64 lp, .int .u64 ((lr : Nat) : Int), .int .u64 ((lk : Nat) : Int), .int .u64 ((la2 : Nat) : Int), .int .i64 lm, .int .i64 sp, .int .u64 ((sh : Nat) : Int), .int .u64 ((sk : Nat) : Int), .int .u64 ((sl : Nat) : Int), .int .u64 ((sn : Nat) : Int), .int .u64 ((sv : Nat) : Int), .bool false] 46 (0, 0))) := hid (keep_laid KL12.out hbD)
          have KZD := hid (keep_laid KZ12.out hbD)
          have HOD := hid (HO12.out.grow hbD)
          have HBD := hid (step HB12.out hbD)
          haveI : Nonempty (RLk R L #[.slice wa' MP.W.length wc', .slice la' MP.L.length lc', .bool MP.F, .int .i64 ((N' : Nat) : Int)] #[.int .i64 lp, .int .u64 ((lr : Nat) : Int), .int .u64 ((lk : Nat) : Int), .int .u64 ((la2 : Nat) : Int), .int .i64 lm, .int .i64 sp, .int .u64 ((sh : Nat) : Int), .int .u64 ((sk : Nat) : Int), .int .u64 ((sl : Nat) : Int), .int .u64 ((sn : Nat) : Int), .int .u64 ((sv : Nat) : Int), .bool false]) := ⟨⟨D, KRD.out, KLD.out⟩⟩
          have r0 : ∀ z : RLk R L #[.slice wa' MP.W.length wc', .slice la' MP.L.length lc', .bool MP.F, .int .i64 ((N' : Nat) : Int)] #[.int .i64 lp, .int .u64 ((lr : Nat) : Int), .int .u64 ((lk : Nat) : Int), .int .u64 ((la2 : Nat) : Int), .int .i64 lm, .int .i64 sp, .int .u64 ((sh : Nat) : Int), .int .u64 ((sk : Nat) : Int), .int .u64 ((sl : Nat) : Int), .int .u64 ((sn : Nat) : Int), .int .u64 ((sv : Nat) : Int), .bool false], z.w.cell? ⟨R, 0, none⟩ = some (.slice wa' MP.W.length wc') := fun z => cell_laid (i := 0) z.br rfl
          have r1 : ∀ z : RLk R L #[.slice wa' MP.W.length wc', .slice la' MP.L.length lc', .bool MP.F, .int .i64 ((N' : Nat) : Int)] #[.int .i64 lp, .int .u64 ((lr : Nat) : Int), .int .u64 ((lk : Nat) : Int), .int .u64 ((la2 : Nat) : Int), .int .i64 lm, .int .i64 sp, .int .u64 ((sh : Nat) : Int), .int .u64 ((sk : Nat) : Int), .int .u64 ((sl : Nat) : Int), .int .u64 ((sn : Nat) : Int), .int .u64 ((sv : Nat) : Int), .bool false], z.w.cell? ⟨R, 1, none⟩ = some (.slice la' MP.L.length lc') := fun z => cell_laid (i := 1) z.br rfl
          have r2 : ∀ z : RLk R L #[.slice wa' MP.W.length wc', .slice la' MP.L.length lc', .bool MP.F, .int .i64 ((N' : Nat) : Int)] #[.int .i64 lp, .int .u64 ((lr : Nat) : Int), .int .u64 ((lk : Nat) : Int), .int .u64 ((la2 : Nat) : Int), .int .i64 lm, .int .i64 sp, .int .u64 ((sh : Nat) : Int), .int .u64 ((sk : Nat) : Int), .int .u64 ((sl : Nat) : Int), .int .u64 ((sn : Nat) : Int), .int .u64 ((sv : Nat) : Int), .bool false], z.w.cell? ⟨R, 2, none⟩ = some (.bool MP.F) := fun z => cell_laid (i := 2) z.br rfl
          have r3 : ∀ z : RLk R L #[.slice wa' MP.W.length wc', .slice la' MP.L.length lc', .bool MP.F, .int .i64 ((N' : Nat) : Int)] #[.int .i64 lp, .int .u64 ((lr : Nat) : Int), .int .u64 ((lk : Nat) : Int), .int .u64 ((la2 : Nat) : Int), .int .i64 lm, .int .i64 sp, .int .u64 ((sh : Nat) : Int), .int .u64 ((sk : Nat) : Int), .int .u64 ((sl : Nat) : Int), .int .u64 ((sn : Nat) : Int), .int .u64 ((sv : Nat) : Int), .bool false], z.w.cell? ⟨R, 3, none⟩ = some (.int .i64 ((N' : Nat) : Int)) := fun z => cell_laid (i := 3) z.br rfl
          clear hD hbD
          refine wp_region_mix2 (fun W => ∃ z : RLk R L #[.slice wa' MP.W.length wc', .slice la' MP.L.length lc', .bool MP.F, .int .i64 ((N' : Nat) : Int)] #[.int .i64 lp, .int .u64 ((lr : Nat) : Int), .int .u64 ((lk : Nat) : Int), .int .u64 ((la2 : Nat) : Int), .int .i64 lm, .int .i64 sp, .int .u64 ((sh : Nat) : Int), .int .u64 ((sk : Nat) : Int), .int .u64 ((sl : Nat) : Int), .int .u64 ((sn : Nat) : Int), .int .u64 ((sv : Nat) : Int), .bool false], W = z.w) 11 (.q 0 (.q 1 (.q 2 (.q 3 (.q 4 (.q 5 (.q 6 (.q 7 (.h 8 (.q 9 (.q 10 .done))))))))))) (by kernel_rfl) (by kernel_rfl) (by rw [HD.out]; exact ⟨⟨D, KRD.out, KLD.out⟩, rfl⟩) ?_
          rw [HD.out]
          iterate 8 (refine wpMix2_q rfl rfl ?_; go_big_quiet_step (fail); refine wpQuiet_nil ?_)
          refine wpMix2_h rfl fun R' hR' hO => ?_
          go_wp2_with (refine wp_storeP rfl 38 (.tmp 10) (.tmp 65) rfl Z 0 _ #[.slice wa' MP.W.length wc', .slice la' MP.L.length lc', .bool MP.F] _ rfl rfl _ KZD.out (by kernel_rfl) (Nat.le_of_ble_eq_true rfl) (by kernel_rfl) rfl ?_; intro u1 a1 a2 a3 a4; have KZu := hid a1; have KRu := hid (a2 R _ hRZ KRD.out); have KLu := hid (a2 L _ (Ne.symm nKZL) KLD.out); have HBu := hid (a3 V.heap.size V (by omega) HBD.out); have HOu : Hid (MemO V.heap.size wa' wc' la' lc' MP u1) := hid ⟨own_keep HOD.out.w fun j o hj ho => a2 j o (fun e => own_neP HOD.out.w KZD.out (by decide) (by rw [← e]; exact hj)) ho, own_keep HOD.out.l fun j o hj ho => a2 j o (fun e => own_neP HOD.out.l KZD.out (by decide) (by rw [← e]; exact hj)) ho⟩; clear a1 a2 a3 a4)
          refine hR' _ _ ⟨⟨u1, KRu.out, KLu.out⟩, rfl⟩ ?_
          clear hR' hO R'
          iterate 2 (refine wpMix2_q rfl rfl ?_; go_big_quiet_step (fail); refine wpQuiet_nil ?_)
          refine wpMix2_done ?_
          simp only [List.drop_succ_cons, List.drop_nil]
          go_wp2
          refine bodyPost_ret (tins_result KZu.out rfl rfl rfl) rfl ?_
          exact ⟨wa', wc', la', lc', by rw [HN'.out]; rfl, HOu.out, HBu.out⟩
      · have e := HE.out
        rw [if_pos (.inr (by rw [hmt]; rfl))] at e
        subst e
        go_wp2_with (refine wp_storeP rfl 38 (.tmp 10) (.tmp 36) rfl Z 0 _ #[.slice none 0 0, .slice none 0 0, .bool false] _ rfl rfl _ KZ5.out (by kernel_rfl) (Nat.le_of_ble_eq_true rfl) (by kernel_rfl) rfl ?_; intro u1 a1 a2 a3 a4; have KZu := hid a1; have HBu := hid (a3 V.heap.size V (by omega) HB5.out); clear a1 a2 a3 a4)
        refine bodyPost_ret (tins_result KZu.out rfl rfl rfl) rfl ?_
        exact ⟨none, 0, none, 0, rfl, memO_zero _ _, HBu.out⟩
end Go.Proofs.YtahicokokfcieaaDoor
namespace Go.Proofs.YtahicokokfcieaaDoor
open Go.RowKit
open Go.Proofs
set_option linter.unusedVariables false
attribute [local go_sem] Oper.semAt_some
theorem stepM_ok {M : Mem} (hok : okM M = true) (hW : ∀ x ∈ M.W, x < 18446744073709551616) : ∀ (st : Bool) (q new : Nat), new < 18446744073709551616 → okM (stepM M st ((q : Nat) : Int) new).1 = true ∧ (∀ x ∈ (stepM M st ((q : Nat) : Int) new).1.W, x < 18446744073709551616) ∧ (stepM M st ((q : Nat) : Int) new).2.1 < 18446744073709551616 ∧ (stepM M st ((q : Nat) : Int) new).1.W.length = M.W.length ∧ (stepM M st ((q : Nat) : Int) new).1.L = M.L := by
  intro st q new hnew
  obtain ⟨q1, q2, q3, q4⟩ := okM_spec hok
  unfold stepM
  rw [liveAt_eq]
  cases hl : liveN M q with
  | false =>
    rw [if_neg (by decide)]
    refine ⟨?_, hW, by show (0 : Nat) < _; decide, rfl, rfl⟩
    unfold okM at hok ⊢
    exact hok
  | true =>
    rw [if_pos rfl]
    have hd : M.W.getD q 0 < 18446744073709551616 := by
      rw [List.getD_eq_getElem?_getD]
      cases h : M.W[q]? with
      | none => simp
      | some x => exact hW x (List.mem_of_getElem? h)
    rw [Int.toNat_natCast]
    cases st with
    | false => exact ⟨hok, hW, hd, rfl, rfl⟩
    | true =>
      refine ⟨?_, ?_, hd, by simp, rfl⟩
      · rw [if_pos rfl]
        unfold okM
        simp only [List.length_set]
        rw [decide_eq_true q1, decide_eq_true q2, decide_eq_true q3]
        simp only [Bool.true_and]
        rw [List.all_eq_true]
        intro p hp
        obtain ⟨i, hi⟩ := List.mem_iff_getElem?.1 hp
        rw [List.getElem?_zip_eq_some] at hi
        obtain ⟨i1, i2⟩ := hi
        by_cases hiq : q = i
        · subst hiq
          unfold liveN at hl
          rw [i2] at hl
          have : p.2 = true := by simpa using hl
          unfold wordOk
          rw [this]; rfl
        · rw [List.getElem?_set_ne hiq] at i1
          have := List.all_eq_true.1 q4 p (List.mem_iff_getElem?.2 ⟨i, by rw [List.getElem?_zip_eq_some]; exact ⟨i1, i2⟩⟩)
          exact this
      · intro x hx
        rw [if_pos rfl] at hx
        rcases List.mem_or_eq_of_mem_set hx with h | h
        · exact hW x h
        · rw [h]; exact hnew
/-- Words are made zero, one behind the other. -/
def clearN : Nat → Mem → Nat → Mem
  | 0, M, _ => M
  | k + 1, M, p => clearN k (stepM M true ((p : Nat) : Int) 0).1 (p + 1)
def layM (M : Mem) (root array d : Nat) : Mem := clearN (2 ^ d) (stepM M true ((root : Nat) : Int) (wordW array d)).1 array
/-- What Lay gives. -/
def layT (M : Mem) (root array : Nat) (many : Int) : Mem × Nat :=
  if okM M = false then (zeroM, 120) else match depZ many with
    | none => (zeroM, 2)
    | some d => if array ≤ 4096 then (if ((tmeet M root 1 []).bind fun m => tmeet M array (2 ^ d) m).isNone = true then (zeroM, 2) else (layM M root array d, 0)) else (zeroM, 2)
def GivesLay (X : Mem × Nat) (V : World) (e : Ending) (W : World) : Prop := ∃ wa wc la lc, e = .returned (.tuple #[memV wa wc la lc X.1, .int .i64 ((X.2 : Nat) : Int)]) ∧ MemO V.heap.size wa wc la lc X.1 W ∧ Below V.heap.size V W
def LayA (M : Mem) (root array p mb : Nat) (W W' : World) : Prop := W.grownBy W' (some mb) ∧ ((tmeet M root 1 []).bind fun m => tmeet M array p m).isSome = true
def LayB (M : Mem) (root array p mb : Nat) (W W' : World) : Prop := W.grownBy W' (some mb) ∧ ((tmeet M root 1 []).bind fun m => tmeet M array p m) = none
structure Lyd (V V0 : World) (R A Z array p g k : Nat) (MF : Mem) (W : World) : Prop where
  run : ∃ M2, RunT V.heap.size R M2 0 W ∧ okM M2 = true ∧ (∀ x ∈ M2.W, x < 18446744073709551616) ∧ clearN g M2 (array + k) = MF
  tch : Tch (fun k => k = R) V0 W
  cnt : g + k = p
theorem tlay_result {W : World} {b8 : Nat} {v8_0 v8_1 v8_2 u9 : Value} {tmps : Array Value} (h8 : W.heap[b8]? = some (.cells #[v8_0, v8_1, v8_2] 38 (0, 0))) (q8 : tmps[8]?.getD undef = .pointer (some ⟨b8, 0, none⟩)) (q9 : tmps[9]?.getD undef = u9) :
    (results Tryd.f28 tmps).run Tryd.prog W = .ok (.tuple #[.agg #[v8_0, v8_1, v8_2], u9]) W := by
  have e8_0 := cell_laid (i := 0) (v := v8_0) h8 rfl
  have e8_1 := cell_laid (i := 1) (v := v8_1) h8 rfl
  have e8_2 := cell_laid (i := 2) (v := v8_2) h8 rfl
  simp [results, Tryd.results28, go_sem, e8_0, e8_1, e8_2, q8, q9]
set_option maxRecDepth 100000 in
set_option maxHeartbeats 8000000 in
theorem TLay_any (M : Mem) (root array : Nat) (many : Int) (wa la : Option Addr) (wc lc : Nat) (V : World) (h : MemL V wa wc la lc M) (hg : Glob V) (hW : ∀ x ∈ M.W, x < 18446744073709551616) (hr : root < 18446744073709551616) (ha : array < 18446744073709551616) (hmy : -9223372036854775808 ≤ many ∧ many ≤ 9223372036854775807) :
    Calls Tryd.prog 28 #[memV wa wc la lc M, .int .u64 ((root : Nat) : Int), .int .u64 ((array : Nat) : Int), .int .i64 many] V (GivesLay (layT M root array many) V) := by
  obtain ⟨V1, hV1, hbV1, hsV1, hlV1⟩ := laid V #[.slice wa M.W.length wc, .slice la M.L.length lc, .bool M.F] 38
  obtain ⟨V2, hV2, hbV2, hsV2, hlV2⟩ := laid V1 #[.int .u64 ((root : Nat) : Int)] 25
  obtain ⟨V3, hV3, hbV3, hsV3, hlV3⟩ := laid V2 #[.int .u64 ((array : Nat) : Int)] 25
  obtain ⟨V4, hV4, hbV4, hsV4, hlV4⟩ := laid V3 #[.int .i64 many] 3
  obtain ⟨V5, hV5, hbV5, hsV5, hlV5⟩ := laid V4 #[.slice none 0 0, .slice none 0 0, .bool false] 38
  obtain ⟨X, hX⟩ : ∃ X, V.heap.size = X := ⟨_, rfl⟩
  rw [hX] at hlV1
  obtain ⟨H, hH⟩ : ∃ X, V1.heap.size = X := ⟨_, rfl⟩
  rw [hH] at hlV2
  obtain ⟨A, hA⟩ : ∃ X, V2.heap.size = X := ⟨_, rfl⟩
  rw [hA] at hlV3
  obtain ⟨K, hK⟩ : ∃ X, V3.heap.size = X := ⟨_, rfl⟩
  rw [hK] at hlV4
  obtain ⟨Z, hZ⟩ : ∃ X, V4.heap.size = X := ⟨_, rfl⟩
  rw [hZ] at hlV5
  have KX := hid (keep_laid (keep_laid (keep_laid (keep_laid hlV1 hbV2) hbV3) hbV4) hbV5)
  have KH := hid (keep_laid (keep_laid (keep_laid hlV2 hbV3) hbV4) hbV5)
  have KA := hid (keep_laid (keep_laid hlV3 hbV4) hbV5)
  have KK := hid (keep_laid hlV4 hbV5)
  have KZ := hid hlV5
  have HB := hid (step (step (step (step hbV1 hbV2) hbV3) hbV4) hbV5)
  have hVX : V.heap.size ≤ X := by omega
  have hVH : V.heap.size ≤ H := by omega
  have nXH : X < H := by omega
  have hVA : V.heap.size ≤ A := by omega
  have nXA : X < A := by omega
  have nHA : H < A := by omega
  have hVK : V.heap.size ≤ K := by omega
  have nXK : X < K := by omega
  have nHK : H < K := by omega
  have nAK : A < K := by omega
  have hVZ : V.heap.size ≤ Z := by omega
  have nXZ : X < Z := by omega
  have nHZ : H < Z := by omega
  have nAZ : A < Z := by omega
  have nKZ : K < Z := by omega
  clear hbV1 hsV1 hlV1 hbV2 hsV2 hlV2 hbV3 hsV3 hlV3 hbV4 hsV4 hlV4 hbV5 hsV5 hlV5
  obtain ⟨XX, hXX⟩ : ∃ X, layT M root array many = X := ⟨_, rfl⟩
  rw [hXX]
  have HXX := hid hXX
  clear hXX
  have HM := hid (h.grow HB.out)
  have HG0 := hid hg
  have HM0 := hid h
  have HW := hid hW
  have HCK := hid (Check_any M wa la wc lc V5 HM.out)
  have hwl := h.w.len
  have hll := h.l.len
  have hV0 : 0 < V.heap.size := hg.one
  unfold memV at HCK ⊢
  have x0 := cell_laid (i := 0) KX.out rfl
  have x1 := cell_laid (i := 1) KX.out rfl
  have x2 := cell_laid (i := 2) KX.out rfl
  have hmf : ∀ (fn : Fn) (first cap : Array Value) (w : World), (Instr.makeFunc fn first cap).run Tryd.prog w = .ok (.func fn first cap) w := fun _ _ _ _ => rfl
  have hmm := @run_makeMap Tryd.prog
  clear h hg hW
  cases hok : okM M with
  | false =>
    rw [hok, if_neg (by decide)] at HCK
    have e : XX = (zeroM, 120) := by rw [← HXX.out]; unfold layT; rw [if_pos hok]
    subst e
    clear hok HXX
    go_enter Tryd.func28, Tryd.ntmps28
    go_wp2_with fail
    refine HCK.out.mono ?_
    rintro e w2 ⟨rfl, hb2⟩
    have KZ2 := hid (keep_laid KZ.out hb2)
    have HB2 := hid (step HB.out hb2)
    clear hb2 HCK hX hH hA hK hZ x0 x1 x2
    go_wp2_with (refine wp_storeP rfl 38 (.tmp 8) (.tmp 20) rfl Z 0 _ #[.slice none 0 0, .slice none 0 0, .bool false] _ rfl rfl _ KZ2.out (by kernel_rfl) (Nat.le_of_ble_eq_true rfl) (by kernel_rfl) rfl ?_; intro u1 a1 a2 a3 a4; have KZu := hid a1; have HBu := hid (a3 V.heap.size V (by omega) HB2.out); clear a1 a2 a3 a4)
    refine bodyPost_ret (tlay_result KZu.out rfl rfl) rfl ?_
    exact ⟨none, 0, none, 0, rfl, memO_zero _ _, HBu.out⟩
  | true =>
    rw [hok, if_pos rfl] at HCK
    obtain ⟨hn1, hn4, hmn, -⟩ := okM_spec hok
    have HMN := hid hmn
    have HOK := hid hok
    have HLAY : Hid (∀ d, depZ many = some d → layT M root array many = if array ≤ 4096 then (if ((tmeet M root 1 []).bind fun m => tmeet M array (2 ^ d) m).isNone = true then (zeroM, 2) else (layM M root array d, 0)) else (zeroM, 2)) := hid (fun d hd => by unfold layT; rw [if_neg (by rw [hok]; decide), hd])
    have HLN : Hid (depZ many = none → layT M root array many = (zeroM, 2)) := hid (fun hd => by unfold layT; rw [if_neg (by rw [hok]; decide), hd])
    clear hok hmn hn1 hn4
    go_enter Tryd.func28, Tryd.ntmps28
    go_wp2_with fail
    refine HCK.out.mono ?_
    rintro e w2 ⟨rfl, hb2⟩
    have KX2 := hid (keep_laid KX.out hb2)
    have KH2 := hid (keep_laid KH.out hb2)
    have KA2 := hid (keep_laid KA.out hb2)
    have KK2 := hid (keep_laid KK.out hb2)
    have KZ2 := hid (keep_laid KZ.out hb2)
    have HB2 := hid (step HB.out hb2)
    clear hb2 HCK hX hH hA hK hZ x0 x1 x2
    have yA : w2.cell? ⟨A, 0, none⟩ = some (.int .u64 ((array : Nat) : Int)) := cell_laid (i := 0) KA2.out rfl
    have yK : w2.cell? ⟨K, 0, none⟩ = some (.int .i64 many) := cell_laid (i := 0) KK2.out rfl
    go_wp2_with fail
    have HWD := hid (Word_any array many w2 (HG0.out.grow HB2.out) ha hmy)
    unfold wordV at HWD
    cases hd : depZ many with
    | none =>
      rw [hd] at HWD
      have e : XX = (zeroM, 2) := by rw [← HXX.out]; exact HLN.out hd
      subst e
      dsimp only at HWD
      clear hd HLAY HLN HXX
      refine HWD.out.mono ?_
      rintro e w3 ⟨rfl, hb3⟩
      have KZ3 := hid (keep_laid KZ2.out hb3)
      have HB3 := hid (step HB2.out hb3)
      clear hb3 HWD yA yK
      go_wp2_with (refine wp_storeP rfl 38 (.tmp 8) (.tmp 30) rfl Z 0 _ #[.slice none 0 0, .slice none 0 0, .bool false] _ rfl rfl _ KZ3.out (by kernel_rfl) (Nat.le_of_ble_eq_true rfl) (by kernel_rfl) rfl ?_; intro u1 a1 a2 a3 a4; have KZu := hid a1; have HBu := hid (a3 V.heap.size V (by omega) HB3.out); clear a1 a2 a3 a4)
      refine bodyPost_ret (tlay_result KZu.out rfl rfl) rfl ?_
      exact ⟨none, 0, none, 0, rfl, memO_zero _ _, HBu.out⟩
    | some d =>
      rw [hd] at HWD
      have e := HXX.out
      rw [HLAY.out d hd] at e
      obtain ⟨-, hd2, hd4, hmd⟩ := atZ_deps hd
      obtain ⟨hdep, hp4, hp16⟩ := pow_dep hd2 hd4
      obtain ⟨p, hp⟩ : ∃ p, 2 ^ d = p := ⟨_, rfl⟩
      dsimp only at HWD
      by_cases hal : array ≤ 4096
      case' neg =>
        rw [if_neg hal] at HWD e
        subst e
        clear hd HLAY HLN HXX hal
        refine HWD.out.mono ?_
        rintro e w3 ⟨rfl, hb3⟩
        have KZ3 := hid (keep_laid KZ2.out hb3)
        have HB3 := hid (step HB2.out hb3)
        clear hb3 HWD yA yK
        go_wp2_with (refine wp_storeP rfl 38 (.tmp 8) (.tmp 30) rfl Z 0 _ #[.slice none 0 0, .slice none 0 0, .bool false] _ rfl rfl _ KZ3.out (by kernel_rfl) (Nat.le_of_ble_eq_true rfl) (by kernel_rfl) rfl ?_; intro u1 a1 a2 a3 a4; have KZu := hid a1; have HBu := hid (a3 V.heap.size V (by omega) HB3.out); clear a1 a2 a3 a4)
        refine bodyPost_ret (tlay_result KZu.out rfl rfl) rfl ?_
        exact ⟨none, 0, none, 0, rfl, memO_zero _ _, HBu.out⟩
      rw [if_pos hal] at HWD e
      have HLM : Hid (layM M root array d = clearN p (stepM M true ((root : Nat) : Int) (wordW array d)).1 array) := hid (by unfold layM; rw [hp])
      rw [hp] at e hmd hdep hp4 hp16
      subst hmd
      obtain ⟨wd, hwd⟩ : ∃ x, wordW array d = x := ⟨_, rfl⟩
      have hwd64 : wd < 18446744073709551616 := by rw [← hwd]; unfold wordW; omega
      rw [hwd] at HLM HWD
      have HE := hid e
      clear hd HLAY HLN HXX e hwd hdep hp
      refine HWD.out.mono ?_
      rintro e w3 ⟨rfl, hb3⟩
      have KX3 := hid (keep_laid KX2.out hb3)
      have KH3 := hid (keep_laid KH2.out hb3)
      have KA3 := hid (keep_laid KA2.out hb3)
      have KK3 := hid (keep_laid KK2.out hb3)
      have KZ3 := hid (keep_laid KZ2.out hb3)
      have HB3 := hid (step HB2.out hb3)
      clear hb3 HWD yA yK
      obtain ⟨w4, hw4⟩ : ∃ x, w3.alloc (.map #[] 0) = x := ⟨_, rfl⟩
      have hb4 : Below w3.heap.size w3 w4 := by rw [← hw4]; exact (Below.refl _ _).alloc (Nat.le_refl _) _
      have hi4 : IdsI w4 w3.heap.size (ones []) := by rw [← hw4]; exact IdsI.made w3
      obtain ⟨mb, hmb⟩ : ∃ x, w3.heap.size = x := ⟨_, rfl⟩
      rw [hmb] at hi4
      have hs4 : w4.heap.size = w3.heap.size + 1 := by rw [← hw4]; simp
      obtain ⟨w5, hw5, hb5, hs5, hl5⟩ := laid w4 #[.map (some mb)] 86
      obtain ⟨T, hT⟩ : ∃ X, w4.heap.size = X := ⟨_, rfl⟩
      rw [hT] at hl5
      have hb35 := step hb4 hb5
      have KT5 := hid hl5
      have HI5 := hid (hi4.grow hb5)
      have hVm : V.heap.size ≤ mb := by have := HB3.out.size; omega
      have hmT : mb < T := by omega
      have hT5 : T < w5.heap.size := by omega
      have KX5 := hid (keep_laid KX3.out hb35)
      have KH5 := hid (keep_laid KH3.out hb35)
      have KA5 := hid (keep_laid KA3.out hb35)
      have KK5 := hid (keep_laid KK3.out hb35)
      have KZ5 := hid (keep_laid KZ3.out hb35)
      have HB5 := hid (step HB3.out hb35)
      clear hb4 hi4 hs4 hb5 hs5 hl5 hb35
      have HM5 := hid (HM0.out.grow HB5.out)
      have lX := lt_laid KX5.out
      have hmX : mb ≠ X := fun e => idsI_ne HI5.out KX5.out (congrArg some e)
      have hmH : mb ≠ H := fun e => idsI_ne HI5.out KH5.out (congrArg some e)
      have hmA : mb ≠ A := fun e => idsI_ne HI5.out KA5.out (congrArg some e)
      have hmK : mb ≠ K := fun e => idsI_ne HI5.out KK5.out (congrArg some e)
      have hmZ : mb ≠ Z := fun e => idsI_ne HI5.out KZ5.out (congrArg some e)
      have lH := lt_laid KH5.out
      have lA := lt_laid KA5.out
      have lK := lt_laid KK5.out
      have lZ := lt_laid KZ5.out
      go_wp2_with fail
      clear hmb hT
      refine (tries_any 53 #[.pointer (some ⟨T, 0, none⟩), .pointer (some ⟨X, 0, none⟩), .pointer (some ⟨H, 0, none⟩), .pointer (some ⟨A, 0, none⟩), .pointer (some ⟨K, 0, none⟩)] (LayA M root array p mb) (LayB M root array p mb) w5 (enters_of Tryd.func53 (by kernel_rfl) rfl)
        (fun W hb => (lay1_any T X H A K mb root array p M.W.length wa wc la lc M W rfl (by rw [HMN.out]) hr ha (by omega) hp16 (HM5.out.grow hb) (HI5.out.grow hb) (by have := keep_laid KX5.out hb; rw [HMN.out] at this; exact this) (keep_laid KH5.out hb) (keep_laid KA5.out hb) (keep_laid KK5.out hb) (keep_laid KT5.out hb)).mono (by
          rintro e W' (⟨h1, h2, h3⟩ | ⟨h1, h2, h3⟩)
          · exact .inl ⟨h1, h2, h3⟩
          · exact .inr ⟨h1, h2, h3⟩))
        (fun W W' Z' hb h1 h2 hAB => by
          have ht : W.grownBy W' (some mb) := hAB.elim (fun hA => hA.1) (fun hB => hB.1)
          exact ht.block Z' h2 (fun e => by have := Option.some.inj e; omega))).mono ?_
      rintro e W2 ⟨Z', W, W1, hbW, hz1, hz2, hgr, hAB⟩
      have hWg : W.grownBy W1 (some mb) := hAB.elim (fun hA => hA.2.1) (fun hB => hB.2.1)
      have HTg : Hid (Tch (fun k => k = mb ∨ k = Z') w5 W2) := hid (((Tch.of_below hbW).trans (tch_grown hWg)).trans ⟨hgr.os, hgr.tape, hgr.output, hgr.size, fun k hk hn => hgr.block k hk (fun e => hn (.inr (Option.some.inj e)))⟩)
      have HB6 : Hid (Below V.heap.size V W2) := hid (HB5.out.trans (HTg.out.below (by have := HB5.out.size; rintro k (e | e) <;> omega) HB5.out.size))
      have KX6 := hid (HTg.out.keep KX5.out (by rintro (e | e) <;> omega))
      have KH6 := hid (HTg.out.keep KH5.out (by rintro (e | e) <;> omega))
      have KA6 := hid (HTg.out.keep KA5.out (by rintro (e | e) <;> omega))
      have KK6 := hid (HTg.out.keep KK5.out (by rintro (e | e) <;> omega))
      have KZ6 := hid (HTg.out.keep KZ5.out (by rintro (e | e) <;> omega))
      clear hbW hgr hWg HTg hz1 hz2
      rcases hAB with ⟨rfl, -, hmt⟩ | ⟨rfl, -, hmt⟩
      case' inr =>
        have e := HE.out
        rw [if_pos (by rw [hmt]; rfl)] at e
        subst e
        clear hmt
        go_wp2_with (refine wp_storeP rfl 38 (.tmp 8) (.tmp 36) rfl Z 0 _ #[.slice none 0 0, .slice none 0 0, .bool false] _ rfl rfl _ KZ6.out (by kernel_rfl) (Nat.le_of_ble_eq_true rfl) (by kernel_rfl) rfl ?_; intro u1 a1 a2 a3 a4; have KZu := hid a1; have HBu := hid (a3 V.heap.size V (by omega) HB6.out); clear a1 a2 a3 a4)
        refine bodyPost_ret (tlay_result KZu.out rfl rfl) rfl ?_
        exact ⟨none, 0, none, 0, rfl, memO_zero _ _, HBu.out⟩
      have e := HE.out
      rw [if_neg (by intro e; cases hq : ((tmeet M root 1 []).bind fun m => tmeet M array p m) with | none => rw [hq] at hmt; cases hmt | some y => rw [hq] at e; cases e)] at e
      have hroot : root ≤ 4096 := by
        cases hq : tmeet M root 1 [] with
        | none => rw [hq] at hmt; cases hmt
        | some y => exact (tmeet_iff.1 hq).1
      obtain ⟨MF, hMF⟩ : ∃ x, layM M root array d = x := ⟨_, rfl⟩
      rw [hMF] at HLM e
      subst e
      clear hmt HE hMF
      have x0 := cell_laid (i := 0) KX6.out rfl
      have x1 := cell_laid (i := 1) KX6.out rfl
      have x2 := cell_laid (i := 2) KX6.out rfl
      go_wp2_with fail
      refine (town_any M wa la wc lc W2 (HM0.out.grow HB6.out) HOK.out).mono ?_
      rintro e w7 ⟨R, rfl, hR, hRT, hb7⟩
      have hRV : V.heap.size ≤ R := by have := HB6.out.size; omega
      have hRX : R ≠ X := by have := lt_laid KX6.out; omega
      have hRH : R ≠ H := by have := lt_laid KH6.out; omega
      have hRA : R ≠ A := by have := lt_laid KA6.out; omega
      have hRK : R ≠ K := by have := lt_laid KK6.out; omega
      have hRZ : R ≠ Z := by have := lt_laid KZ6.out; omega
      have HR7 := hid (hRT.base HB6.out.size)
      have KH7 := hid (keep_laid KH6.out hb7)
      have KA7 := hid (keep_laid KA6.out hb7)
      have KK7 := hid (keep_laid KK6.out hb7)
      have KZ7 := hid (keep_laid KZ6.out hb7)
      have HB7 := hid (step HB6.out hb7)
      clear hb7 hRT hR x0 x1 x2
      have yH : w7.cell? ⟨H, 0, none⟩ = some (.int .u64 ((root : Nat) : Int)) := cell_laid (i := 0) KH7.out rfl
      go_wp2_with fail
      have hst := stepM_ok HOK.out HW.out true root wd hwd64
      refine (tstore_any V.heap.size R root wd M 0 w7 HR7.out HB7.out.size HOK.out (by omega)).mono ?_
      rintro e w8 ⟨rfl, hrt, htl⟩
      have HR8 := hid hrt
      have KA8 := hid (htl.keep KA7.out (by omega))
      have KK8 := hid (htl.keep KK7.out (by omega))
      have KZ8 := hid (htl.keep KZ7.out (by omega))
      have HB8 : Hid (Below V.heap.size V w8) := hid (HB7.out.trans (htl.below (by intro k e; omega) HB7.out.size))
      have HST := hid hst
      clear hrt htl yH hst
      have yK : w8.cell? ⟨K, 0, none⟩ = some (.int .i64 ((p : Nat) : Int)) := cell_laid (i := 0) KK8.out rfl
      have hsc : IntKind.u64.wrap ((p : Nat) : Int) = ((p : Nat) : Int) := by rw [IntKind.wrap_u64]; omega
      go_wp2
      have HF : Hid (Lyd V w8 R A Z array p p 0 MF w8) := hid ⟨⟨_, HR8.out, HST.out.1, HST.out.2.1, HLM.out.symm⟩, Tch.refl _ _, by omega⟩
      clear HR8 HST HLM
      go_loopg [15, 45] p (fun g t15 i wr => ∃ k : Nat, i = .int .u64 ((k : Nat) : Int) ∧ Hid (Lyd V w8 R A Z array p g k MF wr))
      case atStart => exact ⟨0, rfl, HF⟩
      case round =>
        clear HF
        obtain ⟨k, rfl, hF⟩ := hrel
        have HKA := hid (hF.out.tch.keep KA8.out (by omega))
        have HKZ := hid (hF.out.tch.keep KZ8.out (by omega))
        have HBW : Hid (Below V.heap.size V wr) := hid (HB8.out.trans (hF.out.tch.below (by intro k e; omega) HB8.out.size))
        have yA : wr.cell? ⟨A, 0, none⟩ = some (.int .u64 ((array : Nat) : Int)) := cell_laid (i := 0) HKA.out rfl
        obtain ⟨M2, hr2, hok2, hw2, hcl⟩ := hF.out.run
        have hcnt := hF.out.cnt
        have HT8 := hid hF.out.tch
        by_cases hlt : k < p
        · have t1 : decide (((k : Nat) : Int) < ((p : Nat) : Int)) = true := decide_eq_true (by omega)
          have t1' : ((k : Nat) : Int) < ((p : Nat) : Int) := by omega
          obtain ⟨g1, hg1⟩ : ∃ g1, gk = g1 + 1 := ⟨gk - 1, by omega⟩
          obtain ⟨s, hs⟩ : ∃ x, array + k = x := ⟨_, rfl⟩
          have hsi : IntKind.u64.wrap (((array : Nat) : Int) + ((k : Nat) : Int)) = ((s : Nat) : Int) := by rw [IntKind.wrap_u64]; omega
          have hs5 : s ≤ 5000 := by omega
          rw [hg1, hs] at hcl
          unfold clearN at hcl
          have HCL : Hid (clearN g1 (stepM M2 true ((s : Nat) : Int) 0).1 (array + (k + 1)) = MF) := hid (by rw [show array + (k + 1) = s + 1 by omega]; exact hcl)
          have HG1 := hid hg1
          have HCN := hid hcnt
          have HST2 := hid (stepM_ok hok2 hw2 true s 0 (by decide))
          have HTS := hid (tstore_any V.heap.size R s 0 M2 0 wr hr2 HBW.out.size hok2 (by omega))
          clear hF hr2 hok2 hw2 hcl hcnt hg1 hs hlt
          go_wp2_with fail
          refine HTS.out.mono ?_
          rintro e w9 ⟨rfl, hrt, htl⟩
          have HF2 : Hid (Lyd V w8 R A Z array p g1 (k + 1) MF w9) := hid ⟨⟨_, hrt, HST2.out.1, HST2.out.2.1, HCL.out⟩, HT8.out.trans htl, by have := HCN.out; have := HG1.out; omega⟩
          clear hrt htl HTS yA
          go_wp2
          go_roundg g1
          case measure => have := HG1.out; omega
          case rel => exact ⟨k + 1, by go_num, HF2⟩
        · have t1 : decide (((k : Nat) : Int) < ((p : Nat) : Int)) = false := decide_eq_false (by omega)
          have t1' : ¬ ((k : Nat) : Int) < ((p : Nat) : Int) := by omega
          have hg0 : gk = 0 := by omega
          rw [hg0] at hcl
          have hcl : M2 = MF := hcl
          subst hcl
          obtain ⟨wa', wc', la', lc', kR, oR⟩ := hr2
          have KR := hid kR
          have HO := hid oR
          have hwl' := HO.out.memL.w.len
          have hll' := HO.out.memL.l.len
          have r0 := cell_laid (i := 0) KR.out rfl
          have r1 := cell_laid (i := 1) KR.out rfl
          have r2 := cell_laid (i := 2) KR.out rfl
          clear hF hok2 hw2 hcnt hg0 kR oR hlt yA
          go_wp2_with (refine wp_storeP rfl 38 (.tmp 8) (.tmp 57) rfl Z 0 _ #[.slice wa' M2.W.length wc', .slice la' M2.L.length lc', .bool M2.F] _ rfl rfl _ HKZ.out (by kernel_rfl) (Nat.le_of_ble_eq_true rfl) (by kernel_rfl) rfl ?_; intro u1 a1 a2 a3 a4; have KZu := hid a1; have HBu := hid (a3 V.heap.size V (by omega) HBW.out); have HOu : Hid (MemO V.heap.size wa' wc' la' lc' M2 u1) := hid ⟨own_keep HO.out.w fun j o hj ho => a2 j o (fun e => own_neP HO.out.w HKZ.out (by decide) (by rw [← e]; exact hj)) ho, own_keep HO.out.l fun j o hj ho => a2 j o (fun e => own_neP HO.out.l HKZ.out (by decide) (by rw [← e]; exact hj)) ho⟩; clear a1 a2 a3 a4)
          refine bodyPost_ret (tlay_result KZu.out rfl rfl) rfl ?_
          exact ⟨wa', wc', la', lc', rfl, HOu.out, HBu.out⟩
end Go.Proofs.YtahicokokfcieaaDoor
