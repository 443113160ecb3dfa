/- Lists (printed by gen_ls14.py): who sought. -/
import Derived.Test.YtdkkjcflcegeoaaLs13
import Derived.Test.YtdkkjcflcegeoaaLsPlain1
namespace Go.Proofs.Ytdkkjcflcegeoaa
open Go.RowKit
open Go.Proofs
set_option linter.unusedVariables false
attribute [local go_sem] Oper.semAt_some

theorem Tch.drop {R S : Nat} {V W : World} (h : Tch (fun k => k = R ∨ k = S) V W) (hS : V.heap.size ≤ S) : Tch (fun k => k = R) V W :=
  ⟨h.os, h.tape, h.output, h.size, fun k hk hn => h.block k hk (by rintro (e | e) <;> omega)⟩
theorem stepM_load_ok {M : Mem} {q : Nat} (hok : okM M = true) (hW : ∀ x ∈ M.W, x < 18446744073709551616) : okM (stepM M false ((q : Nat) : Int) 0).1 = true ∧ (∀ x ∈ (stepM M false ((q : Nat) : Int) 0).1.W, x < 18446744073709551616) ∧ (stepM M false ((q : Nat) : Int) 0).2.1 < 18446744073709551616 := by
  unfold stepM
  split
  · refine ⟨hok, hW, ?_⟩
    dsimp only
    rw [List.getD_eq_getElem?_getD]
    cases h : M.W[((q : Nat) : Int).toNat]? with
    | none => simp
    | some x => exact hW x (List.mem_of_getElem? h)
  · exact ⟨by unfold okM at hok ⊢; exact hok, hW, by show (0 : Nat) < _; decide⟩
theorem cmpS_ok {s : Sk} {n want : Nat} {ph : Int} (hs : s.Ok) (h0 : 0 ≤ ph) (h5 : ph ≤ 5) : (cmpS s n want ph).Ok ∧ 0 ≤ (cmpS s n want ph).ph ∧ (cmpS s n want ph).ph ≤ 5 := by
  unfold cmpS
  split
  · exact ⟨⟨by dsimp only; decide, hs.hash, hs.key, Nat.mod_lt _ (by decide), hs.node, hs.val⟩, by dsimp only; decide, by dsimp only; decide⟩
  · split
    · exact ⟨⟨by dsimp only; decide, hs.hash, hs.key, hs.link, hs.node, hs.val⟩, by dsimp only; decide, by dsimp only; decide⟩
    · exact ⟨⟨by dsimp only; omega, hs.hash, hs.key, hs.link, hs.node, hs.val⟩, h0, h5⟩
theorem seekE_ok {M : Mem} {s : Sk} (hok : okM M = true) (hW : ∀ x ∈ M.W, x < 18446744073709551616) (hs : s.Ok) (h0 : 0 ≤ s.ph) (h5 : s.ph ≤ 5) : okM (seekE M s).1 = true ∧ (∀ x ∈ (seekE M s).1.W, x < 18446744073709551616) ∧ (seekE M s).2.1.Ok ∧ 0 ≤ (seekE M s).2.1.ph ∧ (seekE M s).2.1.ph ≤ 5 := by
  by_cases h4 : 4 ≤ s.ph
  · have e : seekE M s = (M, s, false) := by unfold seekE; rw [if_pos h4]
    rw [e]
    exact ⟨hok, hW, hs, h0, h5⟩
  · obtain ⟨k1, k2, k3⟩ := stepM_load_ok (q := needS s s.ph.toNat) hok hW
    unfold seekE
    rw [if_neg h4]
    refine ⟨k1, k2, ?_⟩
    dsimp only
    split
    · rcases (show s.ph.toNat = 0 ∨ s.ph.toNat = 1 ∨ s.ph.toNat = 2 ∨ s.ph.toNat = 3 by omega) with e | e | e | e
      · rw [e]
        rw [e] at k3
        generalize (stepM M false ((needS s 0 : Nat) : Int) 0).2.1 = x at k3 ⊢
        have e0 : thenS s x 0 = ⟨if x = 0 then 4 else 1, s.hash, s.key, s.link, x, s.val, s.found⟩ := rfl
        rw [e0]
        by_cases hx : x = 0
        · rw [if_pos hx]; exact ⟨⟨by show -9223372036854775808 ≤ (4 : Int) ∧ (4 : Int) ≤ _; decide, hs.hash, hs.key, hs.link, k3, hs.val⟩, by show (0 : Int) ≤ 4; decide, by show (4 : Int) ≤ 5; decide⟩
        · rw [if_neg hx]; exact ⟨⟨by show -9223372036854775808 ≤ (1 : Int) ∧ (1 : Int) ≤ _; decide, hs.hash, hs.key, hs.link, k3, hs.val⟩, by show (0 : Int) ≤ 1; decide, by show (1 : Int) ≤ 5; decide⟩
      · rw [e]; exact cmpS_ok hs (by decide) (by decide)
      · rw [e]; exact cmpS_ok hs (by decide) (by decide)
      · rw [e]
        rw [e] at k3
        generalize (stepM M false ((needS s 3 : Nat) : Int) 0).2.1 = x at k3 ⊢
        have e0 : thenS s x 3 = ⟨4, s.hash, s.key, s.link, s.node, x, true⟩ := rfl
        rw [e0]
        exact ⟨⟨by show -9223372036854775808 ≤ (4 : Int) ∧ (4 : Int) ≤ _; decide, hs.hash, hs.key, hs.link, hs.node, k3⟩, by show (0 : Int) ≤ 4; decide, by show (4 : Int) ≤ 5; decide⟩
    · exact ⟨⟨by dsimp only; decide, hs.hash, hs.key, hs.link, hs.node, hs.val⟩, by dsimp only; decide, by dsimp only; decide⟩
/-- Who seeks, on its way. -/
structure Fnd (B R S Z : Nat) (V : World) (M : Mem) (s : Sk) (n g : Nat) (res : Mem × Sk × Nat) (W : World) : Prop where
  run : RunC B R M n W
  bs : W.heap[S]? = some (.cells (sk7 s) 40 (0, 0))
  bz : W.heap[Z]? = some (.cells #[.int .i64 0, .int .u64 0, .int .u64 0, .int .u64 0, .int .u64 0, .int .u64 0, .bool false] 40 (0, 0))
  tch : Tch (fun k => k = R ∨ k = S) V W
  ok : okM M = true
  wok : ∀ x ∈ M.W, x < 18446744073709551616
  sok : s.Ok
  p0 : 0 ≤ s.ph
  p5 : s.ph ≤ 5
  res : seekRun g M s n = res
  cnt : g + n = 4200
theorem found_result {W : World} {b8 : Nat} {v8_0 v8_1 v8_2 v8_3 v8_4 v8_5 v8_6 : Value} {tmps : Array Value} (h8 : W.heap[b8]? = some (.cells #[v8_0, v8_1, v8_2, v8_3, v8_4, v8_5, v8_6] 40 (0, 0))) (q8 : tmps[8]?.getD undef = .pointer (some ⟨b8, 0, none⟩)) :
    (results Try.f48 tmps).run Try.prog W = .ok (.agg #[v8_0, v8_1, v8_2, v8_3, v8_4, v8_5, v8_6]) W := by
  have e8_0 := cell_laid (i := 0) (v := v8_0) h8 rfl
  have e8_1 := cell_laid (i := 1) (v := v8_1) h8 rfl
  have e8_2 := cell_laid (i := 2) (v := v8_2) h8 rfl
  have e8_3 := cell_laid (i := 3) (v := v8_3) h8 rfl
  have e8_4 := cell_laid (i := 4) (v := v8_4) h8 rfl
  have e8_5 := cell_laid (i := 5) (v := v8_5) h8 rfl
  have e8_6 := cell_laid (i := 6) (v := v8_6) h8 rfl
  simp [results, Try.results48, go_sem, e8_0, e8_1, e8_2, e8_3, e8_4, e8_5, e8_6, q8]

set_option maxRecDepth 100000 in
set_option maxHeartbeats 4000000 in
theorem found_any (B R : Nat) (M M' : Mem) (s' : Sk) (k head hash key : Nat) (V : World) (h : RunC B R M 0 V) (hB : B ≤ V.heap.size) (hok : okM M = true) (hW : ∀ x ∈ M.W, x < 18446744073709551616) (hh : head < 18446744073709551616) (hha : hash < 18446744073709551616) (hke : key < 18446744073709551616)
    (hr : seekRun 4200 M (seekK head hash key) 0 = (M', s', k)) (h4 : 4 ≤ s'.ph) :
    Calls Try.prog 48 #[.pointer (some ⟨R, 0, none⟩), .int .u64 ((head : Nat) : Int), .int .u64 ((hash : Nat) : Int), .int .u64 ((key : Nat) : Int)] V (fun e W => e = .returned (skV s') ∧ RunC B R M' k W ∧ Tch (fun k => k = R) V W ∧ k ≤ 4200) := by
  obtain ⟨V1, hV1, hbV1, hsV1, hlV1⟩ := laid V #[.int .i64 0, .int .u64 0, .int .u64 0, .int .u64 0, .int .u64 0, .int .u64 0, .bool false] 40
  obtain ⟨Z, hZ⟩ : ∃ X, V.heap.size = X := ⟨_, rfl⟩
  rw [hZ] at hlV1
  have KZ := hid hlV1
  have HB := hid hbV1
  have hVZ : V.heap.size ≤ Z := by omega
  clear hbV1 hsV1 hlV1
  have hRV : R < V.heap.size := by obtain ⟨_, _, _, _, kk, _⟩ := h; exact lt_laid kk
  have HR := hid (h.grow HB.out)
  have HSK := hid (fun W => Seek_any head hash key W)
  unfold skV seekK at HSK
  dsimp only at HSK
  have HRR := hid hr
  have H4 := hid h4
  have HOK := hid hok
  have HWW := hid hW
  have HSO : Hid ((seekK head hash key).Ok) := hid ⟨by unfold seekK; dsimp only; decide, hha, hke, hh, by unfold seekK; dsimp only; decide, by unfold seekK; dsimp only; decide⟩
  clear h hok hW hr h4 hha hke
  go_enter Try.func48, Try.ntmps48
  go_wp2_with fail
  refine (HSK.out V1).mono ?_
  rintro e V2 ⟨rfl, hb2⟩
  obtain ⟨V3, hV3, hb3, hs3, hl3⟩ := laid V2 #[.int .i64 0, .int .u64 0, .int .u64 0, .int .u64 0, .int .u64 0, .int .u64 0, .bool false] 40
  obtain ⟨S, hS⟩ : ∃ X, V2.heap.size = X := ⟨_, rfl⟩
  rw [hS] at hl3
  obtain ⟨V4, hV4, a1, a2, a3, -, a5⟩ := putM7 hl3 (.int .i64 0) (.int .u64 ((hash : Nat) : Int)) (.int .u64 ((key : Nat) : Int)) (.int .u64 ((head : Nat) : Int)) (.int .u64 0) (.int .u64 0) (.bool false)
  obtain ⟨z0, zf0, z1, zf1, z2, zf2, z3, zf3, z4, zf4, z5, zf5, z6, zf6⟩ := fcl7 hl3
  have hVS : V.heap.size ≤ S := by have := HB.out.size; have := hb2.size; omega
  have hZS : Z < S := by have := lt_laid (keep_laid KZ.out hb2); omega
  have hS3 := lt_laid hl3
  have HF : Hid (Fnd B R S Z V M (seekK head hash key) 0 4200 (M', s', k) V4) := hid ⟨((HR.out.grow hb2).grow hb3).tch a5 hl3 (by decide) (by decide) (by decide), a1, a2 Z _ (by omega) (keep_laid (keep_laid KZ.out hb2) hb3),
    ((Tch.of_below ((HB.out.trans (hb2.mono HB.out.size)).trans (hb3.mono (HB.out.trans (hb2.mono HB.out.size)).size))).trans (a5.mono fun k h => .inr h)), HOK.out, HWW.out, HSO.out, by show (0 : Int) ≤ 0; decide, by show (0 : Int) ≤ 5; decide, HRR.out, rfl⟩
  have HV4 := hid hV4
  clear hV4 a1 a2 a3 a5 hb2 hb3 hs3 hl3 HR HRR HSO
  go_upto_region 2 with (fail)
  rw [← HV4.out]
  clear z0 z1 z2 z3 z4 z5 z6 zf0 zf1 zf2 zf3 zf4 zf5 zf6
  go_wp2
  go_loopg [15] 4200 (fun g t15 wr => ∃ (M2 : Mem) (s2 : Sk) (n : Nat), Hid (Fnd B R S Z V M2 s2 n g (M', s', k) wr))
  case atStart => exact ⟨M, _, 0, HF⟩
  case round =>
    clear HF
    obtain ⟨M2, s2, n, hF⟩ := hrel
    have HSE := hid (seek_any B R S M2 n s2 wr hF.out.run hF.out.bs (Nat.le_trans hB hF.out.tch.size) hF.out.ok hF.out.sok hF.out.p0 hF.out.p5 (by have := hF.out.cnt; omega))
    obtain ⟨⟨Mn, sn, bn⟩, hX⟩ : ∃ X, seekE M2 s2 = X := ⟨_, rfl⟩
    rw [hX] at HSE
    have HX := hid hX
    clear hX
    go_wp2_with fail
    refine HSE.out.mono ?_
    rintro e w2 ⟨rfl, hr2, hs2, ht2⟩
    have HR2 := hid hr2
    have HS2 := hid hs2
    have HT2 := hid ht2
    have HZ2 := hid (ht2.keep hF.out.bz (by rintro (e | e) <;> omega))
    clear hr2 hs2 ht2 HSE
    by_cases hp : 4 ≤ s2.ph
    · have e1 : seekE M2 s2 = (M2, s2, false) := by unfold seekE; rw [if_pos hp]
      rw [HX.out] at e1
      simp only [Prod.mk.injEq] at e1
      obtain ⟨rfl, rfl, rfl⟩ := e1
      have e2 := (seekRun_end hp).symm.trans hF.out.res
      simp only [Prod.mk.injEq] at e2
      obtain ⟨rfl, rfl, rfl⟩ := e2
      have HFIN : Hid (RunC B R Mn n w2 ∧ Tch (fun k => k = R ∨ k = S) V w2 ∧ n ≤ 4200) := hid ⟨HR2.out, hF.out.tch.trans HT2.out, by have := hF.out.cnt; omega⟩
      obtain ⟨ph, hash, key, link, node, val, found⟩ := sn
      have HSB := HS2
      dsimp only at HSB
      obtain ⟨u, hu, a1, a2, a3, -, a5⟩ := putM7 HZ2.out (.int .i64 ph) (.int .u64 ((hash : Nat) : Int)) (.int .u64 ((key : Nat) : Int)) (.int .u64 ((link : Nat) : Int)) (.int .u64 ((node : Nat) : Int)) (.int .u64 ((val : Nat) : Int)) (.bool found)
      have HU := hid hu
      have HA1 := hid a1
      have HRU : Hid (RunC B R Mn n u) := hid (HFIN.out.1.tch a5 HZ2.out (by decide) (by decide) (by decide))
      have HTU : Hid (Tch (fun k => k = R) V u) := hid ⟨a5.os.trans HFIN.out.2.1.os, a5.tape.trans HFIN.out.2.1.tape, a5.output.trans HFIN.out.2.1.output, Nat.le_trans HFIN.out.2.1.size a5.size, fun j hj hn => (a5.block j (Nat.lt_of_lt_of_le hj HFIN.out.2.1.size) (by omega)).trans (HFIN.out.2.1.block j hj (by rintro (e | e) <;> omega))⟩
      obtain ⟨s0, s1, s2, s3, s4, s5, s6⟩ := ncl7 HS2.out
      obtain ⟨z0, zf0, z1, zf1, z2, zf2, z3, zf3, z4, zf4, z5, zf5, z6, zf6⟩ := fcl7 HZ2.out
      clear hu a1 a2 a3 a5 hp hF HSB
      go_wp2
      rw [← HU.out]
      refine bodyPost_ret (found_result HA1.out rfl) rfl ?_
      exact ⟨rfl, HRU.out, HTU.out, HFIN.out.2.2⟩
    · obtain ⟨k1, k2, k3, k4, k5⟩ := seekE_ok hF.out.ok hF.out.wok hF.out.sok hF.out.p0 hF.out.p5
      have hb : bn = true := by
        have e : (seekE M2 s2).2.2 = true := by unfold seekE; rw [if_neg hp]
        rw [HX.out] at e; exact e
      subst hb
      obtain ⟨g1, hg1⟩ : ∃ g1, gk = g1 + 1 := by
        cases gk with
        | zero =>
          have := hF.out.res
          unfold seekRun at this
          simp only [Prod.mk.injEq] at this
          obtain ⟨-, e, -⟩ := this
          rw [e] at hp
          exact absurd H4.out hp
        | succ g => exact ⟨g, rfl⟩
      rw [HX.out] at k1 k2 k3 k4 k5
      have HF2 : Hid (Fnd B R S Z V Mn sn (n + 1) (gk - 1) (M', s', k) w2) := hid ⟨HR2.out, HS2.out, HZ2.out, hF.out.tch.trans HT2.out, k1, k2, k3, k4, k5, by
        have := hF.out.res
        rw [hg1, seekRun_step hp HX.out] at this
        rw [hg1]; exact this, by have := hF.out.cnt; omega⟩
      have HG := hid hg1
      clear hp hF hg1 k1 k2 k3 k4 k5
      go_wp2
      go_roundg (gk - 1)
      case measure => have := HG.out; omega
      case rel => exact ⟨Mn, sn, n + 1, HF2⟩
theorem Find_result {W : World} {b8 : Nat} {v8_0 v8_1 v8_2 v8_3 v8_4 v8_5 v8_6 u9 u10 : Value} {tmps : Array Value} (h8 : W.heap[b8]? = some (.cells #[v8_0, v8_1, v8_2, v8_3, v8_4, v8_5, v8_6] 40 (0, 0))) (q8 : tmps[8]?.getD undef = .pointer (some ⟨b8, 0, none⟩)) (q9 : tmps[9]?.getD undef = u9) (q10 : tmps[10]?.getD undef = u10) :
    (results Try.f14 tmps).run Try.prog W = .ok (.tuple #[.agg #[v8_0, v8_1, v8_2, v8_3, v8_4, v8_5, v8_6], u9, u10]) W := by
  have e8_0 := cell_laid (i := 0) (v := v8_0) h8 rfl
  have e8_1 := cell_laid (i := 1) (v := v8_1) h8 rfl
  have e8_2 := cell_laid (i := 2) (v := v8_2) h8 rfl
  have e8_3 := cell_laid (i := 3) (v := v8_3) h8 rfl
  have e8_4 := cell_laid (i := 4) (v := v8_4) h8 rfl
  have e8_5 := cell_laid (i := 5) (v := v8_5) h8 rfl
  have e8_6 := cell_laid (i := 6) (v := v8_6) h8 rfl
  simp [results, Try.results14, go_sem, e8_0, e8_1, e8_2, e8_3, e8_4, e8_5, e8_6, q8, q9, q10]

/-- What Find gives. -/
def findP (M : Mem) (head hash key : Nat) : Sk × Nat × Nat := if (nodesP M head).2 ≠ 0 then (zeroSk, 0, (nodesP M head).2) else ((findS hash key head (nodesP M head).1).1, (findS hash key head (nodesP M head).1).2, 0)
theorem nodesP_ok {M : Mem} {head : Nat} (h : (nodesP M head).2 = 0) : okM M = true ∧ nodesR M head = some (nodesP M head).1 := by
  unfold nodesP at h ⊢
  cases hok : okM M with
  | false => rw [hok, if_pos rfl] at h; cases h
  | true =>
    rw [hok, if_neg (by decide)] at h
    rw [if_neg (by decide)]
    cases hn : nodesR M head with
    | none => rw [hn] at h; cases h
    | some xs => exact ⟨rfl, rfl⟩
/-- Worlds in which two variables lie so. -/
structure RFd (R S : Nat) (cs cs' : Array Value) where
  w : World
  br : w.heap[R]? = some (.cells cs 98 (0, 0))
  bs : w.heap[S]? = some (.cells cs' 40 (0, 0))
set_option maxRecDepth 100000 in
set_option maxHeartbeats 4000000 in
theorem Find_any (M : Mem) (wa la : Option Addr) (wc lc head hash key : Nat) (V : World) (h : MemL V wa wc la lc M) (hW : ∀ x ∈ M.W, x < 18446744073709551616) (hh : head < 18446744073709551616) (hha : hash < 18446744073709551616) (hke : key < 18446744073709551616) :
    Calls Try.prog 14 #[memV wa wc la lc M, .int .u64 ((head : Nat) : Int), .int .u64 ((hash : Nat) : Int), .int .u64 ((key : Nat) : Int)] V (Ret (.tuple #[skV (findP M head hash key).1, .int .i64 (((findP M head hash key).2.1 : Nat) : Int), .int .i64 (((findP M head hash key).2.2 : Nat) : Int)]) V) := by
  obtain ⟨V1, hV1, hbV1, hsV1, hlV1⟩ := laid V #[.slice wa M.W.length wc, .slice la M.L.length lc, .bool M.F] 25
  obtain ⟨V2, hV2, hbV2, hsV2, hlV2⟩ := laid V1 #[.int .i64 0, .int .u64 0, .int .u64 0, .int .u64 0, .int .u64 0, .int .u64 0, .bool false] 40
  obtain ⟨X, hX⟩ : ∃ X, V.heap.size = X := ⟨_, rfl⟩
  rw [hX] at hlV1
  obtain ⟨Z, hZ⟩ : ∃ X, V1.heap.size = X := ⟨_, rfl⟩
  rw [hZ] at hlV2
  have KX := hid (keep_laid hlV1 hbV2)
  have KZ := hid hlV2
  have HB := hid (step hbV1 hbV2)
  have hVX : V.heap.size ≤ X := by omega
  have hVZ : V.heap.size ≤ Z := by omega
  have nXZ : X < Z := by omega
  clear hbV1 hsV1 hlV1 hbV2 hsV2 hlV2
  have HM := hid (h.grow HB.out)
  have HNO := hid (Nodes_any M wa la wc lc head V2 HM.out hh hW)
  have hwl := h.w.len
  have hll := h.l.len
  have HOW := hid (fun (ok : okM M = true) (W : World) (hb : Below V2.heap.size V2 W) => lsown_any M wa la wc lc W (HM.out.grow hb) ok)
  unfold memV at HNO HOW ⊢
  obtain ⟨⟨xs, code⟩, hN⟩ : ∃ r, nodesP M head = r := ⟨_, rfl⟩
  rw [hN] at HNO
  have HN := hid hN
  have HWW := hid hW
  have HBN := hid (show head < 18446744073709551616 ∧ hash < 18446744073709551616 ∧ key < 18446744073709551616 from ⟨hh, hha, hke⟩)
  obtain ⟨⟨so, sn, sc⟩, hR⟩ : ∃ r, findP M head hash key = r := ⟨_, rfl⟩
  rw [hR]
  have HR := hid hR
  obtain ⟨x0, x1, x2⟩ := cells3 KX.out
  clear h hW hN hR hha hke
  go_enter Try.func14, Try.ntmps14
  go_wp2_with fail
  refine HNO.out.mono ?_
  rintro e V3 ⟨v, rfl, hrow, hb3⟩
  obtain ⟨va, vc, rfl, hlv⟩ := Leads.of_own hrow
  have hvl := hlv.len
  have KX3 := hid (keep_laid KX.out hb3)
  have KZ3 := hid (keep_laid KZ.out hb3)
  have HB3 := hid (step HB.out hb3)
  have HB23 := hid hb3
  dsimp only
  clear hb3 hrow hlv x0 x1 x2
  by_cases hc : code = 0
  · subst hc
    obtain ⟨hok, hns⟩ := nodesP_ok (M := M) (head := head) (by rw [HN.out])
    rw [HN.out] at hns
    obtain ⟨hr1, -⟩ := find_run hok hns hash key
    have HRES : Hid (findS hash key head xs = (so, sn) ∧ sc = 0) := hid (by
      have := HR.out
      unfold findP at this
      rw [HN.out] at this
      simp only [ne_eq, not_true_eq_false, if_false, Prod.mk.injEq] at this
      exact ⟨by rw [← this.1, ← this.2.1], this.2.2.symm⟩)
    obtain ⟨-, rfl⟩ := HRES.out
    rw [HRES.out.1] at hr1
    have hp4 : 4 ≤ so.ph := by have := findS_ph hash key head xs; rw [HRES.out.1] at this; rw [this]; decide
    have HOK := hid hok
    have HRU := hid hr1
    have HP4 := hid hp4
    obtain ⟨x0, x1, x2⟩ := cells3 KX3.out
    clear hok hns hr1 hp4
    go_wp2_with fail
    refine (HOW.out HOK.out V3 HB23.out).mono ?_
    rintro e V4 ⟨R, rfl, hRV, hrc, hb4⟩
    have KZ4 := hid (keep_laid KZ3.out hb4)
    have HB4 := hid (step HB3.out hb4)
    have hV34 := hb4.size
    have hZ3 := lt_laid KZ3.out
    have hV3 := HB3.out.size
    have HFO := hid (found_any V3.heap.size R M M so sn head hash key V4 hrc hV34 HOK.out HWW.out HBN.out.1 HBN.out.2.1 HBN.out.2.2 HRU.out HP4.out)
    unfold skV at HFO
    clear hb4 hrc x0 x1 x2
    go_wp2_with fail
    refine HFO.out.mono ?_
    rintro e V5 ⟨rfl, hrc, ht, hn4⟩
    obtain ⟨wa', wc', la', lc', kR, -⟩ := hrc
    have KZ5 := hid (ht.keep KZ4.out (by omega))
    have HB5 := hid (HB4.out.trans (ht.below (B := V.heap.size) (by rintro k rfl; omega) HB4.out.size))
    have KR5 := hid kR
    clear kR ht
    obtain ⟨ph, hash_1, key_1, link, node, val, found⟩ := so
    dsimp only
    obtain ⟨V6, hV6, hb6, hs6, hl6⟩ := laid V5 #[.int .i64 0, .int .u64 0, .int .u64 0, .int .u64 0, .int .u64 0, .int .u64 0, .bool false] 40
    obtain ⟨S, hS⟩ : ∃ X, V5.heap.size = X := ⟨_, rfl⟩
    rw [hS] at hl6
    obtain ⟨V7, hV7, a1, a2, a3, -, a5⟩ := putM7 hl6 (.int .i64 ph) (.int .u64 ((hash_1 : Nat) : Int)) (.int .u64 ((key_1 : Nat) : Int)) (.int .u64 ((link : Nat) : Int)) (.int .u64 ((node : Nat) : Int)) (.int .u64 ((val : Nat) : Int)) (.bool found)
    obtain ⟨z0, zf0, z1, zf1, z2, zf2, z3, zf3, z4, zf4, z5, zf5, z6, zf6⟩ := fcl7 hl6
    have hZS : Z < S := by have := lt_laid KZ5.out; omega
    have hRS : R < S := by have := lt_laid KR5.out; omega
    have hVS : V.heap.size ≤ S := by omega
    have KS7 := hid a1
    have KZ7 := hid (a2 Z _ (by omega) (keep_laid KZ5.out hb6))
    have KR7 := hid (a2 R _ (by omega) (keep_laid KR5.out hb6))
    have HB7 := hid (a3 V.heap.size V hVS (step HB5.out hb6))
    have HV7 := hid hV7
    clear hV7 a1 a2 a3 a5 hb6 hs6 hl6
    go_upto_region 6 with (fail)
    rw [← HV7.out]
    clear z0 z1 z2 z3 z4 z5 z6 zf0 zf1 zf2 zf3 zf4 zf5 zf6
    obtain ⟨D, hD⟩ : ∃ DX, V7.drew = DX := ⟨_, rfl⟩
    have hbD : Below V7.heap.size V7 D := by rw [← hD]; exact (Below.refl _ _).drew
    have HD := hid hD
    have KSD := hid (keep_laid KS7.out hbD)
    have KZD := hid (keep_laid KZ7.out hbD)
    have KRD := hid (keep_laid KR7.out hbD)
    have HBD := hid (step HB7.out hbD)
    clear hD hbD
    obtain ⟨u, hu, a1, a2, a3, -, a5⟩ := putM7 KZD.out (.int .i64 ph) (.int .u64 ((hash_1 : Nat) : Int)) (.int .u64 ((key_1 : Nat) : Int)) (.int .u64 ((link : Nat) : Int)) (.int .u64 ((node : Nat) : Int)) (.int .u64 ((val : Nat) : Int)) (.bool found)
    have HU := hid hu
    have KZU := hid a1
    have KSU := hid (a2 S _ (by omega) KSD.out)
    have KRU := hid (a2 R _ (by omega) KRD.out)
    have HBU := hid (a3 V.heap.size V (by omega) HBD.out)
    clear hu a1 a2 a3 a5
    haveI : Nonempty (RFd R S #[.slice wa' M.W.length wc', .slice la' M.L.length lc', .bool M.F, .int .i64 ((sn : Nat) : Int)] #[.int .i64 ph, .int .u64 ((hash_1 : Nat) : Int), .int .u64 ((key_1 : Nat) : Int), .int .u64 ((link : Nat) : Int), .int .u64 ((node : Nat) : Int), .int .u64 ((val : Nat) : Int), .bool found]) := ⟨⟨D, KRD.out, KSD.out⟩⟩
    have r3 : ∀ z : RFd R S #[.slice wa' M.W.length wc', .slice la' M.L.length lc', .bool M.F, .int .i64 ((sn : Nat) : Int)] #[.int .i64 ph, .int .u64 ((hash_1 : Nat) : Int), .int .u64 ((key_1 : Nat) : Int), .int .u64 ((link : Nat) : Int), .int .u64 ((node : Nat) : Int), .int .u64 ((val : Nat) : Int), .bool found], z.w.cell? ⟨R, 3, none⟩ = some (.int .i64 ((sn : Nat) : Int)) := fun z => cell_laid z.br rfl
    have s0 : ∀ z : RFd R S #[.slice wa' M.W.length wc', .slice la' M.L.length lc', .bool M.F, .int .i64 ((sn : Nat) : Int)] #[.int .i64 ph, .int .u64 ((hash_1 : Nat) : Int), .int .u64 ((key_1 : Nat) : Int), .int .u64 ((link : Nat) : Int), .int .u64 ((node : Nat) : Int), .int .u64 ((val : Nat) : Int), .bool found], z.w.cell? ⟨S, 0, none⟩ = some (.int .i64 ph) := fun z => cell_laid z.bs rfl
    have s1 : ∀ z : RFd R S #[.slice wa' M.W.length wc', .slice la' M.L.length lc', .bool M.F, .int .i64 ((sn : Nat) : Int)] #[.int .i64 ph, .int .u64 ((hash_1 : Nat) : Int), .int .u64 ((key_1 : Nat) : Int), .int .u64 ((link : Nat) : Int), .int .u64 ((node : Nat) : Int), .int .u64 ((val : Nat) : Int), .bool found], z.w.cell? ⟨S, 1, none⟩ = some (.int .u64 ((hash_1 : Nat) : Int)) := fun z => cell_laid z.bs rfl
    have s2 : ∀ z : RFd R S #[.slice wa' M.W.length wc', .slice la' M.L.length lc', .bool M.F, .int .i64 ((sn : Nat) : Int)] #[.int .i64 ph, .int .u64 ((hash_1 : Nat) : Int), .int .u64 ((key_1 : Nat) : Int), .int .u64 ((link : Nat) : Int), .int .u64 ((node : Nat) : Int), .int .u64 ((val : Nat) : Int), .bool found], z.w.cell? ⟨S, 2, none⟩ = some (.int .u64 ((key_1 : Nat) : Int)) := fun z => cell_laid z.bs rfl
    have s3 : ∀ z : RFd R S #[.slice wa' M.W.length wc', .slice la' M.L.length lc', .bool M.F, .int .i64 ((sn : Nat) : Int)] #[.int .i64 ph, .int .u64 ((hash_1 : Nat) : Int), .int .u64 ((key_1 : Nat) : Int), .int .u64 ((link : Nat) : Int), .int .u64 ((node : Nat) : Int), .int .u64 ((val : Nat) : Int), .bool found], z.w.cell? ⟨S, 3, none⟩ = some (.int .u64 ((link : Nat) : Int)) := fun z => cell_laid z.bs rfl
    have s4 : ∀ z : RFd R S #[.slice wa' M.W.length wc', .slice la' M.L.length lc', .bool M.F, .int .i64 ((sn : Nat) : Int)] #[.int .i64 ph, .int .u64 ((hash_1 : Nat) : Int), .int .u64 ((key_1 : Nat) : Int), .int .u64 ((link : Nat) : Int), .int .u64 ((node : Nat) : Int), .int .u64 ((val : Nat) : Int), .bool found], z.w.cell? ⟨S, 4, none⟩ = some (.int .u64 ((node : Nat) : Int)) := fun z => cell_laid z.bs rfl
    have s5 : ∀ z : RFd R S #[.slice wa' M.W.length wc', .slice la' M.L.length lc', .bool M.F, .int .i64 ((sn : Nat) : Int)] #[.int .i64 ph, .int .u64 ((hash_1 : Nat) : Int), .int .u64 ((key_1 : Nat) : Int), .int .u64 ((link : Nat) : Int), .int .u64 ((node : Nat) : Int), .int .u64 ((val : Nat) : Int), .bool found], z.w.cell? ⟨S, 5, none⟩ = some (.int .u64 ((val : Nat) : Int)) := fun z => cell_laid z.bs rfl
    have s6 : ∀ z : RFd R S #[.slice wa' M.W.length wc', .slice la' M.L.length lc', .bool M.F, .int .i64 ((sn : Nat) : Int)] #[.int .i64 ph, .int .u64 ((hash_1 : Nat) : Int), .int .u64 ((key_1 : Nat) : Int), .int .u64 ((link : Nat) : Int), .int .u64 ((node : Nat) : Int), .int .u64 ((val : Nat) : Int), .bool found], z.w.cell? ⟨S, 6, none⟩ = some (.bool found) := fun z => cell_laid z.bs rfl
    refine wp_region_mix2 (fun W => ∃ z : RFd R S #[.slice wa' M.W.length wc', .slice la' M.L.length lc', .bool M.F, .int .i64 ((sn : Nat) : Int)] #[.int .i64 ph, .int .u64 ((hash_1 : Nat) : Int), .int .u64 ((key_1 : Nat) : Int), .int .u64 ((link : Nat) : Int), .int .u64 ((node : Nat) : Int), .int .u64 ((val : Nat) : Int), .bool found], W = z.w) 8 (.q 0 (.q 1 (.q 2 (.q 3 (.q 4 (.h 5 (.q 6 (.q 7 .done)))))))) (by kernel_rfl) (by kernel_rfl) (by rw [HD.out]; exact ⟨⟨D, KRD.out, KSD.out⟩, rfl⟩) ?_
    rw [HD.out]
    repeat (refine wpMix2_q rfl rfl ?_; go_big_quiet_step (fail); refine wpQuiet_nil ?_)
    obtain ⟨z0, zf0, z1, zf1, z2, zf2, z3, zf3, z4, zf4, z5, zf5, z6, zf6⟩ := fcl7 KZD.out
    refine wpMix2_h rfl fun R' hR' hO => ?_
    go_wp2
    rw [← HU.out]
    refine hR' _ _ ⟨⟨u, KRU.out, KSU.out⟩, rfl⟩ ?_
    clear hR' hO R' z0 z1 z2 z3 z4 z5 z6 zf0 zf1 zf2 zf3 zf4 zf5 zf6
    repeat (refine wpMix2_q rfl rfl ?_; go_big_quiet_step (fail); refine wpQuiet_nil ?_)
    refine wpMix2_done ?_
    simp only [List.drop_succ_cons, List.drop_nil]
    go_wp2
    refine bodyPost_ret (Find_result KZU.out rfl rfl rfl) rfl ?_
    exact ⟨rfl, HBU.out⟩
  · have hcne : ((((code : Nat) : Int)) != 0) = true := by simp; omega
    have HRES : Hid (so = zeroSk ∧ sn = 0 ∧ sc = code) := hid (by
      have := HR.out
      unfold findP at this
      rw [HN.out] at this
      rw [if_pos hc] at this
      simp only [Prod.mk.injEq] at this
      exact ⟨this.1.symm, this.2.1.symm, this.2.2.symm⟩)
    obtain ⟨rfl, rfl, rfl⟩ := HRES.out
    obtain ⟨u, hu, a1, a2, a3, -, a5⟩ := putM7 KZ3.out (.int .i64 0) (.int .u64 0) (.int .u64 0) (.int .u64 0) (.int .u64 0) (.int .u64 0) (.bool false)
    have HU := hid hu
    have KZU := hid a1
    have HBU := hid (a3 V.heap.size V hVZ HB3.out)
    obtain ⟨z0, zf0, z1, zf1, z2, zf2, z3, zf3, z4, zf4, z5, zf5, z6, zf6⟩ := fcl7 KZ3.out
    clear hc hu a1 a2 a3 a5
    go_wp2
    rw [← HU.out]
    refine bodyPost_ret (Find_result KZU.out rfl rfl rfl) rfl ?_
    exact ⟨rfl, HBU.out⟩
end Go.Proofs.Ytdkkjcflcegeoaa
