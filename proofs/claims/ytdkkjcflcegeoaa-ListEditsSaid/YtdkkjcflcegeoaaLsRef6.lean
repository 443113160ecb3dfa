/- The document's lists (printed by gen_lsref5.py): Find. -/
import Derived.Test.YtdkkjcflcegeoaaLsRef3
import Derived.Test.YtdkkjcflcegeoaaLsEq
namespace Go.Proofs.Ytdkkjcflcegeoaa
open Go.RowKit
open Go.Proofs
set_option linter.unusedVariables false
attribute [local go_sem] Oper.semAt_some
theorem rFind_result {W : World} {b8 : Nat} {v8_0 v8_1 v8_2 v8_3 v8_4 v8_5 v8_6 u9 : Value} {tmps : Array Value} (h8 : W.heap[b8]? = some (.cells #[v8_0, v8_1, v8_2, v8_3, v8_4, v8_5, v8_6] 40 (0, 0))) (q8 : tmps[8]?.getD undef = .pointer (some ⟨b8, 0, none⟩)) (q9 : tmps[9]?.getD undef = u9) :
    (results Try.f15 tmps).run Try.prog W = .ok (.tuple #[.agg #[v8_0, v8_1, v8_2, v8_3, v8_4, v8_5, v8_6], u9]) W := by
  have e8_0 := cell_laid (i := 0) (v := v8_0) h8 rfl
  have e8_1 := cell_laid (i := 1) (v := v8_1) h8 rfl
  have e8_2 := cell_laid (i := 2) (v := v8_2) h8 rfl
  have e8_3 := cell_laid (i := 3) (v := v8_3) h8 rfl
  have e8_4 := cell_laid (i := 4) (v := v8_4) h8 rfl
  have e8_5 := cell_laid (i := 5) (v := v8_5) h8 rfl
  have e8_6 := cell_laid (i := 6) (v := v8_6) h8 rfl
  simp [results, Try.results15, go_sem, e8_0, e8_1, e8_2, e8_3, e8_4, e8_5, e8_6, q8, q9]
/-- Who seeks, in the document. -/
structure Rfd (V : World) (X S Z : Nat) (wa : Option Addr) (wc : Nat) (la : Option Addr) (lc : Nat) (M : Mem) (s : Sk) (n g : Nat) (res : Sk × Nat) (W : World) : Prop where
  bx : W.heap[X]? = some (.cells #[.slice wa M.W.length wc, .slice la M.L.length lc, .bool M.F] 25 (0, 0))
  bs : W.heap[S]? = some (.cells (sk7 s) 40 (0, 0))
  bz : W.heap[Z]? = some (.cells #[.int .i64 0, .int .u64 0, .int .u64 0, .int .u64 0, .int .u64 0, .int .u64 0, .bool false] 40 (0, 0))
  mem : MemL W wa wc la lc M
  below : Below V.heap.size V W
  sok : s.Ok
  p0 : 0 ≤ s.ph
  p5 : s.ph ≤ 5
  res : seekFix g M s n = res
  cnt : g + n = 4200
set_option maxRecDepth 100000 in
set_option maxHeartbeats 8000000 in
theorem rFind_any (M : Mem) (wa la : Option Addr) (wc lc head hash key : Nat) (s' : Sk) (k : Nat) (V : World) (h : MemL V wa wc la lc M) (hok : okM M = true) (hW : ∀ x ∈ M.W, x < 18446744073709551616) (hh : head < 18446744073709551616) (hha : hash < 18446744073709551616) (hke : key < 18446744073709551616)
    (hr : seekFix 4200 M (seekK head hash key) 0 = (s', k)) (h4 : 4 ≤ s'.ph) :
    Calls Try.prog 15 #[memV wa wc la lc M, .int .u64 ((head : Nat) : Int), .int .u64 ((hash : Nat) : Int), .int .u64 ((key : Nat) : Int)] V (Ret (.tuple #[skV s', .int .i64 ((k : Nat) : Int)]) V) := by
  obtain ⟨V1, hV1, hbV1, hsV1, hlV1⟩ := laid V #[.slice wa M.W.length wc, .slice la M.L.length lc, .bool M.F] 25
  obtain ⟨V2, hV2, hbV2, hsV2, hlV2⟩ := laid V1 #[.int .i64 0, .int .u64 0, .int .u64 0, .int .u64 0, .int .u64 0, .int .u64 0, .bool false] 40
  obtain ⟨X, hX⟩ : ∃ X, V.heap.size = X := ⟨_, rfl⟩
  rw [hX] at hlV1
  obtain ⟨Z, hZ⟩ : ∃ X, V1.heap.size = X := ⟨_, rfl⟩
  rw [hZ] at hlV2
  have KX := hid (keep_laid hlV1 hbV2)
  have KZ := hid hlV2
  have HB := hid (step hbV1 hbV2)
  have hVX : V.heap.size ≤ X := by omega
  have hVZ : V.heap.size ≤ Z := by omega
  have nXZ : X < Z := by omega
  clear hbV1 hsV1 hlV1 hbV2 hsV2 hlV2
  have HM := hid (h.grow HB.out)
  have HOK := hid hok
  have hlo := h.lowA hok
  have HWW := hid hW
  have H4 := hid h4
  have hwl := h.w.len
  have hll := h.l.len
  obtain ⟨V3, hV3, hb3, hs3, hl3⟩ := laid V2 #[.int .i64 0, .int .u64 0, .int .u64 0, .int .u64 0, .int .u64 0, .int .u64 0, .bool false] 40
  obtain ⟨S, hS⟩ : ∃ X, V2.heap.size = X := ⟨_, rfl⟩
  rw [hS] at hl3
  obtain ⟨V4, hV4, a1, a2, a3, -, -⟩ := putM7 hl3 (.int .i64 0) (.int .u64 ((hash : Nat) : Int)) (.int .u64 ((key : Nat) : Int)) (.int .u64 ((head : Nat) : Int)) (.int .u64 0) (.int .u64 0) (.bool false)
  have hZS : Z < S := by have := lt_laid KZ.out; omega
  have hXS : X < S := by omega
  have HAP : Hid (apartA wa S ∧ apartA la S) := hid ⟨hlo.1.apart (by omega), hlo.2.apart (by omega)⟩
  have HF : Hid (Rfd V X S Z wa wc la lc M (seekK head hash key) 0 4200 (s', k) V4) := hid ⟨a2 X _ (by omega) (keep_laid KX.out hb3), a1, a2 Z _ (by omega) (keep_laid KZ.out hb3), ⟨(HM.out.grow hb3).w.keepNe HAP.out.1 a2, (HM.out.grow hb3).l.keepNe HAP.out.2 a2⟩, a3 _ _ (by omega) (step HB.out hb3), ⟨by unfold seekK; dsimp only; decide, hha, hke, hh, by unfold seekK; dsimp only; decide, by unfold seekK; dsimp only; decide⟩, by show (0 : Int) ≤ 0; decide, by show (0 : Int) ≤ 5; decide, hr, rfl⟩
  obtain ⟨z0, zf0, z1, zf1, z2, zf2, z3, zf3, z4, zf4, z5, zf5, z6, zf6⟩ := fcl7 hl3
  have HV4 := hid hV4
  unfold memV
  clear h hok hW hr h4 hha hke hlo hV4 a1 a2 a3 hb3 hs3 hl3
  go_enter Try.func15, Try.ntmps15
  go_upto_region 2 with (fail)
  rw [← HV4.out]
  clear hX hZ hS z0 z1 z2 z3 z4 z5 z6 zf0 zf1 zf2 zf3 zf4 zf5 zf6
  go_wp2
  go_loopg [11] 4200 (fun g t11 wr => ∃ (s2 : Sk) (n : Nat), t11 = .int .i64 ((n : Nat) : Int) ∧ Hid (Rfd V X S Z wa wc la lc M s2 n g (s', k) wr))
  case atStart => exact ⟨_, 0, rfl, HF⟩
  case round =>
    clear HF
    obtain ⟨s2, n, rfl, hF⟩ := hrel
    have s0 := cell_laid (i := 0) hF.out.bs rfl
    by_cases hp : 4 ≤ s2.ph
    · have t0 : decide (s2.ph < 4) = false := decide_eq_false (by omega)
      have e2 := (seekFix_end hp).symm.trans hF.out.res
      simp only [Prod.mk.injEq] at e2
      obtain ⟨rfl, rfl⟩ := e2
      have HF2 := hid hF.out
      clear hp hF
      obtain ⟨ph, hash_1, key_1, link, node, val, found⟩ := s2
      obtain ⟨U, hU, a1, a2, a3, -, -⟩ := putM7 HF2.out.bz (.int .i64 ph) (.int .u64 ((hash_1 : Nat) : Int)) (.int .u64 ((key_1 : Nat) : Int)) (.int .u64 ((link : Nat) : Int)) (.int .u64 ((node : Nat) : Int)) (.int .u64 ((val : Nat) : Int)) (.bool found)
      have HU := hid hU
      have KZU := hid a1
      have HBU := hid (a3 _ _ hVZ HF2.out.below)
      have HBS := HF2.out.bs
      try dsimp only at HBS
      try dsimp only at s0
      try dsimp only at t0
      obtain ⟨s0, s1, s2, s3, s4, s5, s6⟩ := ncl7 HBS
      obtain ⟨z0, zf0, z1, zf1, z2, zf2, z3, zf3, z4, zf4, z5, zf5, z6, zf6⟩ := fcl7 HF2.out.bz
      clear hU a1 a2 a3 HBS
      go_wp2
      rw [← HU.out]
      refine bodyPost_ret (rFind_result KZU.out rfl rfl) rfl ?_
      exact ⟨rfl, HBU.out⟩
    · have t0 : decide (s2.ph < 4) = true := decide_eq_true (by omega)
      obtain ⟨k1, k2, k3, k4, k5⟩ := seekE_ok HOK.out HWW.out hF.out.sok hF.out.p0 hF.out.p5
      have HST := hid (rSeekStep_any M s2 wa la wc lc wr hF.out.mem HOK.out hF.out.sok hF.out.p0)
      obtain ⟨⟨Mn, sn, bn⟩, hX⟩ : ∃ X, seekE M s2 = X := ⟨_, rfl⟩
      rw [hX] at HST k3 k4 k5
      obtain ⟨g1, hg1⟩ : ∃ g1, gk = g1 + 1 := by
        cases gk with
        | zero =>
          have := hF.out.res
          unfold seekFix at this
          simp only [Prod.mk.injEq] at this
          obtain ⟨e, -⟩ := this
          rw [e] at hp
          exact absurd H4.out hp
        | succ g => exact ⟨g, rfl⟩
      have HR2 : Hid (seekFix (gk - 1) M sn (n + 1) = (s', k)) := hid (by
        have := hF.out.res
        rw [hg1, seekFix_step hp hX] at this
        rw [hg1]; exact this)
      have HK := hid (show sn.Ok ∧ 0 ≤ sn.ph ∧ sn.ph ≤ 5 from ⟨k3, k4, k5⟩)
      have HG := hid hg1
      have HF2 := hid hF.out
      obtain ⟨ph, hash_1, key_1, link, node, val, found⟩ := s2
      have HBS := HF2.out.bs
      try dsimp only at HBS
      try dsimp only at s0
      try dsimp only at t0
      obtain ⟨s0, s1, s2, s3, s4, s5, s6⟩ := ncl7 HBS
      obtain ⟨x0, x1, x2⟩ := cells3 HF2.out.bx
      unfold memV skV at HST
      dsimp only at HST
      clear hX hp hF hg1 k1 k2 k3 k4 k5 HBS
      go_wp2_with fail
      refine HST.out.mono ?_
      rintro e w2 ⟨wa', wc', la', lc', rfl, hm, hb2, -, -⟩
      have hml := hm.w.len
      have hmll := hm.l.len
      have KS2 := hid (keep_laid HF2.out.bs hb2)
      have hS2 := lt_laid KS2.out
      obtain ⟨ph', hash', key', link', node', val', found'⟩ := sn
      have HBS := KS2.out
      try dsimp only at HBS
      obtain ⟨U, hU, a1, a2, a3, -, -⟩ := putM7 HBS (.int .i64 ph') (.int .u64 ((hash' : Nat) : Int)) (.int .u64 ((key' : Nat) : Int)) (.int .u64 ((link' : Nat) : Int)) (.int .u64 ((node' : Nat) : Int)) (.int .u64 ((val' : Nat) : Int)) (.bool found')
      have HFN : Hid (Rfd V X S Z wa wc la lc M ⟨ph', hash', key', link', node', val', found'⟩ (n + 1) (gk - 1) (s', k) U) := hid (by
        have hm2 := HF2.out.mem.grow hb2
        have ap := HAP.out
        exact ⟨a2 X _ (by omega) (keep_laid HF2.out.bx hb2), a1, a2 Z _ (by omega) (keep_laid HF2.out.bz hb2), ⟨hm2.w.keepNe ap.1 a2, hm2.l.keepNe ap.2 a2⟩, a3 _ _ (by omega) (step HF2.out.below hb2), HK.out.1, HK.out.2.1, HK.out.2.2, HR2.out, by have := HF2.out.cnt; have := HG.out; omega⟩)
      have HU := hid hU
      obtain ⟨z0, zf0, z1, zf1, z2, zf2, z3, zf3, z4, zf4, z5, zf5, z6, zf6⟩ := fcl7 HBS
      have hn42 : n ≤ 4200 := by have := HF2.out.cnt; omega
      unfold memV skV
      dsimp only
      clear hU a1 a2 a3 HBS hm hb2 s0 s1 s2 s3 s4 s5 s6 x0 x1 x2 t0
      go_upto_region 5 with (fail)
      rw [← HU.out]
      clear z0 z1 z2 z3 z4 z5 z6 zf0 zf1 zf2 zf3 zf4 zf5 zf6
      go_wp2
      go_roundg (gk - 1)
      case measure => have := HG.out; omega
      case rel => exact ⟨_, n + 1, by go_num, HFN⟩
end Go.Proofs.Ytdkkjcflcegeoaa
