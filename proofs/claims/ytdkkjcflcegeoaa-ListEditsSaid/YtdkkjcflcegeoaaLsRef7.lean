/- The document's lists (printed by gen_lsref5.py): Edit. -/
import Derived.Test.YtdkkjcflcegeoaaLsRef4
import Derived.Test.YtdkkjcflcegeoaaLsEq
namespace Go.Proofs.Ytdkkjcflcegeoaa
open Go.RowKit
open Go.Proofs
set_option linter.unusedVariables false
attribute [local go_sem] Oper.semAt_some
theorem rEdit_result {W : World} {b4 : Nat} {v4_0 v4_1 v4_2 : Value} {tmps : Array Value} (h4 : W.heap[b4]? = some (.cells #[v4_0, v4_1, v4_2] 25 (0, 0))) (q4 : tmps[4]?.getD undef = .pointer (some ⟨b4, 0, none⟩)) :
    (results Try.f52 tmps).run Try.prog W = .ok (.agg #[v4_0, v4_1, v4_2]) W := by
  have e4_0 := cell_laid (i := 0) (v := v4_0) h4 rfl
  have e4_1 := cell_laid (i := 1) (v := v4_1) h4 rfl
  have e4_2 := cell_laid (i := 2) (v := v4_2) h4 rfl
  simp [results, Try.results52, go_sem, e4_0, e4_1, e4_2, q4]
/-- A call gives a memory that lies there. -/
def GivesK (wa0 la0 : Option Addr) (M : Mem) (w : World) (e : Ending) (W : World) : Prop := ∃ wa wc la lc, e = .returned (memV wa wc la lc M) ∧ MemL W wa wc la lc M ∧ Below w.heap.size w W ∧ keptA w wa0 wa ∧ keptA w la0 la
/-- Who edits, in the document. -/
structure Red (V : World) (X Y Z : Nat) (wa0 la0 wa : Option Addr) (wc : Nat) (la : Option Addr) (lc : Nat) (M : Mem) (s : Ede) (n g : Nat) (res : Mem × Ede × Nat) (W : World) : Prop where
  bx : W.heap[X]? = some (.cells #[.slice wa M.W.length wc, .slice la M.L.length lc, .bool M.F] 25 (0, 0))
  by_ : W.heap[Y]? = some (.cells (ed8 s) 53 (0, 0))
  bz : W.heap[Z]? = some (.cells #[.slice none 0 0, .slice none 0 0, .bool false] 25 (0, 0))
  mem : MemL W wa wc la lc M
  aw : apB wa X Z
  al : apB la X Z
  kw : keptA V wa0 wa
  kl : keptA V la0 la
  below : Below V.heap.size V W
  ok : okM M = true
  wok : ∀ x ∈ M.W, x < 18446744073709551616
  sok : s.Ok
  p0 : 0 ≤ s.ph
  p7 : s.ph ≤ 7
  res : editRun g M s n = res
  fuel : 6 ≤ g + s.ph
theorem keptA.trans {V W : World} {a a' a'' : Option Addr} (h : keptA V a a') (k : keptA W a' a'') (hs : V.heap.size ≤ W.heap.size) : keptA V a a'' := by
  rcases k with rfl | k
  · exact h
  · exact .inr fun b off e => Nat.le_trans hs (k b off e)
set_option maxRecDepth 100000 in
set_option maxHeartbeats 8000000 in
theorem rEdit_any (M : Mem) (s : Ede) (wa0 la0 : Option Addr) (wc0 lc0 n0 : Nat) (V : World) (h : MemL V wa0 wc0 la0 lc0 M) (hok : okM M = true) (hW : ∀ x ∈ M.W, x < 18446744073709551616) (hs : s.Ok) (h0 : 0 ≤ s.ph) (h7 : s.ph ≤ 7) :
    Calls Try.prog 52 #[memV wa0 wc0 la0 lc0 M, edV s] V (GivesK wa0 la0 (editRun 8 M s n0).1 V) := by
  obtain ⟨V1, hV1, hbV1, hsV1, hlV1⟩ := laid V #[.slice wa0 M.W.length wc0, .slice la0 M.L.length lc0, .bool M.F] 25
  obtain ⟨V2, hV2, hbV2, hsV2, hlV2⟩ := laid V1 #[.int .i64 s.ph, .bool s.cuts, .int .u64 ((s.link : Nat) : Int), .int .u64 ((s.at_ : Nat) : Int), .int .u64 ((s.key : Nat) : Int), .int .u64 ((s.val : Nat) : Int), .int .u64 ((s.hash : Nat) : Int), .int .u64 ((s.next : Nat) : Int)] 53
  obtain ⟨V3, hV3, hbV3, hsV3, hlV3⟩ := laid V2 #[.slice none 0 0, .slice none 0 0, .bool false] 25
  obtain ⟨X, hX⟩ : ∃ X, V.heap.size = X := ⟨_, rfl⟩
  rw [hX] at hlV1
  obtain ⟨Y, hY⟩ : ∃ X, V1.heap.size = X := ⟨_, rfl⟩
  rw [hY] at hlV2
  obtain ⟨Z, hZ⟩ : ∃ X, V2.heap.size = X := ⟨_, rfl⟩
  rw [hZ] at hlV3
  have KX := hid (keep_laid (keep_laid hlV1 hbV2) hbV3)
  have KY := hid (keep_laid hlV2 hbV3)
  have KZ := hid hlV3
  have HB := hid (step (step hbV1 hbV2) hbV3)
  have hVX : V.heap.size ≤ X := by omega
  have hVY : V.heap.size ≤ Y := by omega
  have nXY : X < Y := by omega
  have hVZ : V.heap.size ≤ Z := by omega
  have nXZ : X < Z := by omega
  have nYZ : Y < Z := by omega
  clear hbV1 hsV1 hlV1 hbV2 hsV2 hlV2 hbV3 hsV3 hlV3
  obtain ⟨⟨Mr, sr, nr⟩, hRES⟩ : ∃ r, editRun 8 M s n0 = r := ⟨_, rfl⟩
  rw [hRES]
  obtain ⟨aw, al⟩ := h.low hok (X := X) (G := Z) (by omega)
  have HF : Hid (Red V X Y Z wa0 la0 wa0 wc0 la0 lc0 M s n0 8 (Mr, sr, nr) V3) := hid ⟨KX.out, KY.out, KZ.out, h.grow HB.out, aw, al, keptA.refl _ _, keptA.refl _ _, HB.out, hok, hW, hs, h0, h7, hRES, by omega⟩
  unfold memV edV
  clear h hok hW hs h0 h7 hRES aw al KX KY KZ HB
  go_enter Try.func52, Try.ntmps52
  go_upto_region 1 with (fail)
  clear hX hY hZ
  go_loopg [8] 8 (fun g t8 wr => ∃ (wa : Option Addr) (wc : Nat) (la : Option Addr) (lc : Nat) (M2 : Mem) (s2 : Ede) (n : Nat), Hid (Red V X Y Z wa0 la0 wa wc la lc M2 s2 n g (Mr, sr, nr) wr))
  case atStart => exact ⟨_, _, _, _, _, _, n0, HF⟩
  case round =>
    clear HF
    obtain ⟨wa, wc, la, lc, M2, s2, n, hF⟩ := hrel
    have y0 := cell_laid (i := 0) hF.out.by_ rfl
    have hwl := hF.out.mem.w.len
    have hll := hF.out.mem.l.len
    by_cases hp : 6 ≤ s2.ph
    · have t0 : decide (s2.ph < 6) = false := decide_eq_false (by omega)
      have e2 := (editRun_end hp).symm.trans hF.out.res
      simp only [Prod.mk.injEq] at e2
      obtain ⟨rfl, rfl, rfl⟩ := e2
      have HF2 := hid hF.out
      obtain ⟨x0, x1, x2⟩ := cells3 HF2.out.bx
      obtain ⟨U, hU, a1, a2, a3, -⟩ := put_mem HF2.out.bz (.slice wa M2.W.length wc) (.slice la M2.L.length lc) (.bool M2.F)
      have HU := hid hU
      have KZU := hid a1
      have HMU : Hid (MemL U wa wc la lc M2) := hid ⟨HF2.out.mem.w.keepNe (HF2.out.aw.apart (by omega) (Nat.le_refl _)) a2, HF2.out.mem.l.keepNe (HF2.out.al.apart (by omega) (Nat.le_refl _)) a2⟩
      have HBU := hid (a3 _ _ hVZ HF2.out.below)
      obtain ⟨z0, zf0, z1, zf1, z2, zf2⟩ := fcl3 HF2.out.bz
      clear hU a1 a2 a3 hp hF
      go_wp2
      rw [← HU.out]
      refine bodyPost_ret (rEdit_result KZU.out rfl) rfl ?_
      exact ⟨wa, wc, la, lc, rfl, HMU.out, HBU.out, HF2.out.kw, HF2.out.kl⟩
    · have t0 : decide (s2.ph < 6) = true := decide_eq_true (by omega)
      obtain ⟨k1, k2, k3, k4, -, -, -, -⟩ := editE_ok hF.out.ok hF.out.wok hF.out.sok hF.out.p0 hF.out.p7
      have k4 := k4 (by omega)
      have HST := hid (rEditStep_any M2 s2 wa la wc lc wr hF.out.mem hF.out.ok hF.out.sok hF.out.p0)
      obtain ⟨⟨Mn, sn, bn⟩, hX⟩ : ∃ X, editE M2 s2 = X := ⟨_, rfl⟩
      rw [hX] at HST k1 k2 k3 k4
      dsimp only at k4
      obtain ⟨g1, hg1⟩ : ∃ g1, gk = g1 + 1 := ⟨gk - 1, by have := hF.out.fuel; omega⟩
      have HR2 : Hid (editRun (gk - 1) Mn sn (n + 1) = (Mr, sr, nr)) := hid (by
        have := hF.out.res
        rw [hg1, editRun_step hp hX] at this
        rw [hg1]; exact this)
      have HK := hid (show okM Mn = true ∧ (∀ x ∈ Mn.W, x < 18446744073709551616) ∧ sn.Ok ∧ 0 ≤ sn.ph ∧ sn.ph ≤ 7 ∧ 6 ≤ ((gk - 1 : Nat) : Int) + sn.ph from ⟨k1, k2, k3, by have := hF.out.p0; omega, k4.2, by have := hF.out.fuel; omega⟩)
      have HG := hid hg1
      have HF2 := hid hF.out
      obtain ⟨ph, cuts, link, at_, key, val, hash, next⟩ := s2
      have HBY := HF2.out.by_
      try dsimp only at HBY
      try dsimp only at y0
      try dsimp only at t0
      obtain ⟨y0, y1, y2, y3, y4, y5, y6, y7⟩ := ncl8 HBY
      obtain ⟨x0, x1, x2⟩ := cells3 HF2.out.bx
      unfold memV edV at HST
      dsimp only at HST
      clear hX hp hF hg1 k1 k2 k3 k4 HBY
      go_wp2_with fail
      refine HST.out.mono ?_
      rintro e w2 ⟨wa', wc', la', lc', rfl, hm, hb2, kw, kl⟩
      have hml := hm.w.len
      have hmll := hm.l.len
      have hZ2 := lt_laid HF2.out.bz
      have hVW := HF2.out.below.size
      have aw := HF2.out.aw.kept kw hZ2
      have al := HF2.out.al.kept kl hZ2
      have KX2 := keep_laid HF2.out.bx hb2
      have KY2 := keep_laid HF2.out.by_ hb2
      have KZ2 := keep_laid HF2.out.bz hb2
      obtain ⟨ph', cuts', link', at_', key', val', hash', next'⟩ := sn
      try dsimp only at KY2
      obtain ⟨U1, hU1, a1, a2, a3, -⟩ := put_mem KX2 (.slice wa' Mn.W.length wc') (.slice la' Mn.L.length lc') (.bool Mn.F)
      have KY3 := a2 Y _ (by omega) KY2
      obtain ⟨U2, hU2, c1, c2, c3, -, -⟩ := putM8 KY3 (.int .i64 ph') (.bool cuts') (.int .u64 ((link' : Nat) : Int)) (.int .u64 ((at_' : Nat) : Int)) (.int .u64 ((key' : Nat) : Int)) (.int .u64 ((val' : Nat) : Int)) (.int .u64 ((hash' : Nat) : Int)) (.int .u64 ((next' : Nat) : Int))
      have HFN : Hid (Red V X Y Z wa0 la0 wa' wc' la' lc' Mn ⟨ph', cuts', link', at_', key', val', hash', next'⟩ (n + 1) (gk - 1) (Mr, sr, nr) U2) := hid
        ⟨c2 X _ (by omega) a1, c1, c2 Z _ (by omega) (a2 Z _ (by omega) KZ2), ⟨(hm.w.keepNe (aw.apart (Nat.le_refl _) (by omega)) a2).keepNe (aw.apart (by omega) (by omega)) c2, (hm.l.keepNe (al.apart (Nat.le_refl _) (by omega)) a2).keepNe (al.apart (by omega) (by omega)) c2⟩, aw, al,
          HF2.out.kw.trans kw hVW, HF2.out.kl.trans kl hVW, c3 _ _ (by omega) (a3 _ _ (by omega) (step HF2.out.below hb2)), HK.out.1, HK.out.2.1, HK.out.2.2.1, HK.out.2.2.2.1, HK.out.2.2.2.2.1, HR2.out, HK.out.2.2.2.2.2⟩
      have HU1 := hid hU1
      have HU2 := hid hU2
      obtain ⟨u0, uf0, u1, uf1, u2, uf2⟩ := fcl3 KX2
      obtain ⟨z0, zf0, z1, zf1, z2, zf2, z3, zf3, z4, zf4, z5, zf5, z6, zf6, z7, zf7⟩ := fcl8 KY2
      have hXnY : X ≠ Y := by omega
      have hYnX : Y ≠ X := by omega
      unfold memV edV
      dsimp only
      clear hU1 hU2 a1 a2 a3 c1 c2 c3 KX2 KY2 KZ2 KY3 hm hb2 kw kl aw al y0 y1 y2 y3 y4 y5 y6 y7 x0 x1 x2 t0
      go_wp2
      rw [← HU1.out, ← HU2.out]
      go_roundg (gk - 1)
      case measure => have := HG.out; omega
      case rel => exact ⟨_, _, _, _, _, _, n + 1, HFN⟩
end Go.Proofs.Ytdkkjcflcegeoaa
