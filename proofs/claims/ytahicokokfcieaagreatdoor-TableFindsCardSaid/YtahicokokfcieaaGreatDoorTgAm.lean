/- Several texts in one. -/
import Derived.Test.YtahicokokfcieaaGreatDoorTgAb
import Derived.Test.YtahicokokfcieaaGreatDoorTgAl
namespace Go.Proofs.YtahicokokfcieaaGreatDoor
open Go.RowKit
open Go.Proofs
set_option linter.unusedVariables false
theorem ncl3 {W : World} {Y : Nat} {v0 v1 v2 : Value} {T : TypeId} (h : W.heap[Y]? = some (.cells #[v0, v1, v2] T (0, 0))) : W.cell? ⟨Y, 0, none⟩ = some v0 ∧ W.cell? ⟨Y, 1, none⟩ = some v1 ∧ W.cell? ⟨Y, 2, none⟩ = some v2 := ⟨cell_laid h rfl, cell_laid h rfl, cell_laid h rfl⟩
theorem fcl3 {W : World} {Y : Nat} {v0 v1 v2 : Value} {T : TypeId} (h : W.heap[Y]? = some (.cells #[v0, v1, v2] T (0, 0))) : W.cell? ⟨Y, 0, none⟩ = some v0 ∧ W.frozen? ⟨Y, 0, none⟩ = false ∧ W.cell? ⟨Y, 1, none⟩ = some v1 ∧ W.frozen? ⟨Y, 1, none⟩ = false ∧ W.cell? ⟨Y, 2, none⟩ = some v2 ∧ W.frozen? ⟨Y, 2, none⟩ = false := ⟨cell_laid h rfl, free_laid h, cell_laid h rfl, free_laid h, cell_laid h rfl, free_laid h⟩
theorem ncl4 {W : World} {Y : Nat} {v0 v1 v2 v3 : Value} {T : TypeId} (h : W.heap[Y]? = some (.cells #[v0, v1, v2, v3] T (0, 0))) : W.cell? ⟨Y, 0, none⟩ = some v0 ∧ W.cell? ⟨Y, 1, none⟩ = some v1 ∧ W.cell? ⟨Y, 2, none⟩ = some v2 ∧ W.cell? ⟨Y, 3, none⟩ = some v3 := ⟨cell_laid h rfl, cell_laid h rfl, cell_laid h rfl, cell_laid h rfl⟩
theorem fcl4 {W : World} {Y : Nat} {v0 v1 v2 v3 : Value} {T : TypeId} (h : W.heap[Y]? = some (.cells #[v0, v1, v2, v3] T (0, 0))) : W.cell? ⟨Y, 0, none⟩ = some v0 ∧ W.frozen? ⟨Y, 0, none⟩ = false ∧ W.cell? ⟨Y, 1, none⟩ = some v1 ∧ W.frozen? ⟨Y, 1, none⟩ = false ∧ W.cell? ⟨Y, 2, none⟩ = some v2 ∧ W.frozen? ⟨Y, 2, none⟩ = false ∧ W.cell? ⟨Y, 3, none⟩ = some v3 ∧ W.frozen? ⟨Y, 3, none⟩ = false := ⟨cell_laid h rfl, free_laid h, cell_laid h rfl, free_laid h, cell_laid h rfl, free_laid h, cell_laid h rfl, free_laid h⟩
theorem fcl7 {W : World} {Y : Nat} {v0 v1 v2 v3 v4 v5 v6 : Value} {T : TypeId} (h : W.heap[Y]? = some (.cells #[v0, v1, v2, v3, v4, v5, v6] T (0, 0))) : W.cell? ⟨Y, 0, none⟩ = some v0 ∧ W.frozen? ⟨Y, 0, none⟩ = false ∧ W.cell? ⟨Y, 1, none⟩ = some v1 ∧ W.frozen? ⟨Y, 1, none⟩ = false ∧ W.cell? ⟨Y, 2, none⟩ = some v2 ∧ W.frozen? ⟨Y, 2, none⟩ = false ∧ W.cell? ⟨Y, 3, none⟩ = some v3 ∧ W.frozen? ⟨Y, 3, none⟩ = false ∧ W.cell? ⟨Y, 4, none⟩ = some v4 ∧ W.frozen? ⟨Y, 4, none⟩ = false ∧ W.cell? ⟨Y, 5, none⟩ = some v5 ∧ W.frozen? ⟨Y, 5, none⟩ = false ∧ W.cell? ⟨Y, 6, none⟩ = some v6 ∧ W.frozen? ⟨Y, 6, none⟩ = false := ⟨cell_laid h rfl, free_laid h, cell_laid h rfl, free_laid h, cell_laid h rfl, free_laid h, cell_laid h rfl, free_laid h, cell_laid h rfl, free_laid h, cell_laid h rfl, free_laid h, cell_laid h rfl, free_laid h⟩
theorem fcl8 {W : World} {Y : Nat} {v0 v1 v2 v3 v4 v5 v6 v7 : Value} {T : TypeId} (h : W.heap[Y]? = some (.cells #[v0, v1, v2, v3, v4, v5, v6, v7] T (0, 0))) : W.cell? ⟨Y, 0, none⟩ = some v0 ∧ W.frozen? ⟨Y, 0, none⟩ = false ∧ W.cell? ⟨Y, 1, none⟩ = some v1 ∧ W.frozen? ⟨Y, 1, none⟩ = false ∧ W.cell? ⟨Y, 2, none⟩ = some v2 ∧ W.frozen? ⟨Y, 2, none⟩ = false ∧ W.cell? ⟨Y, 3, none⟩ = some v3 ∧ W.frozen? ⟨Y, 3, none⟩ = false ∧ W.cell? ⟨Y, 4, none⟩ = some v4 ∧ W.frozen? ⟨Y, 4, none⟩ = false ∧ W.cell? ⟨Y, 5, none⟩ = some v5 ∧ W.frozen? ⟨Y, 5, none⟩ = false ∧ W.cell? ⟨Y, 6, none⟩ = some v6 ∧ W.frozen? ⟨Y, 6, none⟩ = false ∧ W.cell? ⟨Y, 7, none⟩ = some v7 ∧ W.frozen? ⟨Y, 7, none⟩ = false := ⟨cell_laid h rfl, free_laid h, cell_laid h rfl, free_laid h, cell_laid h rfl, free_laid h, cell_laid h rfl, free_laid h, cell_laid h rfl, free_laid h, cell_laid h rfl, free_laid h, cell_laid h rfl, free_laid h, cell_laid h rfl, free_laid h⟩
end Go.Proofs.YtahicokokfcieaaGreatDoor
namespace Go.Proofs.YtahicokokfcieaaGreatDoor
open Go.RowKit
open Go.Proofs
set_option linter.unusedVariables false
attribute [local go_sem] Oper.semAt_some
def GivesRun (M : Mem) (w : World) (e : Ending) (W : World) : Prop := ∃ wa wc la lc, e = .returned (.tuple #[memV wa wc la lc M, .slice none 0 0, .int .i64 0]) ∧ MemO w.heap.size wa wc la lc M W ∧ Below w.heap.size w W
theorem mrun_result {W : World} {b4 : Nat} {v4_0 v4_1 v4_2 u5 u6 : Value} {tmps : Array Value} (h4 : W.heap[b4]? = some (.cells #[v4_0, v4_1, v4_2] 25 (0, 0))) (q4 : tmps[4]?.getD undef = .pointer (some ⟨b4, 0, none⟩)) (q5 : tmps[5]?.getD undef = u5) (q6 : tmps[6]?.getD undef = u6) :
    (results Tryz.f68 tmps).run Tryz.prog W = .ok (.tuple #[.agg #[v4_0, v4_1, v4_2], u5, u6]) W := by
  have e4_0 := cell_laid (i := 0) (v := v4_0) h4 rfl
  have e4_1 := cell_laid (i := 1) (v := v4_1) h4 rfl
  have e4_2 := cell_laid (i := 2) (v := v4_2) h4 rfl
  simp [results, Tryz.results68, go_sem, e4_0, e4_1, e4_2, q4, q5, q6]
set_option maxRecDepth 100000 in
set_option maxHeartbeats 4000000 in
theorem Run0_any (M : Mem) (wa la : Option Addr) (wc lc : Nat) (V : World) (h : MemL V wa wc la lc M) (hok : okM M = true) :
    Calls Tryz.prog 68 #[memV wa wc la lc M, .slice none 0 0] V (GivesRun M V) := by
  obtain ⟨V1, hV1, hbV1, hsV1, hlV1⟩ := laid V #[.slice wa M.W.length wc, .slice la M.L.length lc, .bool M.F] 25
  obtain ⟨V2, hV2, hbV2, hsV2, hlV2⟩ := laid V1 #[.slice none 0 0, .slice none 0 0, .bool false] 25
  obtain ⟨X, hX⟩ : ∃ X, V.heap.size = X := ⟨_, rfl⟩
  rw [hX] at hlV1
  obtain ⟨Z, hZ⟩ : ∃ X, V1.heap.size = X := ⟨_, rfl⟩
  rw [hZ] at hlV2
  have KX := hid (keep_laid hlV1 hbV2)
  have KZ := hid hlV2
  have HB := hid (step hbV1 hbV2)
  have hVX : V.heap.size ≤ X := by omega
  have hVZ : V.heap.size ≤ Z := by omega
  have nXZ : X < Z := by omega
  clear hbV1 hsV1 hlV1 hbV2 hsV2 hlV2
  have HM := hid (h.grow HB.out)
  have HCK : Hid (∀ W, Below V2.heap.size V2 W → Calls Tryz.prog 49 #[.agg #[.slice wa M.W.length wc, .slice la M.L.length lc, .bool M.F]] W (Ret (.int .i64 0) W)) := hid (fun W hb => by
    have := Check_any M wa la wc lc W (HM.out.grow hb)
    rw [hok, if_pos rfl] at this
    exact this)
  have HOW : Hid (∀ W, Below V2.heap.size V2 W → Calls Tryz.prog 88 #[.agg #[.slice wa M.W.length wc, .slice la M.L.length lc, .bool M.F]] W (GivesM M W)) := hid (fun W hb => memown_any M wa la wc lc W (HM.out.grow hb) (by have := okM_spec hok; omega) (by have := okM_spec hok; omega))
  have hwl := h.w.len
  have hll := h.l.len
  unfold memV
  obtain ⟨x0, x1, x2⟩ := cells3 KX.out
  clear h hok
  go_enter Tryz.func68, Tryz.ntmps68
  go_wp2_with fail
  refine (HCK.out V2 (Below.refl _ _)).mono ?_
  rintro e V3 ⟨rfl, hb3⟩
  obtain ⟨x0, x1, x2⟩ := cells3 (keep_laid KX.out hb3)
  have KX3 := hid (keep_laid KX.out hb3)
  have KZ3 := hid (keep_laid KZ.out hb3)
  have HB3 := hid hb3
  clear hb3
  go_wp2_with fail
  refine (HOW.out V3 HB3.out).mono ?_
  rintro e V4 ⟨wa', wc', la', lc', rfl, hoo, hb4⟩
  have KX4 := hid (keep_laid KX3.out hb4)
  have KZ4 := hid (keep_laid KZ3.out hb4)
  have HB4 := hid (step HB3.out hb4)
  have HO4 := hid (hoo.base (base' := V.heap.size) (by have := HB.out.size; have := HB3.out.size; omega))
  clear hoo hb4 x0 x1 x2
  unfold memV
  obtain ⟨V5, hV5, a1, a2, a3, a4⟩ := put_mem KX4.out (.slice wa' M.W.length wc') (.slice la' M.L.length lc') (.bool M.F)
  obtain ⟨x0, xf0, x1, xf1, x2, xf2⟩ := fcl3 KX4.out
  have HV5 := hid hV5
  have KX5 := hid a1
  have KZ5 := hid (a2 _ _ (by omega) KZ4.out)
  have HO5 := hid (a4 _ _ _ _ _ _ HO4.out)
  have HB5 := hid (a3 V.heap.size V hVX (step HB.out HB4.out))
  clear hV5 a1 a2 a3 a4
  have hwl' := HO5.out.memL.w.len
  have hll' := HO5.out.memL.l.len
  go_upto_region 5 with (fail)
  rw [← HV5.out]
  clear x0 xf0 x1 xf1 x2 xf2
  go_wp2
  go_loopg [8, 24] 0 (fun g t8 t24 wr => t8 = .slice none 0 0 ∧ t24 = .int .i64 0 ∧ wr = V5)
  case atStart => exact ⟨rfl, rfl, rfl⟩
  case round =>
    obtain ⟨rfl, rfl, hw⟩ := hrel
    subst hw
    obtain ⟨V6, hV6, a1, a2, a3, a4⟩ := put_mem KZ5.out (.slice wa' M.W.length wc') (.slice la' M.L.length lc') (.bool M.F)
    obtain ⟨x0, x1, x2⟩ := ncl3 KX5.out
    obtain ⟨z0, zf0, z1, zf1, z2, zf2⟩ := fcl3 KZ5.out
    have HV6 := hid hV6
    have KZ6 := hid a1
    have HO6 := hid (a4 _ _ _ _ _ _ HO5.out)
    have HB6 := hid (a3 V.heap.size V hVZ HB5.out)
    clear hV6 a1 a2 a3 a4
    go_wp2
    rw [← HV6.out]
    refine bodyPost_ret (mrun_result KZ6.out rfl rfl rfl) rfl ?_
    exact ⟨wa', wc', la', lc', rfl, HO6.out, HB6.out⟩
/-- A memory of its own that machines step in. -/
def GivesOwn (M : Mem) (w : World) (e : Ending) (W : World) : Prop := ∃ R, e = .returned (.pointer (some ⟨R, 0, none⟩)) ∧ w.heap.size ≤ R ∧ RunC w.heap.size R M 0 W ∧ Below w.heap.size w W
set_option maxRecDepth 100000 in
set_option maxHeartbeats 4000000 in
theorem lsown_any (M : Mem) (wa la : Option Addr) (wc lc : Nat) (V : World) (h : MemL V wa wc la lc M) (hok : okM M = true) :
    Calls Tryz.prog 90 #[memV wa wc la lc M] V (GivesOwn M V) := by
  obtain ⟨V1, hV1, hbV1, hsV1, hlV1⟩ := laid V #[.slice wa M.W.length wc, .slice la M.L.length lc, .bool M.F] 25
  obtain ⟨X, hX⟩ : ∃ X, V.heap.size = X := ⟨_, rfl⟩
  rw [hX] at hlV1
  have KX := hid hlV1
  have HB := hid hbV1
  have hVX : V.heap.size ≤ X := by omega
  clear hbV1 hsV1 hlV1
  have HM := hid (h.grow HB.out)
  have HRU := hid (Run0_any M wa la wc lc V1 HM.out hok)
  have hwl := h.w.len
  have hll := h.l.len
  unfold memV at HRU ⊢
  obtain ⟨x0, x1, x2⟩ := cells3 KX.out
  clear h hok
  go_enter Tryz.func90, Tryz.ntmps90
  go_wp2_with fail
  refine HRU.out.mono ?_
  rintro e V2 ⟨wa', wc', la', lc', rfl, hoo, hb2⟩
  have hV12 := hb2.size
  have HO2 := hid (hoo.base (base' := V.heap.size) HB.out.size)
  have HB2 := hid (step HB.out hb2)
  clear hoo hb2 x0 x1 x2
  unfold memV
  obtain ⟨V3, hV3, hb3, hs3, hl3⟩ := laid V2 #[.slice none 0 0, .slice none 0 0, .bool false] 25
  obtain ⟨Y, hY⟩ : ∃ X, V2.heap.size = X := ⟨_, rfl⟩
  rw [hY] at hl3
  obtain ⟨V4, hV4, a1, a2, a3, a4⟩ := put_mem hl3 (.slice wa' M.W.length wc') (.slice la' M.L.length lc') (.bool M.F)
  obtain ⟨y0, yf0, y1, yf1, y2, yf2⟩ := fcl3 hl3
  have hVY : V.heap.size ≤ Y := by have := HB2.out.size; omega
  have HV4 := hid hV4
  have KY := hid a1
  have HO4 := hid (a4 _ _ _ _ _ _ (HO2.out.grow hb3))
  have HB4 := hid (a3 V.heap.size V hVY (step HB2.out hb3))
  clear hV4 a1 a2 a3 a4 hb3 hs3 hl3
  have hwl' := HO4.out.memL.w.len
  have hll' := HO4.out.memL.l.len
  go_upto_region 2 with (fail)
  rw [← HV4.out]
  clear y0 yf0 y1 yf1 y2 yf2
  obtain ⟨y0, y1, y2⟩ := cells3 KY.out
  obtain ⟨V5, hV5, hb5, hs5, hl5⟩ := laid V4 #[.slice wa' M.W.length wc', .slice la' M.L.length lc', .bool M.F, .int .i64 0] 174
  obtain ⟨R, hR⟩ : ∃ X, V4.heap.size = X := ⟨_, rfl⟩
  rw [hR] at hl5
  have hVR : V.heap.size ≤ R := by have := HB4.out.size; omega
  have HRC : Hid (RunC V.heap.size R M 0 V5) := hid ⟨wa', wc', la', lc', hl5, HO4.out.grow hb5⟩
  have HB5 := hid (step HB4.out hb5)
  clear hl5 hs5 hb5
  go_wp2
  go_ret
  exact ⟨R, rfl, hVR, HRC.out, HB5.out⟩
end Go.Proofs.YtahicokokfcieaaGreatDoor
