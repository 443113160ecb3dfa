/- Several texts in one. -/
import Derived.Test.YtahicokokfcieaaGreatDoorTgAj
import Derived.Laws.EntriesVeiled
namespace Go.Proofs.YtahicokokfcieaaGreatDoor
open Go.RowKit
open Go.Proofs
set_option linter.unusedVariables false
attribute [local go_sem] Oper.semAt_some
theorem put12 {V : World} {Y : Nat} {z0 z1 z2 z3 z4 z5 z6 z7 z8 z9 z10 z11 : Value} {T : TypeId} (h : V.heap[Y]? = some (.cells #[z0, z1, z2, z3, z4, z5, z6, z7, z8, z9, z10, z11] T (0, 0))) (v0 v1 v2 v3 v4 v5 v6 v7 v8 v9 v10 v11 : Value) :
    ∃ V', V' = ((((((((((((V.setCell ⟨Y, 0, none⟩ v0).setCell ⟨Y, 1, none⟩ v1).setCell ⟨Y, 2, none⟩ v2).setCell ⟨Y, 3, none⟩ v3).setCell ⟨Y, 4, none⟩ v4).setCell ⟨Y, 5, none⟩ v5).setCell ⟨Y, 6, none⟩ v6).setCell ⟨Y, 7, none⟩ v7).setCell ⟨Y, 8, none⟩ v8).setCell ⟨Y, 9, none⟩ v9).setCell ⟨Y, 10, none⟩ v10).setCell ⟨Y, 11, none⟩ v11) ∧ V'.heap[Y]? = some (.cells #[v0, v1, v2, v3, v4, v5, v6, v7, v8, v9, v10, v11] T (0, 0)) ∧ ∀ (B : Nat) (w : World), B ≤ Y → Below B w V → Below B w V' := by
  obtain ⟨V0, hV0⟩ : ∃ W, V.setCell ⟨Y, 0, none⟩ v0 = W := ⟨_, rfl⟩
  have h0 : V0.heap[Y]? = some (.cells #[v0, z1, z2, z3, z4, z5, z6, z7, z8, z9, z10, z11] T (0, 0)) := by rw [← hV0]; exact set_laid (i := 0) h v0
  obtain ⟨V1, hV1⟩ : ∃ W, V0.setCell ⟨Y, 1, none⟩ v1 = W := ⟨_, rfl⟩
  have h1 : V1.heap[Y]? = some (.cells #[v0, v1, z2, z3, z4, z5, z6, z7, z8, z9, z10, z11] T (0, 0)) := by rw [← hV1]; exact set_laid (i := 1) h0 v1
  obtain ⟨V2, hV2⟩ : ∃ W, V1.setCell ⟨Y, 2, none⟩ v2 = W := ⟨_, rfl⟩
  have h2 : V2.heap[Y]? = some (.cells #[v0, v1, v2, z3, z4, z5, z6, z7, z8, z9, z10, z11] T (0, 0)) := by rw [← hV2]; exact set_laid (i := 2) h1 v2
  obtain ⟨V3, hV3⟩ : ∃ W, V2.setCell ⟨Y, 3, none⟩ v3 = W := ⟨_, rfl⟩
  have h3 : V3.heap[Y]? = some (.cells #[v0, v1, v2, v3, z4, z5, z6, z7, z8, z9, z10, z11] T (0, 0)) := by rw [← hV3]; exact set_laid (i := 3) h2 v3
  obtain ⟨V4, hV4⟩ : ∃ W, V3.setCell ⟨Y, 4, none⟩ v4 = W := ⟨_, rfl⟩
  have h4 : V4.heap[Y]? = some (.cells #[v0, v1, v2, v3, v4, z5, z6, z7, z8, z9, z10, z11] T (0, 0)) := by rw [← hV4]; exact set_laid (i := 4) h3 v4
  obtain ⟨V5, hV5⟩ : ∃ W, V4.setCell ⟨Y, 5, none⟩ v5 = W := ⟨_, rfl⟩
  have h5 : V5.heap[Y]? = some (.cells #[v0, v1, v2, v3, v4, v5, z6, z7, z8, z9, z10, z11] T (0, 0)) := by rw [← hV5]; exact set_laid (i := 5) h4 v5
  obtain ⟨V6, hV6⟩ : ∃ W, V5.setCell ⟨Y, 6, none⟩ v6 = W := ⟨_, rfl⟩
  have h6 : V6.heap[Y]? = some (.cells #[v0, v1, v2, v3, v4, v5, v6, z7, z8, z9, z10, z11] T (0, 0)) := by rw [← hV6]; exact set_laid (i := 6) h5 v6
  obtain ⟨V7, hV7⟩ : ∃ W, V6.setCell ⟨Y, 7, none⟩ v7 = W := ⟨_, rfl⟩
  have h7 : V7.heap[Y]? = some (.cells #[v0, v1, v2, v3, v4, v5, v6, v7, z8, z9, z10, z11] T (0, 0)) := by rw [← hV7]; exact set_laid (i := 7) h6 v7
  obtain ⟨V8, hV8⟩ : ∃ W, V7.setCell ⟨Y, 8, none⟩ v8 = W := ⟨_, rfl⟩
  have h8 : V8.heap[Y]? = some (.cells #[v0, v1, v2, v3, v4, v5, v6, v7, v8, z9, z10, z11] T (0, 0)) := by rw [← hV8]; exact set_laid (i := 8) h7 v8
  obtain ⟨V9, hV9⟩ : ∃ W, V8.setCell ⟨Y, 9, none⟩ v9 = W := ⟨_, rfl⟩
  have h9 : V9.heap[Y]? = some (.cells #[v0, v1, v2, v3, v4, v5, v6, v7, v8, v9, z10, z11] T (0, 0)) := by rw [← hV9]; exact set_laid (i := 9) h8 v9
  obtain ⟨V10, hV10⟩ : ∃ W, V9.setCell ⟨Y, 10, none⟩ v10 = W := ⟨_, rfl⟩
  have h10 : V10.heap[Y]? = some (.cells #[v0, v1, v2, v3, v4, v5, v6, v7, v8, v9, v10, z11] T (0, 0)) := by rw [← hV10]; exact set_laid (i := 10) h9 v10
  obtain ⟨V11, hV11⟩ : ∃ W, V10.setCell ⟨Y, 11, none⟩ v11 = W := ⟨_, rfl⟩
  have h11 : V11.heap[Y]? = some (.cells #[v0, v1, v2, v3, v4, v5, v6, v7, v8, v9, v10, v11] T (0, 0)) := by rw [← hV11]; exact set_laid (i := 11) h10 v11
  refine ⟨V11, ?_, h11, fun B w hB hb => ?_⟩
  · rw [← hV11, ← hV10, ← hV9, ← hV8, ← hV7, ← hV6, ← hV5, ← hV4, ← hV3, ← hV2, ← hV1, ← hV0]
  · rw [← hV11, ← hV10, ← hV9, ← hV8, ← hV7, ← hV6, ← hV5, ← hV4, ← hV3, ← hV2, ← hV1, ← hV0]
    exact ((((((((((((hb.setCell hB _).setCell hB _).setCell hB _).setCell hB _).setCell hB _).setCell hB _).setCell hB _).setCell hB _).setCell hB _).setCell hB _).setCell hB _).setCell hB _)
theorem put16 {V : World} {Y : Nat} {z0 z1 z2 z3 z4 z5 z6 z7 z8 z9 z10 z11 z12 z13 z14 z15 : Value} {T : TypeId} (h : V.heap[Y]? = some (.cells #[z0, z1, z2, z3, z4, z5, z6, z7, z8, z9, z10, z11, z12, z13, z14, z15] T (0, 0))) (v0 v1 v2 v3 v4 v5 v6 v7 v8 v9 v10 v11 v12 v13 v14 v15 : Value) :
    ∃ V', V' = ((((((((((((((((V.setCell ⟨Y, 0, none⟩ v0).setCell ⟨Y, 1, none⟩ v1).setCell ⟨Y, 2, none⟩ v2).setCell ⟨Y, 3, none⟩ v3).setCell ⟨Y, 4, none⟩ v4).setCell ⟨Y, 5, none⟩ v5).setCell ⟨Y, 6, none⟩ v6).setCell ⟨Y, 7, none⟩ v7).setCell ⟨Y, 8, none⟩ v8).setCell ⟨Y, 9, none⟩ v9).setCell ⟨Y, 10, none⟩ v10).setCell ⟨Y, 11, none⟩ v11).setCell ⟨Y, 12, none⟩ v12).setCell ⟨Y, 13, none⟩ v13).setCell ⟨Y, 14, none⟩ v14).setCell ⟨Y, 15, none⟩ v15) ∧ V'.heap[Y]? = some (.cells #[v0, v1, v2, v3, v4, v5, v6, v7, v8, v9, v10, v11, v12, v13, v14, v15] T (0, 0)) ∧ ∀ (B : Nat) (w : World), B ≤ Y → Below B w V → Below B w V' := by
  obtain ⟨V0, hV0⟩ : ∃ W, V.setCell ⟨Y, 0, none⟩ v0 = W := ⟨_, rfl⟩
  have h0 : V0.heap[Y]? = some (.cells #[v0, z1, z2, z3, z4, z5, z6, z7, z8, z9, z10, z11, z12, z13, z14, z15] T (0, 0)) := by rw [← hV0]; exact set_laid (i := 0) h v0
  obtain ⟨V1, hV1⟩ : ∃ W, V0.setCell ⟨Y, 1, none⟩ v1 = W := ⟨_, rfl⟩
  have h1 : V1.heap[Y]? = some (.cells #[v0, v1, z2, z3, z4, z5, z6, z7, z8, z9, z10, z11, z12, z13, z14, z15] T (0, 0)) := by rw [← hV1]; exact set_laid (i := 1) h0 v1
  obtain ⟨V2, hV2⟩ : ∃ W, V1.setCell ⟨Y, 2, none⟩ v2 = W := ⟨_, rfl⟩
  have h2 : V2.heap[Y]? = some (.cells #[v0, v1, v2, z3, z4, z5, z6, z7, z8, z9, z10, z11, z12, z13, z14, z15] T (0, 0)) := by rw [← hV2]; exact set_laid (i := 2) h1 v2
  obtain ⟨V3, hV3⟩ : ∃ W, V2.setCell ⟨Y, 3, none⟩ v3 = W := ⟨_, rfl⟩
  have h3 : V3.heap[Y]? = some (.cells #[v0, v1, v2, v3, z4, z5, z6, z7, z8, z9, z10, z11, z12, z13, z14, z15] T (0, 0)) := by rw [← hV3]; exact set_laid (i := 3) h2 v3
  obtain ⟨V4, hV4⟩ : ∃ W, V3.setCell ⟨Y, 4, none⟩ v4 = W := ⟨_, rfl⟩
  have h4 : V4.heap[Y]? = some (.cells #[v0, v1, v2, v3, v4, z5, z6, z7, z8, z9, z10, z11, z12, z13, z14, z15] T (0, 0)) := by rw [← hV4]; exact set_laid (i := 4) h3 v4
  obtain ⟨V5, hV5⟩ : ∃ W, V4.setCell ⟨Y, 5, none⟩ v5 = W := ⟨_, rfl⟩
  have h5 : V5.heap[Y]? = some (.cells #[v0, v1, v2, v3, v4, v5, z6, z7, z8, z9, z10, z11, z12, z13, z14, z15] T (0, 0)) := by rw [← hV5]; exact set_laid (i := 5) h4 v5
  obtain ⟨V6, hV6⟩ : ∃ W, V5.setCell ⟨Y, 6, none⟩ v6 = W := ⟨_, rfl⟩
  have h6 : V6.heap[Y]? = some (.cells #[v0, v1, v2, v3, v4, v5, v6, z7, z8, z9, z10, z11, z12, z13, z14, z15] T (0, 0)) := by rw [← hV6]; exact set_laid (i := 6) h5 v6
  obtain ⟨V7, hV7⟩ : ∃ W, V6.setCell ⟨Y, 7, none⟩ v7 = W := ⟨_, rfl⟩
  have h7 : V7.heap[Y]? = some (.cells #[v0, v1, v2, v3, v4, v5, v6, v7, z8, z9, z10, z11, z12, z13, z14, z15] T (0, 0)) := by rw [← hV7]; exact set_laid (i := 7) h6 v7
  obtain ⟨V8, hV8⟩ : ∃ W, V7.setCell ⟨Y, 8, none⟩ v8 = W := ⟨_, rfl⟩
  have h8 : V8.heap[Y]? = some (.cells #[v0, v1, v2, v3, v4, v5, v6, v7, v8, z9, z10, z11, z12, z13, z14, z15] T (0, 0)) := by rw [← hV8]; exact set_laid (i := 8) h7 v8
  obtain ⟨V9, hV9⟩ : ∃ W, V8.setCell ⟨Y, 9, none⟩ v9 = W := ⟨_, rfl⟩
  have h9 : V9.heap[Y]? = some (.cells #[v0, v1, v2, v3, v4, v5, v6, v7, v8, v9, z10, z11, z12, z13, z14, z15] T (0, 0)) := by rw [← hV9]; exact set_laid (i := 9) h8 v9
  obtain ⟨V10, hV10⟩ : ∃ W, V9.setCell ⟨Y, 10, none⟩ v10 = W := ⟨_, rfl⟩
  have h10 : V10.heap[Y]? = some (.cells #[v0, v1, v2, v3, v4, v5, v6, v7, v8, v9, v10, z11, z12, z13, z14, z15] T (0, 0)) := by rw [← hV10]; exact set_laid (i := 10) h9 v10
  obtain ⟨V11, hV11⟩ : ∃ W, V10.setCell ⟨Y, 11, none⟩ v11 = W := ⟨_, rfl⟩
  have h11 : V11.heap[Y]? = some (.cells #[v0, v1, v2, v3, v4, v5, v6, v7, v8, v9, v10, v11, z12, z13, z14, z15] T (0, 0)) := by rw [← hV11]; exact set_laid (i := 11) h10 v11
  obtain ⟨V12, hV12⟩ : ∃ W, V11.setCell ⟨Y, 12, none⟩ v12 = W := ⟨_, rfl⟩
  have h12 : V12.heap[Y]? = some (.cells #[v0, v1, v2, v3, v4, v5, v6, v7, v8, v9, v10, v11, v12, z13, z14, z15] T (0, 0)) := by rw [← hV12]; exact set_laid (i := 12) h11 v12
  obtain ⟨V13, hV13⟩ : ∃ W, V12.setCell ⟨Y, 13, none⟩ v13 = W := ⟨_, rfl⟩
  have h13 : V13.heap[Y]? = some (.cells #[v0, v1, v2, v3, v4, v5, v6, v7, v8, v9, v10, v11, v12, v13, z14, z15] T (0, 0)) := by rw [← hV13]; exact set_laid (i := 13) h12 v13
  obtain ⟨V14, hV14⟩ : ∃ W, V13.setCell ⟨Y, 14, none⟩ v14 = W := ⟨_, rfl⟩
  have h14 : V14.heap[Y]? = some (.cells #[v0, v1, v2, v3, v4, v5, v6, v7, v8, v9, v10, v11, v12, v13, v14, z15] T (0, 0)) := by rw [← hV14]; exact set_laid (i := 14) h13 v14
  obtain ⟨V15, hV15⟩ : ∃ W, V14.setCell ⟨Y, 15, none⟩ v15 = W := ⟨_, rfl⟩
  have h15 : V15.heap[Y]? = some (.cells #[v0, v1, v2, v3, v4, v5, v6, v7, v8, v9, v10, v11, v12, v13, v14, v15] T (0, 0)) := by rw [← hV15]; exact set_laid (i := 15) h14 v15
  refine ⟨V15, ?_, h15, fun B w hB hb => ?_⟩
  · rw [← hV15, ← hV14, ← hV13, ← hV12, ← hV11, ← hV10, ← hV9, ← hV8, ← hV7, ← hV6, ← hV5, ← hV4, ← hV3, ← hV2, ← hV1, ← hV0]
  · rw [← hV15, ← hV14, ← hV13, ← hV12, ← hV11, ← hV10, ← hV9, ← hV8, ← hV7, ← hV6, ← hV5, ← hV4, ← hV3, ← hV2, ← hV1, ← hV0]
    exact ((((((((((((((((hb.setCell hB _).setCell hB _).setCell hB _).setCell hB _).setCell hB _).setCell hB _).setCell hB _).setCell hB _).setCell hB _).setCell hB _).setCell hB _).setCell hB _).setCell hB _).setCell hB _).setCell hB _).setCell hB _)
theorem skg_result {W : World} {b : Nat} {v0 v1 v2 v3 v4 v5 v6 v7 v8 v9 v10 v11 : Value} {tmps : Array Value} (h : W.heap[b]? = some (.cells #[v0, v1, v2, v3, v4, v5, v6, v7, v8, v9, v10, v11] 192 (0, 0))) (hp : tmps[0]?.getD undef = .pointer (some ⟨b, 0, none⟩)) :
    (results Tryz.f100 tmps).run Tryz.prog W = .ok (.agg #[v0, v1, v2, v3, v4, v5, v6, v7, v8, v9, v10, v11]) W := by
  have h0 := cell_laid (i := 0) (v := v0) h rfl
  have h1 := cell_laid (i := 1) (v := v1) h rfl
  have h2 := cell_laid (i := 2) (v := v2) h rfl
  have h3 := cell_laid (i := 3) (v := v3) h rfl
  have h4 := cell_laid (i := 4) (v := v4) h rfl
  have h5 := cell_laid (i := 5) (v := v5) h rfl
  have h6 := cell_laid (i := 6) (v := v6) h rfl
  have h7 := cell_laid (i := 7) (v := v7) h rfl
  have h8 := cell_laid (i := 8) (v := v8) h rfl
  have h9 := cell_laid (i := 9) (v := v9) h rfl
  have h10 := cell_laid (i := 10) (v := v10) h rfl
  have h11 := cell_laid (i := 11) (v := v11) h rfl
  simp [results, Tryz.results100, go_sem, hp, h0, h1, h2, h3, h4, h5, h6, h7, h8, h9, h10, h11]
def seekV : Value := .agg #[.func (.func 122) #[] #[], .func (.func 123) #[] #[], .func (.func 124) #[] #[], .func (.func 125) #[] #[], .func (.func 127) #[] #[], .func (.func 128) #[] #[], .func (.func 129) #[] #[], .func (.func 130) #[] #[], .nilFunc, .nilFunc, .nilFunc, .nilFunc]
set_option maxRecDepth 100000 in
set_option maxHeartbeats 2000000 in
theorem skg_any (V : World) : Calls Tryz.prog 100 #[] V (Ret seekV V) := by
  obtain ⟨V1, hV1, hb1, hs1, hl1⟩ := laid V #[.nilFunc, .nilFunc, .nilFunc, .nilFunc, .nilFunc, .nilFunc, .nilFunc, .nilFunc, .nilFunc, .nilFunc, .nilFunc, .nilFunc] 192
  obtain ⟨Y, hY⟩ : ∃ Y, V.heap.size = Y := ⟨_, rfl⟩
  have hYY : V.heap.size ≤ Y := by omega
  rw [hY] at hl1
  obtain ⟨V2, hV2, hl2, hb2⟩ := put12 hl1 (.func (.func 122) #[] #[]) (.func (.func 123) #[] #[]) (.func (.func 124) #[] #[]) (.func (.func 125) #[] #[]) (.func (.func 127) #[] #[]) (.func (.func 128) #[] #[]) (.func (.func 129) #[] #[]) (.func (.func 130) #[] #[]) (.nilFunc) (.nilFunc) (.nilFunc) (.nilFunc)
  have HL2 := hid hl2
  have HB2 := hid (hb2 _ _ hYY hb1)
  have f0 := free_laid (i := 0) hl1
  have c0 := cell_laid (i := 0) hl1 rfl
  have f1 := free_laid (i := 1) hl1
  have c1 := cell_laid (i := 1) hl1 rfl
  have f2 := free_laid (i := 2) hl1
  have c2 := cell_laid (i := 2) hl1 rfl
  have f3 := free_laid (i := 3) hl1
  have c3 := cell_laid (i := 3) hl1 rfl
  have f4 := free_laid (i := 4) hl1
  have c4 := cell_laid (i := 4) hl1 rfl
  have f5 := free_laid (i := 5) hl1
  have c5 := cell_laid (i := 5) hl1 rfl
  have f6 := free_laid (i := 6) hl1
  have c6 := cell_laid (i := 6) hl1 rfl
  have f7 := free_laid (i := 7) hl1
  have c7 := cell_laid (i := 7) hl1 rfl
  have f8 := free_laid (i := 8) hl1
  have c8 := cell_laid (i := 8) hl1 rfl
  have f9 := free_laid (i := 9) hl1
  have c9 := cell_laid (i := 9) hl1 rfl
  have f10 := free_laid (i := 10) hl1
  have c10 := cell_laid (i := 10) hl1 rfl
  have f11 := free_laid (i := 11) hl1
  have c11 := cell_laid (i := 11) hl1 rfl
  have HV2 := hid hV2
  clear hl1 hs1 hl2 hb2 hV2 hb1 hYY
  go_enter Tryz.func100, Tryz.ntmps100
  go_wp2
  rw [← HV2.out]
  refine bodyPost_ret (skg_result HL2.out rfl) rfl ?_
  exact ⟨rfl, HB2.out⟩
theorem edg_result {W : World} {b : Nat} {v0 v1 v2 v3 v4 v5 v6 v7 v8 v9 v10 v11 v12 v13 v14 v15 : Value} {tmps : Array Value} (h : W.heap[b]? = some (.cells #[v0, v1, v2, v3, v4, v5, v6, v7, v8, v9, v10, v11, v12, v13, v14, v15] 167 (0, 0))) (hp : tmps[0]?.getD undef = .pointer (some ⟨b, 0, none⟩)) :
    (results Tryz.f89 tmps).run Tryz.prog W = .ok (.agg #[v0, v1, v2, v3, v4, v5, v6, v7, v8, v9, v10, v11, v12, v13, v14, v15]) W := by
  have h0 := cell_laid (i := 0) (v := v0) h rfl
  have h1 := cell_laid (i := 1) (v := v1) h rfl
  have h2 := cell_laid (i := 2) (v := v2) h rfl
  have h3 := cell_laid (i := 3) (v := v3) h rfl
  have h4 := cell_laid (i := 4) (v := v4) h rfl
  have h5 := cell_laid (i := 5) (v := v5) h rfl
  have h6 := cell_laid (i := 6) (v := v6) h rfl
  have h7 := cell_laid (i := 7) (v := v7) h rfl
  have h8 := cell_laid (i := 8) (v := v8) h rfl
  have h9 := cell_laid (i := 9) (v := v9) h rfl
  have h10 := cell_laid (i := 10) (v := v10) h rfl
  have h11 := cell_laid (i := 11) (v := v11) h rfl
  have h12 := cell_laid (i := 12) (v := v12) h rfl
  have h13 := cell_laid (i := 13) (v := v13) h rfl
  have h14 := cell_laid (i := 14) (v := v14) h rfl
  have h15 := cell_laid (i := 15) (v := v15) h rfl
  simp [results, Tryz.results89, go_sem, hp, h0, h1, h2, h3, h4, h5, h6, h7, h8, h9, h10, h11, h12, h13, h14, h15]
def editV : Value := .agg #[.func (.func 105) #[] #[], .int .i64 1, .func (.func 107) #[] #[], .int .i64 2, .func (.func 108) #[] #[], .int .i64 3, .func (.func 109) #[] #[], .int .i64 5, .func (.func 110) #[] #[], .int .i64 5, .func (.func 112) #[] #[], .int .i64 6, .nilFunc, .int .i64 0, .nilFunc, .int .i64 0]
set_option maxRecDepth 100000 in
set_option maxHeartbeats 2000000 in
theorem edg_any (V : World) : Calls Tryz.prog 89 #[] V (Ret editV V) := by
  obtain ⟨V1, hV1, hb1, hs1, hl1⟩ := laid V #[.nilFunc, .int .i64 0, .nilFunc, .int .i64 0, .nilFunc, .int .i64 0, .nilFunc, .int .i64 0, .nilFunc, .int .i64 0, .nilFunc, .int .i64 0, .nilFunc, .int .i64 0, .nilFunc, .int .i64 0] 167
  obtain ⟨Y, hY⟩ : ∃ Y, V.heap.size = Y := ⟨_, rfl⟩
  have hYY : V.heap.size ≤ Y := by omega
  rw [hY] at hl1
  obtain ⟨V2, hV2, hl2, hb2⟩ := put16 hl1 (.func (.func 105) #[] #[]) (.int .i64 1) (.func (.func 107) #[] #[]) (.int .i64 2) (.func (.func 108) #[] #[]) (.int .i64 3) (.func (.func 109) #[] #[]) (.int .i64 5) (.func (.func 110) #[] #[]) (.int .i64 5) (.func (.func 112) #[] #[]) (.int .i64 6) (.nilFunc) (.int .i64 0) (.nilFunc) (.int .i64 0)
  have HL2 := hid hl2
  have HB2 := hid (hb2 _ _ hYY hb1)
  have f0 := free_laid (i := 0) hl1
  have c0 := cell_laid (i := 0) hl1 rfl
  have f1 := free_laid (i := 1) hl1
  have c1 := cell_laid (i := 1) hl1 rfl
  have f2 := free_laid (i := 2) hl1
  have c2 := cell_laid (i := 2) hl1 rfl
  have f3 := free_laid (i := 3) hl1
  have c3 := cell_laid (i := 3) hl1 rfl
  have f4 := free_laid (i := 4) hl1
  have c4 := cell_laid (i := 4) hl1 rfl
  have f5 := free_laid (i := 5) hl1
  have c5 := cell_laid (i := 5) hl1 rfl
  have f6 := free_laid (i := 6) hl1
  have c6 := cell_laid (i := 6) hl1 rfl
  have f7 := free_laid (i := 7) hl1
  have c7 := cell_laid (i := 7) hl1 rfl
  have f8 := free_laid (i := 8) hl1
  have c8 := cell_laid (i := 8) hl1 rfl
  have f9 := free_laid (i := 9) hl1
  have c9 := cell_laid (i := 9) hl1 rfl
  have f10 := free_laid (i := 10) hl1
  have c10 := cell_laid (i := 10) hl1 rfl
  have f11 := free_laid (i := 11) hl1
  have c11 := cell_laid (i := 11) hl1 rfl
  have f12 := free_laid (i := 12) hl1
  have c12 := cell_laid (i := 12) hl1 rfl
  have f13 := free_laid (i := 13) hl1
  have c13 := cell_laid (i := 13) hl1 rfl
  have f14 := free_laid (i := 14) hl1
  have c14 := cell_laid (i := 14) hl1 rfl
  have f15 := free_laid (i := 15) hl1
  have c15 := cell_laid (i := 15) hl1 rfl
  have HV2 := hid hV2
  clear hl1 hs1 hl2 hb2 hV2 hb1 hYY
  go_enter Tryz.func89, Tryz.ntmps89
  go_wp2
  rw [← HV2.out]
  refine bodyPost_ret (edg_result HL2.out rfl) rfl ?_
  exact ⟨rfl, HB2.out⟩
theorem skg_at0 (W : World) : (Instr.index 192 seekV (.int .i64 0)).run Tryz.prog W = .ok (.agg #[.func (.func 122) #[] #[], .func (.func 123) #[] #[]]) W := by kernel_rfl
theorem skg_at1 (W : World) : (Instr.index 192 seekV (.int .i64 1)).run Tryz.prog W = .ok (.agg #[.func (.func 124) #[] #[], .func (.func 125) #[] #[]]) W := by kernel_rfl
theorem skg_at2 (W : World) : (Instr.index 192 seekV (.int .i64 2)).run Tryz.prog W = .ok (.agg #[.func (.func 127) #[] #[], .func (.func 128) #[] #[]]) W := by kernel_rfl
theorem skg_at3 (W : World) : (Instr.index 192 seekV (.int .i64 3)).run Tryz.prog W = .ok (.agg #[.func (.func 129) #[] #[], .func (.func 130) #[] #[]]) W := by kernel_rfl
theorem skg_at4 (W : World) : (Instr.index 192 seekV (.int .i64 4)).run Tryz.prog W = .ok (.agg #[.nilFunc, .nilFunc]) W := by kernel_rfl
theorem skg_at5 (W : World) : (Instr.index 192 seekV (.int .i64 5)).run Tryz.prog W = .ok (.agg #[.nilFunc, .nilFunc]) W := by kernel_rfl
theorem edg_at0 (W : World) : (Instr.index 167 editV (.int .i64 0)).run Tryz.prog W = .ok (.agg #[.func (.func 105) #[] #[], .int .i64 1]) W := by kernel_rfl
theorem edg_at1 (W : World) : (Instr.index 167 editV (.int .i64 1)).run Tryz.prog W = .ok (.agg #[.func (.func 107) #[] #[], .int .i64 2]) W := by kernel_rfl
theorem edg_at2 (W : World) : (Instr.index 167 editV (.int .i64 2)).run Tryz.prog W = .ok (.agg #[.func (.func 108) #[] #[], .int .i64 3]) W := by kernel_rfl
theorem edg_at3 (W : World) : (Instr.index 167 editV (.int .i64 3)).run Tryz.prog W = .ok (.agg #[.func (.func 109) #[] #[], .int .i64 5]) W := by kernel_rfl
theorem edg_at4 (W : World) : (Instr.index 167 editV (.int .i64 4)).run Tryz.prog W = .ok (.agg #[.func (.func 110) #[] #[], .int .i64 5]) W := by kernel_rfl
theorem edg_at5 (W : World) : (Instr.index 167 editV (.int .i64 5)).run Tryz.prog W = .ok (.agg #[.func (.func 112) #[] #[], .int .i64 6]) W := by kernel_rfl
theorem edg_at6 (W : World) : (Instr.index 167 editV (.int .i64 6)).run Tryz.prog W = .ok (.agg #[.nilFunc, .int .i64 0]) W := by kernel_rfl
theorem edg_at7 (W : World) : (Instr.index 167 editV (.int .i64 7)).run Tryz.prog W = .ok (.agg #[.nilFunc, .int .i64 0]) W := by kernel_rfl
end Go.Proofs.YtahicokokfcieaaGreatDoor
namespace Go.Proofs.YtahicokokfcieaaGreatDoor
open Go.RowKit
open Go.Proofs
set_option linter.unusedVariables false
attribute [local go_sem] Oper.semAt_some
/-- Worlds in which two variables lie so. -/
structure RXS (X S : Nat) (cs cs' : Array Value) where
  w : World
  bx : w.heap[X]? = some (.cells cs 191 (0, 0))
  bs : w.heap[S]? = some (.cells cs' 41 (0, 0))
/-- A step of who seeks: the memory, who seeks, whether there was one. -/
def seekE (M : Mem) (s : Sk) : Mem × Sk × Bool := if 4 ≤ s.ph then (M, s, false) else
  ((stepM M false ((needS s s.ph.toNat : Nat) : Int) 0).1, if (stepM M false ((needS s s.ph.toNat : Nat) : Int) 0).2.2 = true then thenS s (stepM M false ((needS s s.ph.toNat : Nat) : Int) 0).2.1 s.ph.toNat else { s with ph := 5 }, true)
theorem eq_fn (f : Nat) (w : World) : (binOp BinOp.eql 188 (.func (.func f) #[] #[]) .nilFunc).run Tryz.prog w = .ok (.bool false) w := by kernel_rfl
theorem eq_nil (w : World) : (binOp BinOp.eql 188 .nilFunc .nilFunc).run Tryz.prog w = .ok (.bool true) w := by kernel_rfl
def GivesSk (B R S n : Nat) (X : Mem × Sk × Bool) (V : World) (e : Ending) (W : World) : Prop := e = .returned (.bool X.2.2) ∧ RunC B R X.1 (if X.2.2 = true then n + 1 else n) W ∧ W.heap[S]? = some (.cells (sk7 X.2.1) 41 (0, 0)) ∧ Tch (fun k => k = R ∨ k = S) V W
theorem needS_le {s : Sk} : ∀ k, k < 4 → needS s k ≤ 5000
  | 0, _ => by show min _ 4096 + _ ≤ 5000; omega
  | 1, _ => by show min _ 4096 + _ ≤ 5000; omega
  | 2, _ => by show min _ 4096 + _ ≤ 5000; omega
  | 3, _ => by show min _ 4096 + _ ≤ 5000; omega
set_option maxRecDepth 100000 in
set_option maxHeartbeats 8000000 in
theorem seekk_any (k fn ft : Nat) (hk : k < 4) (ix : ∀ W, (Instr.index 192 seekV (.int .i64 ((k : Nat) : Int))).run Tryz.prog W = .ok (.agg #[.func (.func fn) #[] #[], .func (.func ft) #[] #[]]) W) (hcf : ∀ (a : Array Value) (w : World), (callFunc fn a).run Tryz.prog w = .ok (.enter fn a) w) (hct : ∀ (a : Array Value) (w : World), (callFunc ft a).run Tryz.prog w = .ok (.enter ft a) w) (B R S : Nat) (M : Mem) (n : Nat) (s : Sk) (V : World) (hnd : ∀ W, Calls Tryz.prog fn #[skV s] W (Ret (.int .i64 ((needS s k : Nat) : Int)) W)) (hth : ∀ (x : Nat) (W : World), W.heap[S]? = some (.cells (sk7 s) 41 (0, 0)) → Calls Tryz.prog ft #[.pointer (some ⟨S, 0, none⟩), .int .u64 ((x : Nat) : Int)] W (GivesT S (thenS s x k) W)) (h : RunC B R M n V) (hS : V.heap[S]? = some (.cells (sk7 s) 41 (0, 0))) (hB : B ≤ V.heap.size) (hok : okM M = true) (hs : s.Ok) (hph : s.ph = ((k : Nat) : Int)) (hn : n ≤ 1000000) :
    Calls Tryz.prog 101 #[.pointer (some ⟨R, 0, none⟩), .pointer (some ⟨S, 0, none⟩)] V (GivesSk B R S n (seekE M s) V) := by
  obtain ⟨ph, hash, key, link, node, val, found⟩ := s
  obtain rfl : ph = ((k : Nat) : Int) := hph
  have HR := hid h
  have HS := hid hS
  have HSK := hid hs
  obtain ⟨TB, hTB⟩ : ∃ T, seekV = T := ⟨_, rfl⟩
  have HTB := hid hTB
  have HSG : Hid (∀ W, Calls Tryz.prog 100 #[] W (Ret TB W)) := hid (fun W => by rw [← hTB]; exact skg_any W)
  rw [hTB] at ix
  have r0 : ∀ z : Ext V, z.v.cell? ⟨S, 0, none⟩ = some (.int .i64 ((k : Nat) : Int)) := fun z => cell_laid (keep_laid HS.out z.b) rfl
  have r1 : ∀ z : Ext V, z.v.cell? ⟨S, 1, none⟩ = some (.int .u64 ((hash : Nat) : Int)) := fun z => cell_laid (keep_laid HS.out z.b) rfl
  have r2 : ∀ z : Ext V, z.v.cell? ⟨S, 2, none⟩ = some (.int .u64 ((key : Nat) : Int)) := fun z => cell_laid (keep_laid HS.out z.b) rfl
  have r3 : ∀ z : Ext V, z.v.cell? ⟨S, 3, none⟩ = some (.int .u64 ((link : Nat) : Int)) := fun z => cell_laid (keep_laid HS.out z.b) rfl
  have r4 : ∀ z : Ext V, z.v.cell? ⟨S, 4, none⟩ = some (.int .u64 ((node : Nat) : Int)) := fun z => cell_laid (keep_laid HS.out z.b) rfl
  have r5 : ∀ z : Ext V, z.v.cell? ⟨S, 5, none⟩ = some (.int .u64 ((val : Nat) : Int)) := fun z => cell_laid (keep_laid HS.out z.b) rfl
  have r6 : ∀ z : Ext V, z.v.cell? ⟨S, 6, none⟩ = some (.bool found) := fun z => cell_laid (keep_laid HS.out z.b) rfl
  obtain ⟨D, hD⟩ : ∃ DX, V.drew = DX := ⟨_, rfl⟩
  have hbD : Below V.heap.size V D := by rw [← hD]; exact (Below.refl _ _).drew
  have HD := hid hD
  have HBD := hid hbD
  have HOK := hid hok
  clear h hS hD hbD hTB hs hok
  go_enter Tryz.func101, Tryz.ntmps101
  go_upto_region 1 with (fail)
  go_cut [5] (fun t5 W => ∃ X : Nat, t5 = .pointer (some ⟨X, 0, none⟩) ∧ Hid (W.heap[X]? = some (.cells #[.func (.func fn) #[] #[], .func (.func ft) #[] #[]] 191 (0, 0)) ∧ Below V.heap.size V W))
  case first =>
    refine wp_region_mix2 (fun W => ∃ z : Ext V, W = z.v) 8 (.q 1 (.q 2 (.q 3 (.q 4 (.h2 0 (.q 5 (.h 6 (.h 7 .done))) 6 (.h 0 (.q 5 (.h 7 .done)))))))) (by kernel_rfl) (by kernel_rfl) (by rw [HD.out]; exact ⟨⟨D, HBD.out⟩, rfl⟩) ?_
    rw [HD.out]
    repeat (refine wpMix2_q rfl rfl ?_; go_big_quiet_step (fail); refine wpQuiet_nil ?_)
    refine wpMix2_h2 ?_ ?_
    · skip
      refine wpMix2_h rfl fun R' hR' hO => ?_
      go_wp2_with fail
      refine (HSG.out D).mono ?_
      rintro e wc_ ⟨rfl, hbc⟩
      have HBc := hid (HBD.out.trans (hbc.mono HBD.out.size))
      clear hbc
      go_wp2
      refine hR' _ _ ⟨⟨wc_, HBc.out⟩, rfl⟩ ?_
      clear hR' hO R'
      repeat (refine wpMix2_q rfl rfl ?_; go_big_quiet_step (fail); refine wpQuiet_nil ?_)
      have HBwc_ := HBc
      refine wpMix2_h rfl fun R' hR' hO => ?_
      obtain ⟨wa_, hwa_, hba, hsa, hla⟩ := laid wc_ #[.nilFunc, .nilFunc] 191
      obtain ⟨X, hX⟩ : ∃ X, wc_.heap.size = X := ⟨_, rfl⟩
      rw [hX] at hla
      have LX := hid (show V.heap.size ≤ X from by have := HBwc_.out.size; omega)
      have HBa := hid (HBwc_.out.trans (hba.mono HBwc_.out.size))
      have HXa := hid hla
      clear hba hsa hla
      go_wp2
      refine hR' _ _ ⟨⟨wa_, HBa.out⟩, rfl⟩ ?_
      clear hR' hO R'
      have HBwa_ := HBa
      have x0 := cell_laid (i := 0) HXa.out rfl
      have xf0 := free_laid (i := 0) HXa.out
      have x1 := cell_laid (i := 1) HXa.out rfl
      have xf1 := free_laid (i := 1) HXa.out
      obtain ⟨u1, hu1⟩ : ∃ U, (wa_.setCell ⟨X, 0, none⟩ (.func (.func fn) #[] #[])).setCell ⟨X, 1, none⟩ (.func (.func ft) #[] #[]) = U := ⟨_, rfl⟩
      have HXu : Hid (u1.heap[X]? = some (.cells #[.func (.func fn) #[] #[], .func (.func ft) #[] #[]] 191 (0, 0))) := hid (by rw [← hu1]; exact set_laid (i := 1) (set_laid (i := 0) HXa.out _) _)
      have HBu : Hid (Below V.heap.size V u1) := hid (by rw [← hu1]; exact (HBwa_.out.setCell (by exact LX.out) _).setCell (by exact LX.out) _)
      have HU1 := hid hu1
      clear hu1
      refine wpMix2_h rfl fun R' hR' hO => ?_
      go_wp2
      rw [HU1.out]
      refine hR' _ _ ⟨⟨u1, HBu.out⟩, rfl⟩ ?_
      clear hR' hO R' x0 xf0 x1 xf1
      refine wpMix2_done ?_
      simp only [List.drop_succ_cons, List.drop_nil]
      go_wp2
      go_meet
      exact ⟨X, rfl, hid ⟨HXu.out, HBu.out⟩⟩
    · skip
      refine wpMix2_h rfl fun R' hR' hO => ?_
      obtain ⟨wa_, hwa_, hba, hsa, hla⟩ := laid D #[.nilFunc, .nilFunc] 191
      obtain ⟨X, hX⟩ : ∃ X, D.heap.size = X := ⟨_, rfl⟩
      rw [hX] at hla
      have LX := hid (show V.heap.size ≤ X from by have := HBD.out.size; omega)
      have HBa := hid (HBD.out.trans (hba.mono HBD.out.size))
      have HXa := hid hla
      clear hba hsa hla
      go_wp2
      refine hR' _ _ ⟨⟨wa_, HBa.out⟩, rfl⟩ ?_
      clear hR' hO R'
      have HBwa_ := HBa
      refine wpMix2_h rfl fun R' hR' hO => ?_
      go_wp2_with fail
      refine (HSG.out wa_).mono ?_
      rintro e wc_ ⟨rfl, hbc⟩
      have HBc := hid (HBwa_.out.trans (hbc.mono HBwa_.out.size))
      have HXc := hid (keep_laid HXa.out hbc)
      clear hbc
      go_wp2
      refine hR' _ _ ⟨⟨wc_, HBc.out⟩, rfl⟩ ?_
      clear hR' hO R'
      repeat (refine wpMix2_q rfl rfl ?_; go_big_quiet_step (fail); refine wpQuiet_nil ?_)
      have HBwc_ := HBc
      have x0 := cell_laid (i := 0) HXc.out rfl
      have xf0 := free_laid (i := 0) HXc.out
      have x1 := cell_laid (i := 1) HXc.out rfl
      have xf1 := free_laid (i := 1) HXc.out
      obtain ⟨u1, hu1⟩ : ∃ U, (wc_.setCell ⟨X, 0, none⟩ (.func (.func fn) #[] #[])).setCell ⟨X, 1, none⟩ (.func (.func ft) #[] #[]) = U := ⟨_, rfl⟩
      have HXu : Hid (u1.heap[X]? = some (.cells #[.func (.func fn) #[] #[], .func (.func ft) #[] #[]] 191 (0, 0))) := hid (by rw [← hu1]; exact set_laid (i := 1) (set_laid (i := 0) HXc.out _) _)
      have HBu : Hid (Below V.heap.size V u1) := hid (by rw [← hu1]; exact (HBwc_.out.setCell (by exact LX.out) _).setCell (by exact LX.out) _)
      have HU1 := hid hu1
      clear hu1
      refine wpMix2_h rfl fun R' hR' hO => ?_
      go_wp2
      rw [HU1.out]
      refine hR' _ _ ⟨⟨u1, HBu.out⟩, rfl⟩ ?_
      clear hR' hO R' x0 xf0 x1 xf1
      refine wpMix2_done ?_
      simp only [List.drop_succ_cons, List.drop_nil]
      go_wp2
      go_meet
      exact ⟨X, rfl, hid ⟨HXu.out, HBu.out⟩⟩
  case rest =>
    obtain ⟨X, rfl, hcc⟩ := hcut
    obtain ⟨w1, hw1⟩ : ∃ W, W = wc := ⟨_, rfl⟩
    subst hw1
    have HX := hid hcc.out.1
    have HR1 := hid (HR.out.grow hcc.out.2)
    have HS1 := hid (keep_laid HS.out hcc.out.2)
    have HT1 := hid (Tch.of_below (P := fun k => k = R ∨ k = S) hcc.out.2)
    have hBw : B ≤ w1.heap.size := Nat.le_trans hB hcc.out.2.size
    have x0 := cell_laid (i := 0) HX.out rfl
    have q1 := eq_fn
    clear hcc
    go_upto_region 4 with (fail)
    obtain ⟨ps, hps⟩ : ∃ q, needS ⟨((k : Nat) : Int), hash, key, link, node, val, found⟩ k = q := ⟨_, rfl⟩
    obtain ⟨⟨M', x, d⟩, hX⟩ : ∃ X, stepM M false ((ps : Nat) : Int) 0 = X := ⟨_, rfl⟩
    have HSE : Hid (seekE M ⟨((k : Nat) : Int), hash, key, link, node, val, found⟩ = (M', (if d = true then thenS ⟨((k : Nat) : Int), hash, key, link, node, val, found⟩ x k else { (⟨((k : Nat) : Int), hash, key, link, node, val, found⟩ : Sk) with ph := 5 }), true)) := hid (by
      unfold seekE
      rw [if_neg (by dsimp only; omega)]
      dsimp only
      rw [Int.toNat_natCast, hps, hX])
    have HAC : Hid (∀ W, RunC B R M n W → B ≤ W.heap.size → Calls Tryz.prog 113 #[.pointer (some ⟨R, 0, none⟩), .agg #[.int .i64 1, .int .i64 ((ps : Nat) : Int), .int .u64 0, .int .u64 0]] W (GivesAc B R n (M', x, d) W)) := hid (fun W h1 h2 => by
      have e1 := needS_le (s := ⟨((k : Nat) : Int), hash, key, link, node, val, found⟩) k hk
      rw [hps] at e1
      have := access_any B R M n false 1 ((ps : Nat) : Int) 0 W h1 h2 HOK.out (by omega) rfl hn
      rw [hX] at this
      exact this)
    obtain ⟨D2, hD2⟩ : ∃ DX, w1.drew = DX := ⟨_, rfl⟩
    have hbD : Below w1.heap.size w1 D2 := by rw [← hD2]; exact (Below.refl _ _).drew
    have HD2 := hid hD2
    have HX2 := hid (keep_laid HX.out hbD)
    have HS2 := hid (keep_laid HS1.out hbD)
    have HR2 := hid (HR1.out.grow hbD)
    have HT2 := hid (HT1.out.trans (Tch.of_below hbD))
    have hB2 := Nat.le_trans hBw hbD.size
    have HND := hid (hnd D2)
    unfold skV at HND
    rw [hps] at HND
    dsimp only at HND
    clear hnd hps
    clear hD2 hbD hX x0 q1
    haveI : Nonempty (RXS X S #[.func (.func fn) #[] #[], .func (.func ft) #[] #[]] (sk7 ⟨((k : Nat) : Int), hash, key, link, node, val, found⟩)) := ⟨⟨D2, HX2.out, HS2.out⟩⟩
    have x0 : ∀ z : RXS X S #[.func (.func fn) #[] #[], .func (.func ft) #[] #[]] (sk7 ⟨((k : Nat) : Int), hash, key, link, node, val, found⟩), z.w.cell? ⟨X, 0, none⟩ = some (.func (.func fn) #[] #[]) := fun z => cell_laid z.bx rfl
    have s0 : ∀ z : RXS X S #[.func (.func fn) #[] #[], .func (.func ft) #[] #[]] (sk7 ⟨((k : Nat) : Int), hash, key, link, node, val, found⟩), z.w.cell? ⟨S, 0, none⟩ = some (.int .i64 ((k : Nat) : Int)) := fun z => cell_laid z.bs rfl
    have s1 : ∀ z : RXS X S #[.func (.func fn) #[] #[], .func (.func ft) #[] #[]] (sk7 ⟨((k : Nat) : Int), hash, key, link, node, val, found⟩), z.w.cell? ⟨S, 1, none⟩ = some (.int .u64 ((hash : Nat) : Int)) := fun z => cell_laid z.bs rfl
    have s2 : ∀ z : RXS X S #[.func (.func fn) #[] #[], .func (.func ft) #[] #[]] (sk7 ⟨((k : Nat) : Int), hash, key, link, node, val, found⟩), z.w.cell? ⟨S, 2, none⟩ = some (.int .u64 ((key : Nat) : Int)) := fun z => cell_laid z.bs rfl
    have s3 : ∀ z : RXS X S #[.func (.func fn) #[] #[], .func (.func ft) #[] #[]] (sk7 ⟨((k : Nat) : Int), hash, key, link, node, val, found⟩), z.w.cell? ⟨S, 3, none⟩ = some (.int .u64 ((link : Nat) : Int)) := fun z => cell_laid z.bs rfl
    have s4 : ∀ z : RXS X S #[.func (.func fn) #[] #[], .func (.func ft) #[] #[]] (sk7 ⟨((k : Nat) : Int), hash, key, link, node, val, found⟩), z.w.cell? ⟨S, 4, none⟩ = some (.int .u64 ((node : Nat) : Int)) := fun z => cell_laid z.bs rfl
    have s5 : ∀ z : RXS X S #[.func (.func fn) #[] #[], .func (.func ft) #[] #[]] (sk7 ⟨((k : Nat) : Int), hash, key, link, node, val, found⟩), z.w.cell? ⟨S, 5, none⟩ = some (.int .u64 ((val : Nat) : Int)) := fun z => cell_laid z.bs rfl
    have s6 : ∀ z : RXS X S #[.func (.func fn) #[] #[], .func (.func ft) #[] #[]] (sk7 ⟨((k : Nat) : Int), hash, key, link, node, val, found⟩), z.w.cell? ⟨S, 6, none⟩ = some (.bool found) := fun z => cell_laid z.bs rfl
    refine wp_region_mix2 (fun W => ∃ z : RXS X S #[.func (.func fn) #[] #[], .func (.func ft) #[] #[]] (sk7 ⟨((k : Nat) : Int), hash, key, link, node, val, found⟩), W = z.w) 14 (.q 0 (.q 1 (.q 2 (.q 3 (.q 4 (.q 5 (.h 6 (.q 7 (.h 8 (.q 9 (.q 10 (.q 11 (.q 12 (.q 13 .done)))))))))))))) (by kernel_rfl) (by kernel_rfl) (by rw [HD2.out]; exact ⟨⟨D2, HX2.out, HS2.out⟩, rfl⟩) ?_
    rw [HD2.out]
    repeat (refine wpMix2_q rfl rfl ?_; go_big_quiet_step (fail); refine wpQuiet_nil ?_)
    refine wpMix2_h rfl fun R' hR' hO => ?_
    go_wp2_with fail
    refine HND.out.mono ?_
    rintro e v1 ⟨rfl, hb⟩
    have HX3 := hid (keep_laid HX2.out hb)
    have HS3 := hid (keep_laid HS2.out hb)
    have HR3 := hid (HR2.out.grow hb)
    have HT3 := hid (HT2.out.trans (Tch.of_below hb))
    have hB3 := Nat.le_trans hB2 hb.size
    clear hb
    go_wp2
    refine hR' _ _ ⟨⟨v1, HX3.out, HS3.out⟩, rfl⟩ ?_
    clear hR' hO R'
    repeat (refine wpMix2_q rfl rfl ?_; go_big_quiet_step (fail); refine wpQuiet_nil ?_)
    refine wpMix2_h rfl fun R' hR' hO => ?_
    go_wp2_with fail
    refine (HAC.out v1 HR3.out hB3).mono ?_
    rintro e v2 ⟨rfl, hr4, ht4⟩
    have hRX : X ≠ R := by obtain ⟨_, _, _, _, k, _⟩ := HR3.out; exact type_ne HX3.out k (by decide)
    have hRS : S ≠ R := by obtain ⟨_, _, _, _, k, _⟩ := HR3.out; exact type_ne HS3.out k (by decide)
    have HX4 := hid (ht4.keep HX3.out hRX)
    have HS4 := hid (ht4.keep HS3.out hRS)
    have HR4 := hid hr4
    have HT4 := hid (HT3.out.trans (ht4.mono fun k h => .inl h))
    clear hr4 ht4
    go_wp2
    refine hR' _ _ ⟨⟨v2, HX4.out, HS4.out⟩, rfl⟩ ?_
    clear hR' hO R'
    repeat (refine wpMix2_q rfl rfl ?_; go_big_quiet_step (fail); refine wpQuiet_nil ?_)
    refine wpMix2_done ?_
    simp only [List.drop_succ_cons, List.drop_nil]
    clear x0 s0 s1 s2 s3 s4 s5 s6
    cases d with
    | true =>
      have x1 := cell_laid (i := 1) HX4.out rfl
      have HTH := hid (hth x v2 HS4.out)
      go_wp2_with fail
      refine HTH.out.mono ?_
      rintro e v3 ⟨rfl, ht5, hs5⟩
      have HR5 := hid (HR4.out.tch ht5 HS4.out (by decide) (by decide) (by decide))
      have HT5 := hid (HT4.out.trans (ht5.mono fun k h => .inr h))
      have HS5 := hid hs5
      clear ht5 hs5 x1
      go_wp2
      go_ret
      rw [HSE.out, if_pos (by trivial)]
      exact ⟨rfl, HR5.out, HS5.out, HT5.out⟩
    | false =>
      have y0 := cell_laid (i := 0) HS4.out rfl
      have yf0 := free_laid (i := 0) HS4.out
      go_wp2
      go_ret
      rw [HSE.out, if_neg (by simp)]
      exact ⟨rfl, HR4.out.tch (S := S) (Tch.set (P := fun k => k = S) rfl _) HS4.out (by decide) (by decide) (by decide), set_laid (i := 0) HS4.out (.int .i64 5), HT4.out.trans (Tch.set (P := fun k => k = R ∨ k = S) (.inr rfl) _)⟩
set_option maxRecDepth 100000 in
set_option maxHeartbeats 8000000 in
theorem seekn_any (k : Nat) (hk : 4 ≤ k) (ix : ∀ W, (Instr.index 192 seekV (.int .i64 ((k : Nat) : Int))).run Tryz.prog W = .ok (.agg #[.nilFunc, .nilFunc]) W) (B R S : Nat) (M : Mem) (n : Nat) (s : Sk) (V : World) (h : RunC B R M n V) (hS : V.heap[S]? = some (.cells (sk7 s) 41 (0, 0))) (hB : B ≤ V.heap.size) (hok : okM M = true) (hs : s.Ok) (hph : s.ph = ((k : Nat) : Int)) (hn : n ≤ 1000000) :
    Calls Tryz.prog 101 #[.pointer (some ⟨R, 0, none⟩), .pointer (some ⟨S, 0, none⟩)] V (GivesSk B R S n (seekE M s) V) := by
  obtain ⟨ph, hash, key, link, node, val, found⟩ := s
  obtain rfl : ph = ((k : Nat) : Int) := hph
  have HR := hid h
  have HS := hid hS
  have HSK := hid hs
  obtain ⟨TB, hTB⟩ : ∃ T, seekV = T := ⟨_, rfl⟩
  have HTB := hid hTB
  have HSG : Hid (∀ W, Calls Tryz.prog 100 #[] W (Ret TB W)) := hid (fun W => by rw [← hTB]; exact skg_any W)
  rw [hTB] at ix
  have r0 : ∀ z : Ext V, z.v.cell? ⟨S, 0, none⟩ = some (.int .i64 ((k : Nat) : Int)) := fun z => cell_laid (keep_laid HS.out z.b) rfl
  have r1 : ∀ z : Ext V, z.v.cell? ⟨S, 1, none⟩ = some (.int .u64 ((hash : Nat) : Int)) := fun z => cell_laid (keep_laid HS.out z.b) rfl
  have r2 : ∀ z : Ext V, z.v.cell? ⟨S, 2, none⟩ = some (.int .u64 ((key : Nat) : Int)) := fun z => cell_laid (keep_laid HS.out z.b) rfl
  have r3 : ∀ z : Ext V, z.v.cell? ⟨S, 3, none⟩ = some (.int .u64 ((link : Nat) : Int)) := fun z => cell_laid (keep_laid HS.out z.b) rfl
  have r4 : ∀ z : Ext V, z.v.cell? ⟨S, 4, none⟩ = some (.int .u64 ((node : Nat) : Int)) := fun z => cell_laid (keep_laid HS.out z.b) rfl
  have r5 : ∀ z : Ext V, z.v.cell? ⟨S, 5, none⟩ = some (.int .u64 ((val : Nat) : Int)) := fun z => cell_laid (keep_laid HS.out z.b) rfl
  have r6 : ∀ z : Ext V, z.v.cell? ⟨S, 6, none⟩ = some (.bool found) := fun z => cell_laid (keep_laid HS.out z.b) rfl
  obtain ⟨D, hD⟩ : ∃ DX, V.drew = DX := ⟨_, rfl⟩
  have hbD : Below V.heap.size V D := by rw [← hD]; exact (Below.refl _ _).drew
  have HD := hid hD
  have HBD := hid hbD
  clear h hS hD hbD hTB hs
  go_enter Tryz.func101, Tryz.ntmps101
  go_upto_region 1 with (fail)
  go_cut [5] (fun t5 W => ∃ X : Nat, t5 = .pointer (some ⟨X, 0, none⟩) ∧ Hid (W.heap[X]? = some (.cells #[.nilFunc, .nilFunc] 191 (0, 0)) ∧ Below V.heap.size V W))
  case first =>
    refine wp_region_mix2 (fun W => ∃ z : Ext V, W = z.v) 8 (.q 1 (.q 2 (.q 3 (.q 4 (.h2 0 (.q 5 (.h 6 (.h 7 .done))) 6 (.h 0 (.q 5 (.h 7 .done)))))))) (by kernel_rfl) (by kernel_rfl) (by rw [HD.out]; exact ⟨⟨D, HBD.out⟩, rfl⟩) ?_
    rw [HD.out]
    repeat (refine wpMix2_q rfl rfl ?_; go_big_quiet_step (fail); refine wpQuiet_nil ?_)
    refine wpMix2_h2 ?_ ?_
    · skip
      refine wpMix2_h rfl fun R' hR' hO => ?_
      go_wp2_with fail
      refine (HSG.out D).mono ?_
      rintro e wc_ ⟨rfl, hbc⟩
      have HBc := hid (HBD.out.trans (hbc.mono HBD.out.size))
      clear hbc
      go_wp2
      refine hR' _ _ ⟨⟨wc_, HBc.out⟩, rfl⟩ ?_
      clear hR' hO R'
      repeat (refine wpMix2_q rfl rfl ?_; go_big_quiet_step (fail); refine wpQuiet_nil ?_)
      have HBwc_ := HBc
      refine wpMix2_h rfl fun R' hR' hO => ?_
      obtain ⟨wa_, hwa_, hba, hsa, hla⟩ := laid wc_ #[.nilFunc, .nilFunc] 191
      obtain ⟨X, hX⟩ : ∃ X, wc_.heap.size = X := ⟨_, rfl⟩
      rw [hX] at hla
      have LX := hid (show V.heap.size ≤ X from by have := HBwc_.out.size; omega)
      have HBa := hid (HBwc_.out.trans (hba.mono HBwc_.out.size))
      have HXa := hid hla
      clear hba hsa hla
      go_wp2
      refine hR' _ _ ⟨⟨wa_, HBa.out⟩, rfl⟩ ?_
      clear hR' hO R'
      have HBwa_ := HBa
      have x0 := cell_laid (i := 0) HXa.out rfl
      have xf0 := free_laid (i := 0) HXa.out
      have x1 := cell_laid (i := 1) HXa.out rfl
      have xf1 := free_laid (i := 1) HXa.out
      obtain ⟨u1, hu1⟩ : ∃ U, (wa_.setCell ⟨X, 0, none⟩ (.nilFunc)).setCell ⟨X, 1, none⟩ (.nilFunc) = U := ⟨_, rfl⟩
      have HXu : Hid (u1.heap[X]? = some (.cells #[.nilFunc, .nilFunc] 191 (0, 0))) := hid (by rw [← hu1]; exact set_laid (i := 1) (set_laid (i := 0) HXa.out _) _)
      have HBu : Hid (Below V.heap.size V u1) := hid (by rw [← hu1]; exact (HBwa_.out.setCell (by exact LX.out) _).setCell (by exact LX.out) _)
      have HU1 := hid hu1
      clear hu1
      refine wpMix2_h rfl fun R' hR' hO => ?_
      go_wp2
      rw [HU1.out]
      refine hR' _ _ ⟨⟨u1, HBu.out⟩, rfl⟩ ?_
      clear hR' hO R' x0 xf0 x1 xf1
      refine wpMix2_done ?_
      simp only [List.drop_succ_cons, List.drop_nil]
      go_wp2
      go_meet
      exact ⟨X, rfl, hid ⟨HXu.out, HBu.out⟩⟩
    · skip
      refine wpMix2_h rfl fun R' hR' hO => ?_
      obtain ⟨wa_, hwa_, hba, hsa, hla⟩ := laid D #[.nilFunc, .nilFunc] 191
      obtain ⟨X, hX⟩ : ∃ X, D.heap.size = X := ⟨_, rfl⟩
      rw [hX] at hla
      have LX := hid (show V.heap.size ≤ X from by have := HBD.out.size; omega)
      have HBa := hid (HBD.out.trans (hba.mono HBD.out.size))
      have HXa := hid hla
      clear hba hsa hla
      go_wp2
      refine hR' _ _ ⟨⟨wa_, HBa.out⟩, rfl⟩ ?_
      clear hR' hO R'
      have HBwa_ := HBa
      refine wpMix2_h rfl fun R' hR' hO => ?_
      go_wp2_with fail
      refine (HSG.out wa_).mono ?_
      rintro e wc_ ⟨rfl, hbc⟩
      have HBc := hid (HBwa_.out.trans (hbc.mono HBwa_.out.size))
      have HXc := hid (keep_laid HXa.out hbc)
      clear hbc
      go_wp2
      refine hR' _ _ ⟨⟨wc_, HBc.out⟩, rfl⟩ ?_
      clear hR' hO R'
      repeat (refine wpMix2_q rfl rfl ?_; go_big_quiet_step (fail); refine wpQuiet_nil ?_)
      have HBwc_ := HBc
      have x0 := cell_laid (i := 0) HXc.out rfl
      have xf0 := free_laid (i := 0) HXc.out
      have x1 := cell_laid (i := 1) HXc.out rfl
      have xf1 := free_laid (i := 1) HXc.out
      obtain ⟨u1, hu1⟩ : ∃ U, (wc_.setCell ⟨X, 0, none⟩ (.nilFunc)).setCell ⟨X, 1, none⟩ (.nilFunc) = U := ⟨_, rfl⟩
      have HXu : Hid (u1.heap[X]? = some (.cells #[.nilFunc, .nilFunc] 191 (0, 0))) := hid (by rw [← hu1]; exact set_laid (i := 1) (set_laid (i := 0) HXc.out _) _)
      have HBu : Hid (Below V.heap.size V u1) := hid (by rw [← hu1]; exact (HBwc_.out.setCell (by exact LX.out) _).setCell (by exact LX.out) _)
      have HU1 := hid hu1
      clear hu1
      refine wpMix2_h rfl fun R' hR' hO => ?_
      go_wp2
      rw [HU1.out]
      refine hR' _ _ ⟨⟨u1, HBu.out⟩, rfl⟩ ?_
      clear hR' hO R' x0 xf0 x1 xf1
      refine wpMix2_done ?_
      simp only [List.drop_succ_cons, List.drop_nil]
      go_wp2
      go_meet
      exact ⟨X, rfl, hid ⟨HXu.out, HBu.out⟩⟩
  case rest =>
    obtain ⟨X, rfl, hcc⟩ := hcut
    obtain ⟨w1, hw1⟩ : ∃ W, W = wc := ⟨_, rfl⟩
    subst hw1
    have HX := hid hcc.out.1
    have HR1 := hid (HR.out.grow hcc.out.2)
    have HS1 := hid (keep_laid HS.out hcc.out.2)
    have HT1 := hid (Tch.of_below (P := fun k => k = R ∨ k = S) hcc.out.2)
    have hBw : B ≤ w1.heap.size := Nat.le_trans hB hcc.out.2.size
    have x0 := cell_laid (i := 0) HX.out rfl
    have q1 := eq_nil
    clear hcc
    go_wp2
    go_ret
    rw [show seekE M ⟨((k : Nat) : Int), hash, key, link, node, val, found⟩ = (M, ⟨((k : Nat) : Int), hash, key, link, node, val, found⟩, false) from by unfold seekE; rw [if_pos (by dsimp only; omega)]]
    exact ⟨rfl, HR1.out, HS1.out, HT1.out⟩
theorem seek_any (B R S : Nat) (M : Mem) (n : Nat) (s : Sk) (V : World) (h : RunC B R M n V) (hS : V.heap[S]? = some (.cells (sk7 s) 41 (0, 0))) (hB : B ≤ V.heap.size) (hok : okM M = true) (hs : s.Ok) (hp : 0 ≤ s.ph) (hp5 : s.ph ≤ 5) (hn : n ≤ 1000000) :
    Calls Tryz.prog 101 #[.pointer (some ⟨R, 0, none⟩), .pointer (some ⟨S, 0, none⟩)] V (GivesSk B R S n (seekE M s) V) := by
  rcases (show s.ph = 0 ∨ s.ph = 1 ∨ s.ph = 2 ∨ s.ph = 3 ∨ s.ph = 4 ∨ s.ph = 5 by omega) with e | e | e | e | e | e
  · exact seekk_any 0 122 123 (by decide) skg_at0 (fun _ _ => by kernel_rfl) (fun _ _ => by kernel_rfl) B R S M n s V (fun W => need0_any s W hs) (fun x W h' => then0_any s S x W h' hs) h hS hB hok hs e hn
  · exact seekk_any 1 124 125 (by decide) skg_at1 (fun _ _ => by kernel_rfl) (fun _ _ => by kernel_rfl) B R S M n s V (fun W => need1_any s W hs) (fun x W h' => then1_any s S x W h' hs) h hS hB hok hs e hn
  · exact seekk_any 2 127 128 (by decide) skg_at2 (fun _ _ => by kernel_rfl) (fun _ _ => by kernel_rfl) B R S M n s V (fun W => need2_any s W hs) (fun x W h' => then2_any s S x W h' hs) h hS hB hok hs e hn
  · exact seekk_any 3 129 130 (by decide) skg_at3 (fun _ _ => by kernel_rfl) (fun _ _ => by kernel_rfl) B R S M n s V (fun W => need3_any s W hs) (fun x W h' => then3_any s S x W h' hs) h hS hB hok hs e hn
  · exact seekn_any 4 (by decide) skg_at4 B R S M n s V h hS hB hok hs e hn
  · exact seekn_any 5 (by decide) skg_at5 B R S M n s V h hS hB hok hs e hn
end Go.Proofs.YtahicokokfcieaaGreatDoor
