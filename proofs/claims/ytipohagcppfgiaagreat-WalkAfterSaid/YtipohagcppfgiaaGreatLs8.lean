/- Lists (printed by gen_ls8.py): the tables of the phases. -/
import Derived.Test.YtipohagcppfgiaaGreatLs7
import Derived.Laws.EntriesVeiled
namespace Go.Proofs.YtipohagcppfgiaaGreat
open Go.RowKit
open Go.Proofs
set_option linter.unusedVariables false
attribute [local go_sem] Oper.semAt_some
theorem put12 {V : World} {Y : Nat} {z0 z1 z2 z3 z4 z5 z6 z7 z8 z9 z10 z11 : Value} {T : TypeId} (h : V.heap[Y]? = some (.cells #[z0, z1, z2, z3, z4, z5, z6, z7, z8, z9, z10, z11] T (0, 0))) (v0 v1 v2 v3 v4 v5 v6 v7 v8 v9 v10 v11 : Value) :
  ∃ V', V' = ((((((((((((V.setCell ⟨Y, 0, none⟩ v0).setCell ⟨Y, 1, none⟩ v1).setCell ⟨Y, 2, none⟩ v2).setCell ⟨Y, 3, none⟩ v3).setCell ⟨Y, 4, none⟩ v4).setCell ⟨Y, 5, none⟩ v5).setCell ⟨Y, 6, none⟩ v6).setCell ⟨Y, 7, none⟩ v7).setCell ⟨Y, 8, none⟩ v8).setCell ⟨Y, 9, none⟩ v9).setCell ⟨Y, 10, none⟩ v10).setCell ⟨Y, 11, none⟩ v11) ∧ V'.heap[Y]? = some (.cells #[v0, v1, v2, v3, v4, v5, v6, v7, v8, v9, v10, v11] T (0, 0)) ∧ ∀ (B : Nat) (w : World), B ≤ Y → Below B w V → Below B w V' := by
 obtain ⟨V0, hV0⟩ : ∃ W, V.setCell ⟨Y, 0, none⟩ v0 = W := ⟨_, rfl⟩
 have h0 : V0.heap[Y]? = some (.cells #[v0, z1, z2, z3, z4, z5, z6, z7, z8, z9, z10, z11] T (0, 0)) := by rw [← hV0]; exact slD (i := 0) h v0
 obtain ⟨V1, hV1⟩ : ∃ W, V0.setCell ⟨Y, 1, none⟩ v1 = W := ⟨_, rfl⟩
 have h1 : V1.heap[Y]? = some (.cells #[v0, v1, z2, z3, z4, z5, z6, z7, z8, z9, z10, z11] T (0, 0)) := by rw [← hV1]; exact slD (i := 1) h0 v1
 obtain ⟨V2, hV2⟩ : ∃ W, V1.setCell ⟨Y, 2, none⟩ v2 = W := ⟨_, rfl⟩
 have h2 : V2.heap[Y]? = some (.cells #[v0, v1, v2, z3, z4, z5, z6, z7, z8, z9, z10, z11] T (0, 0)) := by rw [← hV2]; exact slD (i := 2) h1 v2
 obtain ⟨V3, hV3⟩ : ∃ W, V2.setCell ⟨Y, 3, none⟩ v3 = W := ⟨_, rfl⟩
 have h3 : V3.heap[Y]? = some (.cells #[v0, v1, v2, v3, z4, z5, z6, z7, z8, z9, z10, z11] T (0, 0)) := by rw [← hV3]; exact slD (i := 3) h2 v3
 obtain ⟨V4, hV4⟩ : ∃ W, V3.setCell ⟨Y, 4, none⟩ v4 = W := ⟨_, rfl⟩
 have h4 : V4.heap[Y]? = some (.cells #[v0, v1, v2, v3, v4, z5, z6, z7, z8, z9, z10, z11] T (0, 0)) := by rw [← hV4]; exact slD (i := 4) h3 v4
 obtain ⟨V5, hV5⟩ : ∃ W, V4.setCell ⟨Y, 5, none⟩ v5 = W := ⟨_, rfl⟩
 have h5 : V5.heap[Y]? = some (.cells #[v0, v1, v2, v3, v4, v5, z6, z7, z8, z9, z10, z11] T (0, 0)) := by rw [← hV5]; exact slD (i := 5) h4 v5
 obtain ⟨V6, hV6⟩ : ∃ W, V5.setCell ⟨Y, 6, none⟩ v6 = W := ⟨_, rfl⟩
 have h6 : V6.heap[Y]? = some (.cells #[v0, v1, v2, v3, v4, v5, v6, z7, z8, z9, z10, z11] T (0, 0)) := by rw [← hV6]; exact slD (i := 6) h5 v6
 obtain ⟨V7, hV7⟩ : ∃ W, V6.setCell ⟨Y, 7, none⟩ v7 = W := ⟨_, rfl⟩
 have h7 : V7.heap[Y]? = some (.cells #[v0, v1, v2, v3, v4, v5, v6, v7, z8, z9, z10, z11] T (0, 0)) := by rw [← hV7]; exact slD (i := 7) h6 v7
 obtain ⟨V8, hV8⟩ : ∃ W, V7.setCell ⟨Y, 8, none⟩ v8 = W := ⟨_, rfl⟩
 have h8 : V8.heap[Y]? = some (.cells #[v0, v1, v2, v3, v4, v5, v6, v7, v8, z9, z10, z11] T (0, 0)) := by rw [← hV8]; exact slD (i := 8) h7 v8
 obtain ⟨V9, hV9⟩ : ∃ W, V8.setCell ⟨Y, 9, none⟩ v9 = W := ⟨_, rfl⟩
 have h9 : V9.heap[Y]? = some (.cells #[v0, v1, v2, v3, v4, v5, v6, v7, v8, v9, z10, z11] T (0, 0)) := by rw [← hV9]; exact slD (i := 9) h8 v9
 obtain ⟨V10, hV10⟩ : ∃ W, V9.setCell ⟨Y, 10, none⟩ v10 = W := ⟨_, rfl⟩
 have h10 : V10.heap[Y]? = some (.cells #[v0, v1, v2, v3, v4, v5, v6, v7, v8, v9, v10, z11] T (0, 0)) := by rw [← hV10]; exact slD (i := 10) h9 v10
 obtain ⟨V11, hV11⟩ : ∃ W, V10.setCell ⟨Y, 11, none⟩ v11 = W := ⟨_, rfl⟩
 have h11 : V11.heap[Y]? = some (.cells #[v0, v1, v2, v3, v4, v5, v6, v7, v8, v9, v10, v11] T (0, 0)) := by rw [← hV11]; exact slD (i := 11) h10 v11
 refine ⟨V11, ?_, h11, fun B w hB hb => ?_⟩
 ·rw [← hV11, ← hV10, ← hV9, ← hV8, ← hV7, ← hV6, ← hV5, ← hV4, ← hV3, ← hV2, ← hV1, ← hV0]
 ·rw [← hV11, ← hV10, ← hV9, ← hV8, ← hV7, ← hV6, ← hV5, ← hV4, ← hV3, ← hV2, ← hV1, ← hV0]
  exact ((((((((((((hb.setCell hB _).setCell hB _).setCell hB _).setCell hB _).setCell hB _).setCell hB _).setCell hB _).setCell hB _).setCell hB _).setCell hB _).setCell hB _).setCell hB _)
theorem put16 {V : World} {Y : Nat} {z0 z1 z2 z3 z4 z5 z6 z7 z8 z9 z10 z11 z12 z13 z14 z15 : Value} {T : TypeId} (h : V.heap[Y]? = some (.cells #[z0, z1, z2, z3, z4, z5, z6, z7, z8, z9, z10, z11, z12, z13, z14, z15] T (0, 0))) (v0 v1 v2 v3 v4 v5 v6 v7 v8 v9 v10 v11 v12 v13 v14 v15 : Value) :
  ∃ V', V' = ((((((((((((((((V.setCell ⟨Y, 0, none⟩ v0).setCell ⟨Y, 1, none⟩ v1).setCell ⟨Y, 2, none⟩ v2).setCell ⟨Y, 3, none⟩ v3).setCell ⟨Y, 4, none⟩ v4).setCell ⟨Y, 5, none⟩ v5).setCell ⟨Y, 6, none⟩ v6).setCell ⟨Y, 7, none⟩ v7).setCell ⟨Y, 8, none⟩ v8).setCell ⟨Y, 9, none⟩ v9).setCell ⟨Y, 10, none⟩ v10).setCell ⟨Y, 11, none⟩ v11).setCell ⟨Y, 12, none⟩ v12).setCell ⟨Y, 13, none⟩ v13).setCell ⟨Y, 14, none⟩ v14).setCell ⟨Y, 15, none⟩ v15) ∧ V'.heap[Y]? = some (.cells #[v0, v1, v2, v3, v4, v5, v6, v7, v8, v9, v10, v11, v12, v13, v14, v15] T (0, 0)) ∧ ∀ (B : Nat) (w : World), B ≤ Y → Below B w V → Below B w V' := by
 obtain ⟨V0, hV0⟩ : ∃ W, V.setCell ⟨Y, 0, none⟩ v0 = W := ⟨_, rfl⟩
 have h0 : V0.heap[Y]? = some (.cells #[v0, z1, z2, z3, z4, z5, z6, z7, z8, z9, z10, z11, z12, z13, z14, z15] T (0, 0)) := by rw [← hV0]; exact slD (i := 0) h v0
 obtain ⟨V1, hV1⟩ : ∃ W, V0.setCell ⟨Y, 1, none⟩ v1 = W := ⟨_, rfl⟩
 have h1 : V1.heap[Y]? = some (.cells #[v0, v1, z2, z3, z4, z5, z6, z7, z8, z9, z10, z11, z12, z13, z14, z15] T (0, 0)) := by rw [← hV1]; exact slD (i := 1) h0 v1
 obtain ⟨V2, hV2⟩ : ∃ W, V1.setCell ⟨Y, 2, none⟩ v2 = W := ⟨_, rfl⟩
 have h2 : V2.heap[Y]? = some (.cells #[v0, v1, v2, z3, z4, z5, z6, z7, z8, z9, z10, z11, z12, z13, z14, z15] T (0, 0)) := by rw [← hV2]; exact slD (i := 2) h1 v2
 obtain ⟨V3, hV3⟩ : ∃ W, V2.setCell ⟨Y, 3, none⟩ v3 = W := ⟨_, rfl⟩
 have h3 : V3.heap[Y]? = some (.cells #[v0, v1, v2, v3, z4, z5, z6, z7, z8, z9, z10, z11, z12, z13, z14, z15] T (0, 0)) := by rw [← hV3]; exact slD (i := 3) h2 v3
 obtain ⟨V4, hV4⟩ : ∃ W, V3.setCell ⟨Y, 4, none⟩ v4 = W := ⟨_, rfl⟩
 have h4 : V4.heap[Y]? = some (.cells #[v0, v1, v2, v3, v4, z5, z6, z7, z8, z9, z10, z11, z12, z13, z14, z15] T (0, 0)) := by rw [← hV4]; exact slD (i := 4) h3 v4
 obtain ⟨V5, hV5⟩ : ∃ W, V4.setCell ⟨Y, 5, none⟩ v5 = W := ⟨_, rfl⟩
 have h5 : V5.heap[Y]? = some (.cells #[v0, v1, v2, v3, v4, v5, z6, z7, z8, z9, z10, z11, z12, z13, z14, z15] T (0, 0)) := by rw [← hV5]; exact slD (i := 5) h4 v5
 obtain ⟨V6, hV6⟩ : ∃ W, V5.setCell ⟨Y, 6, none⟩ v6 = W := ⟨_, rfl⟩
 have h6 : V6.heap[Y]? = some (.cells #[v0, v1, v2, v3, v4, v5, v6, z7, z8, z9, z10, z11, z12, z13, z14, z15] T (0, 0)) := by rw [← hV6]; exact slD (i := 6) h5 v6
 obtain ⟨V7, hV7⟩ : ∃ W, V6.setCell ⟨Y, 7, none⟩ v7 = W := ⟨_, rfl⟩
 have h7 : V7.heap[Y]? = some (.cells #[v0, v1, v2, v3, v4, v5, v6, v7, z8, z9, z10, z11, z12, z13, z14, z15] T (0, 0)) := by rw [← hV7]; exact slD (i := 7) h6 v7
 obtain ⟨V8, hV8⟩ : ∃ W, V7.setCell ⟨Y, 8, none⟩ v8 = W := ⟨_, rfl⟩
 have h8 : V8.heap[Y]? = some (.cells #[v0, v1, v2, v3, v4, v5, v6, v7, v8, z9, z10, z11, z12, z13, z14, z15] T (0, 0)) := by rw [← hV8]; exact slD (i := 8) h7 v8
 obtain ⟨V9, hV9⟩ : ∃ W, V8.setCell ⟨Y, 9, none⟩ v9 = W := ⟨_, rfl⟩
 have h9 : V9.heap[Y]? = some (.cells #[v0, v1, v2, v3, v4, v5, v6, v7, v8, v9, z10, z11, z12, z13, z14, z15] T (0, 0)) := by rw [← hV9]; exact slD (i := 9) h8 v9
 obtain ⟨V10, hV10⟩ : ∃ W, V9.setCell ⟨Y, 10, none⟩ v10 = W := ⟨_, rfl⟩
 have h10 : V10.heap[Y]? = some (.cells #[v0, v1, v2, v3, v4, v5, v6, v7, v8, v9, v10, z11, z12, z13, z14, z15] T (0, 0)) := by rw [← hV10]; exact slD (i := 10) h9 v10
 obtain ⟨V11, hV11⟩ : ∃ W, V10.setCell ⟨Y, 11, none⟩ v11 = W := ⟨_, rfl⟩
 have h11 : V11.heap[Y]? = some (.cells #[v0, v1, v2, v3, v4, v5, v6, v7, v8, v9, v10, v11, z12, z13, z14, z15] T (0, 0)) := by rw [← hV11]; exact slD (i := 11) h10 v11
 obtain ⟨V12, hV12⟩ : ∃ W, V11.setCell ⟨Y, 12, none⟩ v12 = W := ⟨_, rfl⟩
 have h12 : V12.heap[Y]? = some (.cells #[v0, v1, v2, v3, v4, v5, v6, v7, v8, v9, v10, v11, v12, z13, z14, z15] T (0, 0)) := by rw [← hV12]; exact slD (i := 12) h11 v12
 obtain ⟨V13, hV13⟩ : ∃ W, V12.setCell ⟨Y, 13, none⟩ v13 = W := ⟨_, rfl⟩
 have h13 : V13.heap[Y]? = some (.cells #[v0, v1, v2, v3, v4, v5, v6, v7, v8, v9, v10, v11, v12, v13, z14, z15] T (0, 0)) := by rw [← hV13]; exact slD (i := 13) h12 v13
 obtain ⟨V14, hV14⟩ : ∃ W, V13.setCell ⟨Y, 14, none⟩ v14 = W := ⟨_, rfl⟩
 have h14 : V14.heap[Y]? = some (.cells #[v0, v1, v2, v3, v4, v5, v6, v7, v8, v9, v10, v11, v12, v13, v14, z15] T (0, 0)) := by rw [← hV14]; exact slD (i := 14) h13 v14
 obtain ⟨V15, hV15⟩ : ∃ W, V14.setCell ⟨Y, 15, none⟩ v15 = W := ⟨_, rfl⟩
 have h15 : V15.heap[Y]? = some (.cells #[v0, v1, v2, v3, v4, v5, v6, v7, v8, v9, v10, v11, v12, v13, v14, v15] T (0, 0)) := by rw [← hV15]; exact slD (i := 15) h14 v15
 refine ⟨V15, ?_, h15, fun B w hB hb => ?_⟩
 ·rw [← hV15, ← hV14, ← hV13, ← hV12, ← hV11, ← hV10, ← hV9, ← hV8, ← hV7, ← hV6, ← hV5, ← hV4, ← hV3, ← hV2, ← hV1, ← hV0]
 ·rw [← hV15, ← hV14, ← hV13, ← hV12, ← hV11, ← hV10, ← hV9, ← hV8, ← hV7, ← hV6, ← hV5, ← hV4, ← hV3, ← hV2, ← hV1, ← hV0]
  exact ((((((((((((((((hb.setCell hB _).setCell hB _).setCell hB _).setCell hB _).setCell hB _).setCell hB _).setCell hB _).setCell hB _).setCell hB _).setCell hB _).setCell hB _).setCell hB _).setCell hB _).setCell hB _).setCell hB _).setCell hB _)
theorem skg_result {W : World} {b : Nat} {v0 v1 v2 v3 v4 v5 v6 v7 v8 v9 v10 v11 : Value} {tmps : Array Value} (h : W.heap[b]? = some (.cells #[v0, v1, v2, v3, v4, v5, v6, v7, v8, v9, v10, v11] 133 (0, 0))) (hp : tmps[0]?.getD undef = .pointer (some ⟨b, 0, none⟩)) :
  (results Tryz.f72 tmps).run Tryz.prog W = .ok (.agg #[v0, v1, v2, v3, v4, v5, v6, v7, v8, v9, v10, v11]) W := by
 have h0 := clD (i := 0) (v := v0) h rfl
 have h1 := clD (i := 1) (v := v1) h rfl
 have h2 := clD (i := 2) (v := v2) h rfl
 have h3 := clD (i := 3) (v := v3) h rfl
 have h4 := clD (i := 4) (v := v4) h rfl
 have h5 := clD (i := 5) (v := v5) h rfl
 have h6 := clD (i := 6) (v := v6) h rfl
 have h7 := clD (i := 7) (v := v7) h rfl
 have h8 := clD (i := 8) (v := v8) h rfl
 have h9 := clD (i := 9) (v := v9) h rfl
 have h10 := clD (i := 10) (v := v10) h rfl
 have h11 := clD (i := 11) (v := v11) h rfl
 simp [results, Tryz.results72, go_sem, hp, h0, h1, h2, h3, h4, h5, h6, h7, h8, h9, h10, h11]
def seekV : Value := .agg #[.func (.func 85) #[] #[], .func (.func 87) #[] #[], .func (.func 88) #[] #[], .func (.func 89) #[] #[], .func (.func 91) #[] #[], .func (.func 92) #[] #[], .func (.func 93) #[] #[], .func (.func 94) #[] #[], .nilFunc, .nilFunc, .nilFunc, .nilFunc]
set_option maxRecDepth 100000 in
set_option maxHeartbeats 2000000 in
theorem skg_any (V : World) : Calls Tryz.prog 72 #[] V (Ret seekV V) := by
 obtain ⟨V1, hV1, hb1, hs1, hl1⟩ := laid V #[.nilFunc, .nilFunc, .nilFunc, .nilFunc, .nilFunc, .nilFunc, .nilFunc, .nilFunc, .nilFunc, .nilFunc, .nilFunc, .nilFunc] 133
 obtain ⟨Y, hY⟩ := nm (V.heap.size)
 have hYY : V.heap.size ≤ Y := by omega
 rw [hY] at hl1
 obtain ⟨V2, hV2, hl2, hb2⟩ := put12 hl1 (.func (.func 85) #[] #[]) (.func (.func 87) #[] #[]) (.func (.func 88) #[] #[]) (.func (.func 89) #[] #[]) (.func (.func 91) #[] #[]) (.func (.func 92) #[] #[]) (.func (.func 93) #[] #[]) (.func (.func 94) #[] #[]) (.nilFunc) (.nilFunc) (.nilFunc) (.nilFunc)
 have HL2 := hid hl2
 have HB2 := hid (hb2 _ _ hYY hb1)
 have f0 := flD (i := 0) hl1
 have c0 := clD (i := 0) hl1 rfl
 have f1 := flD (i := 1) hl1
 have c1 := clD (i := 1) hl1 rfl
 have f2 := flD (i := 2) hl1
 have c2 := clD (i := 2) hl1 rfl
 have f3 := flD (i := 3) hl1
 have c3 := clD (i := 3) hl1 rfl
 have f4 := flD (i := 4) hl1
 have c4 := clD (i := 4) hl1 rfl
 have f5 := flD (i := 5) hl1
 have c5 := clD (i := 5) hl1 rfl
 have f6 := flD (i := 6) hl1
 have c6 := clD (i := 6) hl1 rfl
 have f7 := flD (i := 7) hl1
 have c7 := clD (i := 7) hl1 rfl
 have f8 := flD (i := 8) hl1
 have c8 := clD (i := 8) hl1 rfl
 have f9 := flD (i := 9) hl1
 have c9 := clD (i := 9) hl1 rfl
 have f10 := flD (i := 10) hl1
 have c10 := clD (i := 10) hl1 rfl
 have f11 := flD (i := 11) hl1
 have c11 := clD (i := 11) hl1 rfl
 have HV2 := hid hV2
 clear hl1 hs1 hl2 hb2 hV2 hb1 hYY
 go_enter Tryz.func72, Tryz.ntmps72
 go_wp2
 rw [← HV2.out]
 refine bodyPost_ret (skg_result HL2.out rfl) rfl ?_
 exact ⟨rfl, HB2.out⟩
theorem edg_result {W : World} {b : Nat} {v0 v1 v2 v3 v4 v5 v6 v7 v8 v9 v10 v11 v12 v13 v14 v15 : Value} {tmps : Array Value} (h : W.heap[b]? = some (.cells #[v0, v1, v2, v3, v4, v5, v6, v7, v8, v9, v10, v11, v12, v13, v14, v15] 170 (0, 0))) (hp : tmps[0]?.getD undef = .pointer (some ⟨b, 0, none⟩)) :
  (results Tryz.f99 tmps).run Tryz.prog W = .ok (.agg #[v0, v1, v2, v3, v4, v5, v6, v7, v8, v9, v10, v11, v12, v13, v14, v15]) W := by
 have h0 := clD (i := 0) (v := v0) h rfl
 have h1 := clD (i := 1) (v := v1) h rfl
 have h2 := clD (i := 2) (v := v2) h rfl
 have h3 := clD (i := 3) (v := v3) h rfl
 have h4 := clD (i := 4) (v := v4) h rfl
 have h5 := clD (i := 5) (v := v5) h rfl
 have h6 := clD (i := 6) (v := v6) h rfl
 have h7 := clD (i := 7) (v := v7) h rfl
 have h8 := clD (i := 8) (v := v8) h rfl
 have h9 := clD (i := 9) (v := v9) h rfl
 have h10 := clD (i := 10) (v := v10) h rfl
 have h11 := clD (i := 11) (v := v11) h rfl
 have h12 := clD (i := 12) (v := v12) h rfl
 have h13 := clD (i := 13) (v := v13) h rfl
 have h14 := clD (i := 14) (v := v14) h rfl
 have h15 := clD (i := 15) (v := v15) h rfl
 simp [results, Tryz.results99, go_sem, hp, h0, h1, h2, h3, h4, h5, h6, h7, h8, h9, h10, h11, h12, h13, h14, h15]
def editV : Value := .agg #[.func (.func 103) #[] #[], .int .i64 1, .func (.func 105) #[] #[], .int .i64 2, .func (.func 106) #[] #[], .int .i64 3, .func (.func 107) #[] #[], .int .i64 5, .func (.func 108) #[] #[], .int .i64 5, .func (.func 109) #[] #[], .int .i64 6, .nilFunc, .int .i64 0, .nilFunc, .int .i64 0]
set_option maxRecDepth 100000 in
set_option maxHeartbeats 2000000 in
theorem edg_any (V : World) : Calls Tryz.prog 99 #[] V (Ret editV V) := by
 obtain ⟨V1, hV1, hb1, hs1, hl1⟩ := laid V #[.nilFunc, .int .i64 0, .nilFunc, .int .i64 0, .nilFunc, .int .i64 0, .nilFunc, .int .i64 0, .nilFunc, .int .i64 0, .nilFunc, .int .i64 0, .nilFunc, .int .i64 0, .nilFunc, .int .i64 0] 170
 obtain ⟨Y, hY⟩ := nm (V.heap.size)
 have hYY : V.heap.size ≤ Y := by omega
 rw [hY] at hl1
 obtain ⟨V2, hV2, hl2, hb2⟩ := put16 hl1 (.func (.func 103) #[] #[]) (.int .i64 1) (.func (.func 105) #[] #[]) (.int .i64 2) (.func (.func 106) #[] #[]) (.int .i64 3) (.func (.func 107) #[] #[]) (.int .i64 5) (.func (.func 108) #[] #[]) (.int .i64 5) (.func (.func 109) #[] #[]) (.int .i64 6) (.nilFunc) (.int .i64 0) (.nilFunc) (.int .i64 0)
 have HL2 := hid hl2
 have HB2 := hid (hb2 _ _ hYY hb1)
 have f0 := flD (i := 0) hl1
 have c0 := clD (i := 0) hl1 rfl
 have f1 := flD (i := 1) hl1
 have c1 := clD (i := 1) hl1 rfl
 have f2 := flD (i := 2) hl1
 have c2 := clD (i := 2) hl1 rfl
 have f3 := flD (i := 3) hl1
 have c3 := clD (i := 3) hl1 rfl
 have f4 := flD (i := 4) hl1
 have c4 := clD (i := 4) hl1 rfl
 have f5 := flD (i := 5) hl1
 have c5 := clD (i := 5) hl1 rfl
 have f6 := flD (i := 6) hl1
 have c6 := clD (i := 6) hl1 rfl
 have f7 := flD (i := 7) hl1
 have c7 := clD (i := 7) hl1 rfl
 have f8 := flD (i := 8) hl1
 have c8 := clD (i := 8) hl1 rfl
 have f9 := flD (i := 9) hl1
 have c9 := clD (i := 9) hl1 rfl
 have f10 := flD (i := 10) hl1
 have c10 := clD (i := 10) hl1 rfl
 have f11 := flD (i := 11) hl1
 have c11 := clD (i := 11) hl1 rfl
 have f12 := flD (i := 12) hl1
 have c12 := clD (i := 12) hl1 rfl
 have f13 := flD (i := 13) hl1
 have c13 := clD (i := 13) hl1 rfl
 have f14 := flD (i := 14) hl1
 have c14 := clD (i := 14) hl1 rfl
 have f15 := flD (i := 15) hl1
 have c15 := clD (i := 15) hl1 rfl
 have HV2 := hid hV2
 clear hl1 hs1 hl2 hb2 hV2 hb1 hYY
 go_enter Tryz.func99, Tryz.ntmps99
 go_wp2
 rw [← HV2.out]
 refine bodyPost_ret (edg_result HL2.out rfl) rfl ?_
 exact ⟨rfl, HB2.out⟩
theorem skg_at0 (W : World) : (Instr.index 133 seekV (.int .i64 0)).run Tryz.prog W = .ok (.agg #[.func (.func 85) #[] #[], .func (.func 87) #[] #[]]) W := by kernel_rfl
theorem skg_at1 (W : World) : (Instr.index 133 seekV (.int .i64 1)).run Tryz.prog W = .ok (.agg #[.func (.func 88) #[] #[], .func (.func 89) #[] #[]]) W := by kernel_rfl
theorem skg_at2 (W : World) : (Instr.index 133 seekV (.int .i64 2)).run Tryz.prog W = .ok (.agg #[.func (.func 91) #[] #[], .func (.func 92) #[] #[]]) W := by kernel_rfl
theorem skg_at3 (W : World) : (Instr.index 133 seekV (.int .i64 3)).run Tryz.prog W = .ok (.agg #[.func (.func 93) #[] #[], .func (.func 94) #[] #[]]) W := by kernel_rfl
theorem skg_at4 (W : World) : (Instr.index 133 seekV (.int .i64 4)).run Tryz.prog W = .ok (.agg #[.nilFunc, .nilFunc]) W := by kernel_rfl
theorem skg_at5 (W : World) : (Instr.index 133 seekV (.int .i64 5)).run Tryz.prog W = .ok (.agg #[.nilFunc, .nilFunc]) W := by kernel_rfl
theorem edg_at0 (W : World) : (Instr.index 170 editV (.int .i64 0)).run Tryz.prog W = .ok (.agg #[.func (.func 103) #[] #[], .int .i64 1]) W := by kernel_rfl
theorem edg_at1 (W : World) : (Instr.index 170 editV (.int .i64 1)).run Tryz.prog W = .ok (.agg #[.func (.func 105) #[] #[], .int .i64 2]) W := by kernel_rfl
theorem edg_at2 (W : World) : (Instr.index 170 editV (.int .i64 2)).run Tryz.prog W = .ok (.agg #[.func (.func 106) #[] #[], .int .i64 3]) W := by kernel_rfl
theorem edg_at3 (W : World) : (Instr.index 170 editV (.int .i64 3)).run Tryz.prog W = .ok (.agg #[.func (.func 107) #[] #[], .int .i64 5]) W := by kernel_rfl
theorem edg_at4 (W : World) : (Instr.index 170 editV (.int .i64 4)).run Tryz.prog W = .ok (.agg #[.func (.func 108) #[] #[], .int .i64 5]) W := by kernel_rfl
theorem edg_at5 (W : World) : (Instr.index 170 editV (.int .i64 5)).run Tryz.prog W = .ok (.agg #[.func (.func 109) #[] #[], .int .i64 6]) W := by kernel_rfl
theorem edg_at6 (W : World) : (Instr.index 170 editV (.int .i64 6)).run Tryz.prog W = .ok (.agg #[.nilFunc, .int .i64 0]) W := by kernel_rfl
theorem edg_at7 (W : World) : (Instr.index 170 editV (.int .i64 7)).run Tryz.prog W = .ok (.agg #[.nilFunc, .int .i64 0]) W := by kernel_rfl
end Go.Proofs.YtipohagcppfgiaaGreat
