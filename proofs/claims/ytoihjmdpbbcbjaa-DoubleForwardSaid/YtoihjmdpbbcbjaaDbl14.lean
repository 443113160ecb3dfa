/- Lists linked both ways: Put, Cut (printed by gen_dbl14.py). -/
import Derived.Test.YtoihjmdpbbcbjaaDbl13
namespace Go.Proofs.Ytoihjmdpbbcbjaa
open Go.RowKit
open Go.Proofs
set_option linter.unusedVariables false
attribute [local go_sem] Oper.semAt_some

theorem put8 {V : World} {Y : Nat} {z0 z1 z2 z3 z4 z5 z6 z7 : Value} {T : TypeId} (h : V.heap[Y]? = some (.cells #[z0, z1, z2, z3, z4, z5, z6, z7] T (0, 0))) (v0 v1 v2 v3 v4 v5 v6 v7 : Value) :
    ∃ V', V' = ((((((((V.setCell ⟨Y, 0, none⟩ v0).setCell ⟨Y, 1, none⟩ v1).setCell ⟨Y, 2, none⟩ v2).setCell ⟨Y, 3, none⟩ v3).setCell ⟨Y, 4, none⟩ v4).setCell ⟨Y, 5, none⟩ v5).setCell ⟨Y, 6, none⟩ v6).setCell ⟨Y, 7, none⟩ v7) ∧ V'.heap[Y]? = some (.cells #[v0, v1, v2, v3, v4, v5, v6, v7] T (0, 0)) ∧ (∀ (k : Nat) (o : Obj), k ≠ Y → V.heap[k]? = some o → V'.heap[k]? = some o) ∧ ∀ (B : Nat) (w : World), B ≤ Y → Below B w V → Below B w V' := by
  obtain ⟨V0, hV0⟩ : ∃ W, V.setCell ⟨Y, 0, none⟩ v0 = W := ⟨_, rfl⟩
  have h0 : V0.heap[Y]? = some (.cells #[v0, z1, z2, z3, z4, z5, z6, z7] T (0, 0)) := by rw [← hV0]; exact set_laid (i := 0) h v0
  obtain ⟨V1, hV1⟩ : ∃ W, V0.setCell ⟨Y, 1, none⟩ v1 = W := ⟨_, rfl⟩
  have h1 : V1.heap[Y]? = some (.cells #[v0, v1, z2, z3, z4, z5, z6, z7] T (0, 0)) := by rw [← hV1]; exact set_laid (i := 1) h0 v1
  obtain ⟨V2, hV2⟩ : ∃ W, V1.setCell ⟨Y, 2, none⟩ v2 = W := ⟨_, rfl⟩
  have h2 : V2.heap[Y]? = some (.cells #[v0, v1, v2, z3, z4, z5, z6, z7] T (0, 0)) := by rw [← hV2]; exact set_laid (i := 2) h1 v2
  obtain ⟨V3, hV3⟩ : ∃ W, V2.setCell ⟨Y, 3, none⟩ v3 = W := ⟨_, rfl⟩
  have h3 : V3.heap[Y]? = some (.cells #[v0, v1, v2, v3, z4, z5, z6, z7] T (0, 0)) := by rw [← hV3]; exact set_laid (i := 3) h2 v3
  obtain ⟨V4, hV4⟩ : ∃ W, V3.setCell ⟨Y, 4, none⟩ v4 = W := ⟨_, rfl⟩
  have h4 : V4.heap[Y]? = some (.cells #[v0, v1, v2, v3, v4, z5, z6, z7] T (0, 0)) := by rw [← hV4]; exact set_laid (i := 4) h3 v4
  obtain ⟨V5, hV5⟩ : ∃ W, V4.setCell ⟨Y, 5, none⟩ v5 = W := ⟨_, rfl⟩
  have h5 : V5.heap[Y]? = some (.cells #[v0, v1, v2, v3, v4, v5, z6, z7] T (0, 0)) := by rw [← hV5]; exact set_laid (i := 5) h4 v5
  obtain ⟨V6, hV6⟩ : ∃ W, V5.setCell ⟨Y, 6, none⟩ v6 = W := ⟨_, rfl⟩
  have h6 : V6.heap[Y]? = some (.cells #[v0, v1, v2, v3, v4, v5, v6, z7] T (0, 0)) := by rw [← hV6]; exact set_laid (i := 6) h5 v6
  obtain ⟨V7, hV7⟩ : ∃ W, V6.setCell ⟨Y, 7, none⟩ v7 = W := ⟨_, rfl⟩
  have h7 : V7.heap[Y]? = some (.cells #[v0, v1, v2, v3, v4, v5, v6, v7] T (0, 0)) := by rw [← hV7]; exact set_laid (i := 7) h6 v7
  refine ⟨V7, ?_, h7, fun k o hk ho => ?_, fun B w hB hb => ?_⟩
  · rw [← hV7, ← hV6, ← hV5, ← hV4, ← hV3, ← hV2, ← hV1, ← hV0]
  · rw [← hV7, ← hV6, ← hV5, ← hV4, ← hV3, ← hV2, ← hV1, ← hV0]
    exact (other_laid (other_laid (other_laid (other_laid (other_laid (other_laid (other_laid (other_laid ho hk _) hk _) hk _) hk _) hk _) hk _) hk _) hk _)
  · rw [← hV7, ← hV6, ← hV5, ← hV4, ← hV3, ← hV2, ← hV1, ← hV0]
    exact ((((((((hb.setCell hB _).setCell hB _).setCell hB _).setCell hB _).setCell hB _).setCell hB _).setCell hB _).setCell hB _)
theorem Put_result {W : World} {b : Nat} {v0 v1 v2 v3 v4 v5 v6 v7 : Value} {tmps : Array Value} (h : W.heap[b]? = some (.cells #[v0, v1, v2, v3, v4, v5, v6, v7] 42 (0, 0))) (hp : tmps[6]?.getD undef = .pointer (some ⟨b, 0, none⟩)) :
    (results Try.f14 tmps).run Try.prog W = .ok (.agg #[v0, v1, v2, v3, v4, v5, v6, v7]) W := by
  have h0 := cell_laid (i := 0) (v := v0) h rfl
  have h1 := cell_laid (i := 1) (v := v1) h rfl
  have h2 := cell_laid (i := 2) (v := v2) h rfl
  have h3 := cell_laid (i := 3) (v := v3) h rfl
  have h4 := cell_laid (i := 4) (v := v4) h rfl
  have h5 := cell_laid (i := 5) (v := v5) h rfl
  have h6 := cell_laid (i := 6) (v := v6) h rfl
  have h7 := cell_laid (i := 7) (v := v7) h rfl
  simp [results, Try.results14, go_sem, hp, h0, h1, h2, h3, h4, h5, h6, h7]
theorem Cut_result {W : World} {b : Nat} {v0 v1 v2 v3 v4 v5 v6 v7 : Value} {tmps : Array Value} (h : W.heap[b]? = some (.cells #[v0, v1, v2, v3, v4, v5, v6, v7] 42 (0, 0))) (hp : tmps[4]?.getD undef = .pointer (some ⟨b, 0, none⟩)) :
    (results Try.f15 tmps).run Try.prog W = .ok (.agg #[v0, v1, v2, v3, v4, v5, v6, v7]) W := by
  have h0 := cell_laid (i := 0) (v := v0) h rfl
  have h1 := cell_laid (i := 1) (v := v1) h rfl
  have h2 := cell_laid (i := 2) (v := v2) h rfl
  have h3 := cell_laid (i := 3) (v := v3) h rfl
  have h4 := cell_laid (i := 4) (v := v4) h rfl
  have h5 := cell_laid (i := 5) (v := v5) h rfl
  have h6 := cell_laid (i := 6) (v := v6) h rfl
  have h7 := cell_laid (i := 7) (v := v7) h rfl
  simp [results, Try.results15, go_sem, hp, h0, h1, h2, h3, h4, h5, h6, h7]

def putE (head prev : Nat) (t : Tw) : Ed := ⟨0, false, head, t.1, t.2.1, t.2.2, prev, 0⟩
def cutE (head node : Nat) : Ed := ⟨5, true, head, node, 0, 0, 0, 0⟩
set_option maxRecDepth 100000 in
set_option maxHeartbeats 2000000 in
theorem Put_any (head prev : Nat) (t : Tw) (V : World) : Calls Try.prog 14 #[.int .u64 ((head : Nat) : Int), .int .u64 ((prev : Nat) : Int), twV t] V (Ret (edV (putE head prev t)) V) := by
  obtain ⟨p, q, r⟩ := t
  obtain ⟨V1, hV1, hb1, hs1, hl1⟩ := laid V #[.int .u64 ((p : Nat) : Int), .int .u64 ((q : Nat) : Int), .int .u64 ((r : Nat) : Int)] 28
  obtain ⟨V2, hV2, hb2, hs2, hl2⟩ := laid V1 #[.int .i64 0, .bool false, .int .u64 0, .int .u64 0, .int .u64 0, .int .u64 0, .int .u64 0, .int .u64 0] 42
  obtain ⟨Z, hZ⟩ : ∃ X, V1.heap.size = X := ⟨_, rfl⟩
  obtain ⟨X, hX⟩ : ∃ X, V.heap.size = X := ⟨_, rfl⟩
  rw [hZ] at hl2
  rw [hX] at hl1
  have HZ := hid hl2
  obtain ⟨t0, t1, t2⟩ := cells3 (keep_laid hl1 hb2)
  have f0 := free_laid (i := 0) HZ.out
  have c0 := cell_laid (i := 0) HZ.out rfl
  have f1 := free_laid (i := 1) HZ.out
  have c1 := cell_laid (i := 1) HZ.out rfl
  have f2 := free_laid (i := 2) HZ.out
  have c2 := cell_laid (i := 2) HZ.out rfl
  have f3 := free_laid (i := 3) HZ.out
  have c3 := cell_laid (i := 3) HZ.out rfl
  have f4 := free_laid (i := 4) HZ.out
  have c4 := cell_laid (i := 4) HZ.out rfl
  have f5 := free_laid (i := 5) HZ.out
  have c5 := cell_laid (i := 5) HZ.out rfl
  have f6 := free_laid (i := 6) HZ.out
  have c6 := cell_laid (i := 6) HZ.out rfl
  have f7 := free_laid (i := 7) HZ.out
  have c7 := cell_laid (i := 7) HZ.out rfl
  obtain ⟨V3, hV3, hl3, -, hb3⟩ := put8 HZ.out (.int .i64 0) (.bool false) (.int .u64 ((head : Nat) : Int)) (.int .u64 ((p : Nat) : Int)) (.int .u64 ((q : Nat) : Int)) (.int .u64 ((r : Nat) : Int)) (.int .u64 ((prev : Nat) : Int)) (.int .u64 0)
  have HV3 := hid hV3
  have HL3 := hid hl3
  have HB3 := hid (hb3 V.heap.size V (by omega) (step hb1 hb2))
  unfold twV edV putE
  dsimp only
  clear hl1 hl2 hb1 hb2 hs1 hs2 hV3 hl3 hb3
  go_enter Try.func14, Try.ntmps14
  go_wp2
  rw [← HV3.out]
  refine bodyPost_ret (Put_result HL3.out rfl) rfl ?_
  exact ⟨rfl, HB3.out⟩
set_option maxRecDepth 100000 in
set_option maxHeartbeats 2000000 in
theorem Cut_any (head node : Nat) (V : World) : Calls Try.prog 15 #[.int .u64 ((head : Nat) : Int), .int .u64 ((node : Nat) : Int)] V (Ret (edV (cutE head node)) V) := by
  obtain ⟨V1, hV1, hb1, hs1, hl1⟩ := laid V #[.int .i64 0, .bool false, .int .u64 0, .int .u64 0, .int .u64 0, .int .u64 0, .int .u64 0, .int .u64 0] 42
  obtain ⟨Z, hZ⟩ : ∃ X, V.heap.size = X := ⟨_, rfl⟩
  rw [hZ] at hl1
  have HZ := hid hl1
  have f0 := free_laid (i := 0) HZ.out
  have c0 := cell_laid (i := 0) HZ.out rfl
  have f1 := free_laid (i := 1) HZ.out
  have c1 := cell_laid (i := 1) HZ.out rfl
  have f2 := free_laid (i := 2) HZ.out
  have c2 := cell_laid (i := 2) HZ.out rfl
  have f3 := free_laid (i := 3) HZ.out
  have c3 := cell_laid (i := 3) HZ.out rfl
  have f4 := free_laid (i := 4) HZ.out
  have c4 := cell_laid (i := 4) HZ.out rfl
  have f5 := free_laid (i := 5) HZ.out
  have c5 := cell_laid (i := 5) HZ.out rfl
  have f6 := free_laid (i := 6) HZ.out
  have c6 := cell_laid (i := 6) HZ.out rfl
  have f7 := free_laid (i := 7) HZ.out
  have c7 := cell_laid (i := 7) HZ.out rfl
  obtain ⟨V3, hV3, hl3, -, hb3⟩ := put8 HZ.out (.int .i64 5) (.bool true) (.int .u64 ((head : Nat) : Int)) (.int .u64 ((node : Nat) : Int)) (.int .u64 0) (.int .u64 0) (.int .u64 0) (.int .u64 0)
  have HV3 := hid hV3
  have HL3 := hid hl3
  have HB3 := hid (hb3 V.heap.size V (by omega) hb1)
  unfold edV cutE
  dsimp only
  clear hl1 hb1 hs1 hV3 hl3 hb3
  go_enter Try.func15, Try.ntmps15
  go_wp2
  rw [← HV3.out]
  refine bodyPost_ret (Cut_result HL3.out rfl) rfl ?_
  exact ⟨rfl, HB3.out⟩
end Go.Proofs.Ytoihjmdpbbcbjaa
