/- Lists (printed by gen_ls13.py): Seek, Put, Cut, and the steps. -/
import Derived.Test.YtahicokokfcieaaGreatDoorTgAm
namespace Go.Proofs.YtahicokokfcieaaGreatDoor
open Go.RowKit
open Go.Proofs
set_option linter.unusedVariables false
attribute [local go_sem] Oper.semAt_some
theorem putM7 {V : World} {Y : Nat} {z0 z1 z2 z3 z4 z5 z6 : Value} {T : TypeId} (h : V.heap[Y]? = some (.cells #[z0, z1, z2, z3, z4, z5, z6] T (0, 0))) (v0 v1 v2 v3 v4 v5 v6 : Value) :
    ∃ V', V' = (((((((V.setCell ⟨Y, 0, none⟩ v0).setCell ⟨Y, 1, none⟩ v1).setCell ⟨Y, 2, none⟩ v2).setCell ⟨Y, 3, none⟩ v3).setCell ⟨Y, 4, none⟩ v4).setCell ⟨Y, 5, none⟩ v5).setCell ⟨Y, 6, none⟩ v6) ∧ V'.heap[Y]? = some (.cells #[v0, v1, v2, v3, v4, v5, v6] T (0, 0)) ∧ (∀ (k : Nat) (o : Obj), k ≠ Y → V.heap[k]? = some o → V'.heap[k]? = some o) ∧ (∀ (B : Nat) (w : World), B ≤ Y → Below B w V → Below B w V') ∧
      (∀ (base : Nat) (wa : Option Addr) (wc : Nat) (la : Option Addr) (lc : Nat) (M : Mem), 26 ≠ T → 4 ≠ T → MemO base wa wc la lc M V → MemO base wa wc la lc M V') ∧ Tch (fun k => k = Y) V V' := by
  obtain ⟨V0, hV0⟩ : ∃ W, V.setCell ⟨Y, 0, none⟩ v0 = W := ⟨_, rfl⟩
  have h0 : V0.heap[Y]? = some (.cells #[v0, z1, z2, z3, z4, z5, z6] T (0, 0)) := by rw [← hV0]; exact set_laid (i := 0) h v0
  obtain ⟨V1, hV1⟩ : ∃ W, V0.setCell ⟨Y, 1, none⟩ v1 = W := ⟨_, rfl⟩
  have h1 : V1.heap[Y]? = some (.cells #[v0, v1, z2, z3, z4, z5, z6] T (0, 0)) := by rw [← hV1]; exact set_laid (i := 1) h0 v1
  obtain ⟨V2, hV2⟩ : ∃ W, V1.setCell ⟨Y, 2, none⟩ v2 = W := ⟨_, rfl⟩
  have h2 : V2.heap[Y]? = some (.cells #[v0, v1, v2, z3, z4, z5, z6] T (0, 0)) := by rw [← hV2]; exact set_laid (i := 2) h1 v2
  obtain ⟨V3, hV3⟩ : ∃ W, V2.setCell ⟨Y, 3, none⟩ v3 = W := ⟨_, rfl⟩
  have h3 : V3.heap[Y]? = some (.cells #[v0, v1, v2, v3, z4, z5, z6] T (0, 0)) := by rw [← hV3]; exact set_laid (i := 3) h2 v3
  obtain ⟨V4, hV4⟩ : ∃ W, V3.setCell ⟨Y, 4, none⟩ v4 = W := ⟨_, rfl⟩
  have h4 : V4.heap[Y]? = some (.cells #[v0, v1, v2, v3, v4, z5, z6] T (0, 0)) := by rw [← hV4]; exact set_laid (i := 4) h3 v4
  obtain ⟨V5, hV5⟩ : ∃ W, V4.setCell ⟨Y, 5, none⟩ v5 = W := ⟨_, rfl⟩
  have h5 : V5.heap[Y]? = some (.cells #[v0, v1, v2, v3, v4, v5, z6] T (0, 0)) := by rw [← hV5]; exact set_laid (i := 5) h4 v5
  obtain ⟨V6, hV6⟩ : ∃ W, V5.setCell ⟨Y, 6, none⟩ v6 = W := ⟨_, rfl⟩
  have h6 : V6.heap[Y]? = some (.cells #[v0, v1, v2, v3, v4, v5, v6] T (0, 0)) := by rw [← hV6]; exact set_laid (i := 6) h5 v6
  refine ⟨V6, by rw [hV0, hV1, hV2, hV3, hV4, hV5, hV6], h6, fun k o hk ho => ?_, fun B w hB hb => ?_, fun base wa wc la lc M h1' h2' hm => ?_, ?_⟩
  · rw [← hV6, ← hV5, ← hV4, ← hV3, ← hV2, ← hV1, ← hV0]; exact (other_laid (other_laid (other_laid (other_laid (other_laid (other_laid (other_laid ho hk _) hk _) hk _) hk _) hk _) hk _) hk _)
  · rw [← hV6, ← hV5, ← hV4, ← hV3, ← hV2, ← hV1, ← hV0]; exact (((((((hb.setCell hB _).setCell hB _).setCell hB _).setCell hB _).setCell hB _).setCell hB _).setCell hB _)
  · have m0 := hm.set h h1' h2' (i := 0) v0
    rw [hV0] at m0
    have m1 := m0.set h0 h1' h2' (i := 1) v1
    rw [hV1] at m1
    have m2 := m1.set h1 h1' h2' (i := 2) v2
    rw [hV2] at m2
    have m3 := m2.set h2 h1' h2' (i := 3) v3
    rw [hV3] at m3
    have m4 := m3.set h3 h1' h2' (i := 4) v4
    rw [hV4] at m4
    have m5 := m4.set h4 h1' h2' (i := 5) v5
    rw [hV5] at m5
    have m6 := m5.set h5 h1' h2' (i := 6) v6
    rw [hV6] at m6
    exact m6
  · rw [← hV6, ← hV5, ← hV4, ← hV3, ← hV2, ← hV1, ← hV0]; exact (((((((Tch.set (P := fun k => k = Y) rfl _).trans (Tch.set (P := fun k => k = Y) rfl _)).trans (Tch.set (P := fun k => k = Y) rfl _)).trans (Tch.set (P := fun k => k = Y) rfl _)).trans (Tch.set (P := fun k => k = Y) rfl _)).trans (Tch.set (P := fun k => k = Y) rfl _)).trans (Tch.set (P := fun k => k = Y) rfl _))
theorem putM8 {V : World} {Y : Nat} {z0 z1 z2 z3 z4 z5 z6 z7 : Value} {T : TypeId} (h : V.heap[Y]? = some (.cells #[z0, z1, z2, z3, z4, z5, z6, z7] T (0, 0))) (v0 v1 v2 v3 v4 v5 v6 v7 : Value) :
    ∃ V', V' = ((((((((V.setCell ⟨Y, 0, none⟩ v0).setCell ⟨Y, 1, none⟩ v1).setCell ⟨Y, 2, none⟩ v2).setCell ⟨Y, 3, none⟩ v3).setCell ⟨Y, 4, none⟩ v4).setCell ⟨Y, 5, none⟩ v5).setCell ⟨Y, 6, none⟩ v6).setCell ⟨Y, 7, none⟩ v7) ∧ V'.heap[Y]? = some (.cells #[v0, v1, v2, v3, v4, v5, v6, v7] T (0, 0)) ∧ (∀ (k : Nat) (o : Obj), k ≠ Y → V.heap[k]? = some o → V'.heap[k]? = some o) ∧ (∀ (B : Nat) (w : World), B ≤ Y → Below B w V → Below B w V') ∧
      (∀ (base : Nat) (wa : Option Addr) (wc : Nat) (la : Option Addr) (lc : Nat) (M : Mem), 26 ≠ T → 4 ≠ T → MemO base wa wc la lc M V → MemO base wa wc la lc M V') ∧ Tch (fun k => k = Y) V V' := by
  obtain ⟨V0, hV0⟩ : ∃ W, V.setCell ⟨Y, 0, none⟩ v0 = W := ⟨_, rfl⟩
  have h0 : V0.heap[Y]? = some (.cells #[v0, z1, z2, z3, z4, z5, z6, z7] T (0, 0)) := by rw [← hV0]; exact set_laid (i := 0) h v0
  obtain ⟨V1, hV1⟩ : ∃ W, V0.setCell ⟨Y, 1, none⟩ v1 = W := ⟨_, rfl⟩
  have h1 : V1.heap[Y]? = some (.cells #[v0, v1, z2, z3, z4, z5, z6, z7] T (0, 0)) := by rw [← hV1]; exact set_laid (i := 1) h0 v1
  obtain ⟨V2, hV2⟩ : ∃ W, V1.setCell ⟨Y, 2, none⟩ v2 = W := ⟨_, rfl⟩
  have h2 : V2.heap[Y]? = some (.cells #[v0, v1, v2, z3, z4, z5, z6, z7] T (0, 0)) := by rw [← hV2]; exact set_laid (i := 2) h1 v2
  obtain ⟨V3, hV3⟩ : ∃ W, V2.setCell ⟨Y, 3, none⟩ v3 = W := ⟨_, rfl⟩
  have h3 : V3.heap[Y]? = some (.cells #[v0, v1, v2, v3, z4, z5, z6, z7] T (0, 0)) := by rw [← hV3]; exact set_laid (i := 3) h2 v3
  obtain ⟨V4, hV4⟩ : ∃ W, V3.setCell ⟨Y, 4, none⟩ v4 = W := ⟨_, rfl⟩
  have h4 : V4.heap[Y]? = some (.cells #[v0, v1, v2, v3, v4, z5, z6, z7] T (0, 0)) := by rw [← hV4]; exact set_laid (i := 4) h3 v4
  obtain ⟨V5, hV5⟩ : ∃ W, V4.setCell ⟨Y, 5, none⟩ v5 = W := ⟨_, rfl⟩
  have h5 : V5.heap[Y]? = some (.cells #[v0, v1, v2, v3, v4, v5, z6, z7] T (0, 0)) := by rw [← hV5]; exact set_laid (i := 5) h4 v5
  obtain ⟨V6, hV6⟩ : ∃ W, V5.setCell ⟨Y, 6, none⟩ v6 = W := ⟨_, rfl⟩
  have h6 : V6.heap[Y]? = some (.cells #[v0, v1, v2, v3, v4, v5, v6, z7] T (0, 0)) := by rw [← hV6]; exact set_laid (i := 6) h5 v6
  obtain ⟨V7, hV7⟩ : ∃ W, V6.setCell ⟨Y, 7, none⟩ v7 = W := ⟨_, rfl⟩
  have h7 : V7.heap[Y]? = some (.cells #[v0, v1, v2, v3, v4, v5, v6, v7] T (0, 0)) := by rw [← hV7]; exact set_laid (i := 7) h6 v7
  refine ⟨V7, by rw [hV0, hV1, hV2, hV3, hV4, hV5, hV6, hV7], h7, fun k o hk ho => ?_, fun B w hB hb => ?_, fun base wa wc la lc M h1' h2' hm => ?_, ?_⟩
  · rw [← hV7, ← hV6, ← hV5, ← hV4, ← hV3, ← hV2, ← hV1, ← hV0]; exact (other_laid (other_laid (other_laid (other_laid (other_laid (other_laid (other_laid (other_laid ho hk _) hk _) hk _) hk _) hk _) hk _) hk _) hk _)
  · rw [← hV7, ← hV6, ← hV5, ← hV4, ← hV3, ← hV2, ← hV1, ← hV0]; exact ((((((((hb.setCell hB _).setCell hB _).setCell hB _).setCell hB _).setCell hB _).setCell hB _).setCell hB _).setCell hB _)
  · have m0 := hm.set h h1' h2' (i := 0) v0
    rw [hV0] at m0
    have m1 := m0.set h0 h1' h2' (i := 1) v1
    rw [hV1] at m1
    have m2 := m1.set h1 h1' h2' (i := 2) v2
    rw [hV2] at m2
    have m3 := m2.set h2 h1' h2' (i := 3) v3
    rw [hV3] at m3
    have m4 := m3.set h3 h1' h2' (i := 4) v4
    rw [hV4] at m4
    have m5 := m4.set h4 h1' h2' (i := 5) v5
    rw [hV5] at m5
    have m6 := m5.set h5 h1' h2' (i := 6) v6
    rw [hV6] at m6
    have m7 := m6.set h6 h1' h2' (i := 7) v7
    rw [hV7] at m7
    exact m7
  · rw [← hV7, ← hV6, ← hV5, ← hV4, ← hV3, ← hV2, ← hV1, ← hV0]; exact ((((((((Tch.set (P := fun k => k = Y) rfl _).trans (Tch.set (P := fun k => k = Y) rfl _)).trans (Tch.set (P := fun k => k = Y) rfl _)).trans (Tch.set (P := fun k => k = Y) rfl _)).trans (Tch.set (P := fun k => k = Y) rfl _)).trans (Tch.set (P := fun k => k = Y) rfl _)).trans (Tch.set (P := fun k => k = Y) rfl _)).trans (Tch.set (P := fun k => k = Y) rfl _))
def zeroM : Mem := ⟨[], [], false⟩
def zeroSk : Sk := ⟨0, 0, 0, 0, 0, 0, false⟩
def zeroEd : Ede := ⟨0, false, 0, 0, 0, 0, 0, 0⟩
def seekK (head hash key : Nat) : Sk := ⟨0, hash, key, head, 0, 0, false⟩
def putK (link : Nat) (n : Nd) (next : Nat) : Ede := ⟨0, false, link, n.1, n.2.1, n.2.2.1, n.2.2.2, next⟩
def cutK (link node : Nat) : Ede := ⟨4, true, link, node, 0, 0, 0, 0⟩
theorem Seek_result {W : World} {b6 : Nat} {v6_0 v6_1 v6_2 v6_3 v6_4 v6_5 v6_6 : Value} {tmps : Array Value} (h6 : W.heap[b6]? = some (.cells #[v6_0, v6_1, v6_2, v6_3, v6_4, v6_5, v6_6] 41 (0, 0))) (q6 : tmps[6]?.getD undef = .pointer (some ⟨b6, 0, none⟩)) :
    (results Tryz.f81 tmps).run Tryz.prog W = .ok (.agg #[v6_0, v6_1, v6_2, v6_3, v6_4, v6_5, v6_6]) W := by
  have e6_0 := cell_laid (i := 0) (v := v6_0) h6 rfl
  have e6_1 := cell_laid (i := 1) (v := v6_1) h6 rfl
  have e6_2 := cell_laid (i := 2) (v := v6_2) h6 rfl
  have e6_3 := cell_laid (i := 3) (v := v6_3) h6 rfl
  have e6_4 := cell_laid (i := 4) (v := v6_4) h6 rfl
  have e6_5 := cell_laid (i := 5) (v := v6_5) h6 rfl
  have e6_6 := cell_laid (i := 6) (v := v6_6) h6 rfl
  simp [results, Tryz.results81, go_sem, e6_0, e6_1, e6_2, e6_3, e6_4, e6_5, e6_6, q6]
set_option maxRecDepth 100000 in
theorem Seek_any (head hash key : Nat) (V : World) : Calls Tryz.prog 81 #[.int .u64 ((head : Nat) : Int), .int .u64 ((hash : Nat) : Int), .int .u64 ((key : Nat) : Int)] V (Ret (skV (seekK head hash key)) V) := by
  obtain ⟨V1, hV1, hbV1, hsV1, hlV1⟩ := laid V #[.int .i64 0, .int .u64 0, .int .u64 0, .int .u64 0, .int .u64 0, .int .u64 0, .bool false] 41
  obtain ⟨Z, hZ⟩ : ∃ X, V.heap.size = X := ⟨_, rfl⟩
  rw [hZ] at hlV1
  have KZ := hid hlV1
  have HB := hid hbV1
  have hVZ : V.heap.size ≤ Z := by omega
  clear hbV1 hsV1 hlV1
  obtain ⟨V9, hV9, a1, -, a3, -⟩ := putM7 KZ.out (.int .i64 0) (.int .u64 ((hash : Nat) : Int)) (.int .u64 ((key : Nat) : Int)) (.int .u64 ((head : Nat) : Int)) (.int .u64 0) (.int .u64 0) (.bool false)
  obtain ⟨z0, zf0, z1, zf1, z2, zf2, z3, zf3, z4, zf4, z5, zf5, z6, zf6⟩ := fcl7 KZ.out
  have HV9 := hid hV9
  have K9 := hid a1
  have HB9 := hid (a3 V.heap.size V hVZ HB.out)
  clear hV9 a1 a3
  go_enter Tryz.func81, Tryz.ntmps81
  go_wp2
  rw [← HV9.out]
  refine bodyPost_ret (Seek_result K9.out rfl) rfl ?_
  exact ⟨rfl, HB9.out⟩
theorem Put_result {W : World} {b6 : Nat} {v6_0 v6_1 v6_2 v6_3 v6_4 v6_5 v6_6 v6_7 : Value} {tmps : Array Value} (h6 : W.heap[b6]? = some (.cells #[v6_0, v6_1, v6_2, v6_3, v6_4, v6_5, v6_6, v6_7] 97 (0, 0))) (q6 : tmps[6]?.getD undef = .pointer (some ⟨b6, 0, none⟩)) :
    (results Tryz.f45 tmps).run Tryz.prog W = .ok (.agg #[v6_0, v6_1, v6_2, v6_3, v6_4, v6_5, v6_6, v6_7]) W := by
  have e6_0 := cell_laid (i := 0) (v := v6_0) h6 rfl
  have e6_1 := cell_laid (i := 1) (v := v6_1) h6 rfl
  have e6_2 := cell_laid (i := 2) (v := v6_2) h6 rfl
  have e6_3 := cell_laid (i := 3) (v := v6_3) h6 rfl
  have e6_4 := cell_laid (i := 4) (v := v6_4) h6 rfl
  have e6_5 := cell_laid (i := 5) (v := v6_5) h6 rfl
  have e6_6 := cell_laid (i := 6) (v := v6_6) h6 rfl
  have e6_7 := cell_laid (i := 7) (v := v6_7) h6 rfl
  simp [results, Tryz.results45, go_sem, e6_0, e6_1, e6_2, e6_3, e6_4, e6_5, e6_6, e6_7, q6]
set_option maxRecDepth 100000 in
theorem Put_any (link next : Nat) (n : Nd) (V : World) : Calls Tryz.prog 45 #[.int .u64 ((link : Nat) : Int), ndV n, .int .u64 ((next : Nat) : Int)] V (Ret (edV (putK link n next)) V) := by
  obtain ⟨n0, n1, n2, n3⟩ := n
  unfold ndV putK
  obtain ⟨V1, hV1, hbV1, hsV1, hlV1⟩ := laid V #[.int .u64 ((n0 : Nat) : Int), .int .u64 ((n1 : Nat) : Int), .int .u64 ((n2 : Nat) : Int), .int .u64 ((n3 : Nat) : Int)] 50
  obtain ⟨V2, hV2, hbV2, hsV2, hlV2⟩ := laid V1 #[.int .i64 0, .bool false, .int .u64 0, .int .u64 0, .int .u64 0, .int .u64 0, .int .u64 0, .int .u64 0] 97
  obtain ⟨N, hN⟩ : ∃ X, V.heap.size = X := ⟨_, rfl⟩
  rw [hN] at hlV1
  obtain ⟨Z, hZ⟩ : ∃ X, V1.heap.size = X := ⟨_, rfl⟩
  rw [hZ] at hlV2
  have KN := hid (keep_laid hlV1 hbV2)
  have KZ := hid hlV2
  have HB := hid (step hbV1 hbV2)
  have hVN : V.heap.size ≤ N := by omega
  have hVZ : V.heap.size ≤ Z := by omega
  have nNZ : N < Z := by omega
  clear hbV1 hsV1 hlV1 hbV2 hsV2 hlV2
  obtain ⟨x0, x1, x2, x3⟩ := ncl4 KN.out
  obtain ⟨V9, hV9, a1, -, a3, -⟩ := putM8 KZ.out (.int .i64 0) (.bool false) (.int .u64 ((link : Nat) : Int)) (.int .u64 ((n0 : Nat) : Int)) (.int .u64 ((n1 : Nat) : Int)) (.int .u64 ((n2 : Nat) : Int)) (.int .u64 ((n3 : Nat) : Int)) (.int .u64 ((next : Nat) : Int))
  obtain ⟨z0, zf0, z1, zf1, z2, zf2, z3, zf3, z4, zf4, z5, zf5, z6, zf6, z7, zf7⟩ := fcl8 KZ.out
  have HV9 := hid hV9
  have K9 := hid a1
  have HB9 := hid (a3 V.heap.size V hVZ HB.out)
  clear hV9 a1 a3
  go_enter Tryz.func45, Tryz.ntmps45
  go_wp2
  rw [← HV9.out]
  refine bodyPost_ret (Put_result K9.out rfl) rfl ?_
  exact ⟨rfl, HB9.out⟩
theorem Cut_result {W : World} {b4 : Nat} {v4_0 v4_1 v4_2 v4_3 v4_4 v4_5 v4_6 v4_7 : Value} {tmps : Array Value} (h4 : W.heap[b4]? = some (.cells #[v4_0, v4_1, v4_2, v4_3, v4_4, v4_5, v4_6, v4_7] 97 (0, 0))) (q4 : tmps[4]?.getD undef = .pointer (some ⟨b4, 0, none⟩)) :
    (results Tryz.f47 tmps).run Tryz.prog W = .ok (.agg #[v4_0, v4_1, v4_2, v4_3, v4_4, v4_5, v4_6, v4_7]) W := by
  have e4_0 := cell_laid (i := 0) (v := v4_0) h4 rfl
  have e4_1 := cell_laid (i := 1) (v := v4_1) h4 rfl
  have e4_2 := cell_laid (i := 2) (v := v4_2) h4 rfl
  have e4_3 := cell_laid (i := 3) (v := v4_3) h4 rfl
  have e4_4 := cell_laid (i := 4) (v := v4_4) h4 rfl
  have e4_5 := cell_laid (i := 5) (v := v4_5) h4 rfl
  have e4_6 := cell_laid (i := 6) (v := v4_6) h4 rfl
  have e4_7 := cell_laid (i := 7) (v := v4_7) h4 rfl
  simp [results, Tryz.results47, go_sem, e4_0, e4_1, e4_2, e4_3, e4_4, e4_5, e4_6, e4_7, q4]
set_option maxRecDepth 100000 in
theorem Cut_any (link node : Nat) (V : World) : Calls Tryz.prog 47 #[.int .u64 ((link : Nat) : Int), .int .u64 ((node : Nat) : Int)] V (Ret (edV (cutK link node)) V) := by
  obtain ⟨V1, hV1, hbV1, hsV1, hlV1⟩ := laid V #[.int .i64 0, .bool false, .int .u64 0, .int .u64 0, .int .u64 0, .int .u64 0, .int .u64 0, .int .u64 0] 97
  obtain ⟨Z, hZ⟩ : ∃ X, V.heap.size = X := ⟨_, rfl⟩
  rw [hZ] at hlV1
  have KZ := hid hlV1
  have HB := hid hbV1
  have hVZ : V.heap.size ≤ Z := by omega
  clear hbV1 hsV1 hlV1
  obtain ⟨V9, hV9, a1, -, a3, -⟩ := putM8 KZ.out (.int .i64 4) (.bool true) (.int .u64 ((link : Nat) : Int)) (.int .u64 ((node : Nat) : Int)) (.int .u64 0) (.int .u64 0) (.int .u64 0) (.int .u64 0)
  obtain ⟨z0, zf0, z1, zf1, z2, zf2, z3, zf3, z4, zf4, z5, zf5, z6, zf6, z7, zf7⟩ := fcl8 KZ.out
  have HV9 := hid hV9
  have K9 := hid a1
  have HB9 := hid (a3 V.heap.size V hVZ HB.out)
  clear hV9 a1 a3
  go_enter Tryz.func47, Tryz.ntmps47
  go_wp2
  rw [← HV9.out]
  refine bodyPost_ret (Cut_result K9.out rfl) rfl ?_
  exact ⟨rfl, HB9.out⟩
theorem StepSeek_result {W : World} {b4 b5 : Nat} {v4_0 v4_1 v4_2 v5_0 v5_1 v5_2 v5_3 v5_4 v5_5 v5_6 u6 : Value} {tmps : Array Value} (h4 : W.heap[b4]? = some (.cells #[v4_0, v4_1, v4_2] 25 (0, 0))) (q4 : tmps[4]?.getD undef = .pointer (some ⟨b4, 0, none⟩)) (h5 : W.heap[b5]? = some (.cells #[v5_0, v5_1, v5_2, v5_3, v5_4, v5_5, v5_6] 41 (0, 0))) (q5 : tmps[5]?.getD undef = .pointer (some ⟨b5, 0, none⟩)) (q6 : tmps[6]?.getD undef = u6) :
    (results Tryz.f82 tmps).run Tryz.prog W = .ok (.tuple #[.agg #[v4_0, v4_1, v4_2], .agg #[v5_0, v5_1, v5_2, v5_3, v5_4, v5_5, v5_6], u6]) W := by
  have e4_0 := cell_laid (i := 0) (v := v4_0) h4 rfl
  have e4_1 := cell_laid (i := 1) (v := v4_1) h4 rfl
  have e4_2 := cell_laid (i := 2) (v := v4_2) h4 rfl
  have e5_0 := cell_laid (i := 0) (v := v5_0) h5 rfl
  have e5_1 := cell_laid (i := 1) (v := v5_1) h5 rfl
  have e5_2 := cell_laid (i := 2) (v := v5_2) h5 rfl
  have e5_3 := cell_laid (i := 3) (v := v5_3) h5 rfl
  have e5_4 := cell_laid (i := 4) (v := v5_4) h5 rfl
  have e5_5 := cell_laid (i := 5) (v := v5_5) h5 rfl
  have e5_6 := cell_laid (i := 6) (v := v5_6) h5 rfl
  simp [results, Tryz.results82, go_sem, e4_0, e4_1, e4_2, q4, e5_0, e5_1, e5_2, e5_3, e5_4, e5_5, e5_6, q5, q6]
/-- What StepSeek gives. -/
def sseekP (M : Mem) (s : Sk) : Mem × Sk × Nat := if okM M = false then (zeroM, zeroSk, 120) else if s.ph < 0 ∨ 5 < s.ph then (zeroM, zeroSk, 251) else ((seekE M s).1, (seekE M s).2.1, 0)
def GivesStepSeek (R : Mem × Sk × Nat) (w : World) (e : Ending) (W : World) : Prop := ∃ wa wc la lc, e = .returned (.tuple #[memV wa wc la lc R.1, skV R.2.1, .int .i64 ((R.2.2 : Nat) : Int)]) ∧ MemO w.heap.size wa wc la lc R.1 W ∧ Below w.heap.size w W
structure RStepSeek (R S : Nat) (cs cs' : Array Value) where
  w : World
  br : w.heap[R]? = some (.cells cs 174 (0, 0))
  bs : w.heap[S]? = some (.cells cs' 41 (0, 0))
set_option maxRecDepth 100000 in
set_option maxHeartbeats 8000000 in
theorem StepSeek_any (M : Mem) (s : Sk) (wa la : Option Addr) (wc lc : Nat) (V : World) (h : MemL V wa wc la lc M) (hs : s.Ok) :
    Calls Tryz.prog 82 #[memV wa wc la lc M, skV s] V (GivesStepSeek (sseekP M s) V) := by
  obtain ⟨ph, hash, key, link, node, val, found⟩ := s
  obtain ⟨V1, hV1, hbV1, hsV1, hlV1⟩ := laid V #[.slice wa M.W.length wc, .slice la M.L.length lc, .bool M.F] 25
  obtain ⟨V2, hV2, hbV2, hsV2, hlV2⟩ := laid V1 #[.int .i64 ph, .int .u64 ((hash : Nat) : Int), .int .u64 ((key : Nat) : Int), .int .u64 ((link : Nat) : Int), .int .u64 ((node : Nat) : Int), .int .u64 ((val : Nat) : Int), .bool found] 41
  obtain ⟨V3, hV3, hbV3, hsV3, hlV3⟩ := laid V2 #[.slice none 0 0, .slice none 0 0, .bool false] 25
  obtain ⟨V4, hV4, hbV4, hsV4, hlV4⟩ := laid V3 #[.int .i64 0, .int .u64 0, .int .u64 0, .int .u64 0, .int .u64 0, .int .u64 0, .bool false] 41
  obtain ⟨X, hX⟩ : ∃ X, V.heap.size = X := ⟨_, rfl⟩
  rw [hX] at hlV1
  obtain ⟨S, hS⟩ : ∃ X, V1.heap.size = X := ⟨_, rfl⟩
  rw [hS] at hlV2
  obtain ⟨Z, hZ⟩ : ∃ X, V2.heap.size = X := ⟨_, rfl⟩
  rw [hZ] at hlV3
  obtain ⟨G, hG⟩ : ∃ X, V3.heap.size = X := ⟨_, rfl⟩
  rw [hG] at hlV4
  have KX := hid (keep_laid (keep_laid (keep_laid hlV1 hbV2) hbV3) hbV4)
  have KS := hid (keep_laid (keep_laid hlV2 hbV3) hbV4)
  have KZ := hid (keep_laid hlV3 hbV4)
  have KG := hid hlV4
  have HB := hid (step (step (step hbV1 hbV2) hbV3) hbV4)
  have hVX : V.heap.size ≤ X := by omega
  have hVS : V.heap.size ≤ S := by omega
  have nXS : X < S := by omega
  have hVZ : V.heap.size ≤ Z := by omega
  have nXZ : X < Z := by omega
  have nSZ : S < Z := by omega
  have hVG : V.heap.size ≤ G := by omega
  have nXG : X < G := by omega
  have nSG : S < G := by omega
  have nZG : Z < G := by omega
  clear hbV1 hsV1 hlV1 hbV2 hsV2 hlV2 hbV3 hsV3 hlV3 hbV4 hsV4 hlV4
  have HSK := hid hs
  have HM := hid (h.grow HB.out)
  have HCK := hid (Check_any M wa la wc lc V4 HM.out)
  have HOW : Hid (okM M = true → ∀ W, Below V4.heap.size V4 W → Calls Tryz.prog 90 #[.agg #[.slice wa M.W.length wc, .slice la M.L.length lc, .bool M.F]] W (GivesOwn M W)) := hid (fun ok W hb => lsown_any M wa la wc lc W (HM.out.grow hb) ok)
  have hwl := h.w.len
  have hll := h.l.len
  unfold memV at HCK ⊢
  unfold skV
  dsimp only
  obtain ⟨x0, x1, x2⟩ := cells3 KX.out
  clear h hs
  go_enter Tryz.func82, Tryz.ntmps82
  cases hok : okM M with
  | false =>
    rw [hok, if_neg (by decide)] at HCK
    have HR : Hid (sseekP M (⟨ph, hash, key, link, node, val, found⟩ : Sk) = (zeroM, zeroSk, 120)) := hid (by unfold sseekP; rw [hok]; rfl)
    clear hok
    go_wp2_with fail
    refine HCK.out.mono ?_
    rintro e V5 ⟨rfl, hb5⟩
    have KZ5 := hid (keep_laid KZ.out hb5)
    have KG5 := hid (keep_laid KG.out hb5)
    have HB5 := hid (step HB.out hb5)
    clear hb5 x0 x1 x2
    obtain ⟨U1, hU1, a1, a2, a3, -⟩ := put_mem KZ5.out (.slice none 0 0) (.slice none 0 0) (.bool false)
    have hg1 := a2 G _ (by omega) KG5.out
    obtain ⟨U2, hU2, c1, c2, c3, -⟩ := putM7 hg1 (.int .i64 0) (.int .u64 0) (.int .u64 0) (.int .u64 0) (.int .u64 0) (.int .u64 0) (.bool false)
    obtain ⟨z0, zf0, z1, zf1, z2, zf2⟩ := fcl3 KZ5.out
    obtain ⟨g0, gf0, g1, gf1, g2, gf2, g3, gf3, g4, gf4, g5, gf5, g6, gf6⟩ := fcl7 KG5.out
    have HU1 := hid hU1
    have HU2 := hid hU2
    have KZ9 := hid (c2 Z _ (by omega) a1)
    have KG9 := hid c1
    have HB9 := hid (c3 V.heap.size V (by omega) (a3 V.heap.size V (by omega) HB5.out))
    clear hU1 hU2 a1 a2 a3 c1 c2 c3 hg1
    go_wp2
    rw [← HU1.out, ← HU2.out]
    refine bodyPost_ret (StepSeek_result KZ9.out rfl KG9.out rfl rfl) rfl ?_
    rw [HR.out]
    exact ⟨none, 0, none, 0, rfl, ⟨World.ownsRow_nil _ _ _ _, World.ownsRow_nil _ _ _ _⟩, HB9.out⟩
  | true =>
    rw [hok, if_pos rfl] at HCK
    have HOK := hid hok
    go_wp2_with fail
    refine HCK.out.mono ?_
    rintro e V5 ⟨rfl, hb5⟩
    have KX5 := hid (keep_laid KX.out hb5)
    have KS5 := hid (keep_laid KS.out hb5)
    have KZ5 := hid (keep_laid KZ.out hb5)
    have KG5 := hid (keep_laid KG.out hb5)
    have HB5 := hid (step HB.out hb5)
    have HB45 := hid hb5
    clear hb5 x0 x1 x2
    have s0 : ∀ z : Ext V5, z.v.cell? ⟨S, 0, none⟩ = some (.int .i64 ph) := fun z => cell_laid (keep_laid KS5.out z.b) rfl
    by_cases h0 : ph < 0
    · have t0 : decide (ph < 0) = true := decide_eq_true h0
      have HR : Hid (sseekP M (⟨ph, hash, key, link, node, val, found⟩ : Sk) = (zeroM, zeroSk, 251)) := hid (by unfold sseekP; rw [hok, if_neg (by decide), if_pos (.inl h0)])
      clear hok h0
      go_upto_region 4 with (fail)
      refine wp_region_ext (by kernel_rfl) (by kernel_rfl) ?_
      repeat (go_big_quiet_step ((go_at_call 100; exact ext_of (skg_any _))))
      refine wpQuiet_nil ?_
      rintro V6 ⟨x6, e6⟩
      have hb6 := x6.b
      rw [← e6] at hb6
      clear e6 x6
      have KX6 := hid (keep_laid KX5.out hb6)
      have KS6 := hid (keep_laid KS5.out hb6)
      have KZ6 := hid (keep_laid KZ5.out hb6)
      have KG6 := hid (keep_laid KG5.out hb6)
      have HB6 := hid (step HB5.out hb6)
      have HB46 := hid (step HB45.out hb6)
      clear hb6 s0
      obtain ⟨U1, hU1, a1, a2, a3, -⟩ := put_mem KZ6.out (.slice none 0 0) (.slice none 0 0) (.bool false)
      have hg1 := a2 G _ (by omega) KG6.out
      obtain ⟨U2, hU2, c1, c2, c3, -⟩ := putM7 hg1 (.int .i64 0) (.int .u64 0) (.int .u64 0) (.int .u64 0) (.int .u64 0) (.int .u64 0) (.bool false)
      obtain ⟨z0, zf0, z1, zf1, z2, zf2⟩ := fcl3 KZ6.out
      obtain ⟨g0, gf0, g1, gf1, g2, gf2, g3, gf3, g4, gf4, g5, gf5, g6, gf6⟩ := fcl7 KG6.out
      have HU1 := hid hU1
      have HU2 := hid hU2
      have KZ9 := hid (c2 Z _ (by omega) a1)
      have KG9 := hid c1
      have HB9 := hid (c3 V.heap.size V (by omega) (a3 V.heap.size V (by omega) HB6.out))
      clear hU1 hU2 a1 a2 a3 c1 c2 c3 hg1
      go_wp2
      rw [← HU1.out, ← HU2.out]
      refine bodyPost_ret (StepSeek_result KZ9.out rfl KG9.out rfl rfl) rfl ?_
      rw [HR.out]
      exact ⟨none, 0, none, 0, rfl, ⟨World.ownsRow_nil _ _ _ _, World.ownsRow_nil _ _ _ _⟩, HB9.out⟩
    have t0 : decide (ph < 0) = false := decide_eq_false h0
    by_cases h5 : 5 < ph
    · have t1 : decide ((6 : Int) ≤ ph) = true := decide_eq_true (by omega)
      have HR : Hid (sseekP M (⟨ph, hash, key, link, node, val, found⟩ : Sk) = (zeroM, zeroSk, 251)) := hid (by unfold sseekP; rw [hok, if_neg (by decide), if_pos (.inr h5)])
      clear hok h0 h5
      go_upto_region 4 with (fail)
      refine wp_region_ext (by kernel_rfl) (by kernel_rfl) ?_
      repeat (go_big_quiet_step ((go_at_call 100; exact ext_of (skg_any _))))
      refine wpQuiet_nil ?_
      rintro V6 ⟨x6, e6⟩
      have hb6 := x6.b
      rw [← e6] at hb6
      clear e6 x6
      have KX6 := hid (keep_laid KX5.out hb6)
      have KS6 := hid (keep_laid KS5.out hb6)
      have KZ6 := hid (keep_laid KZ5.out hb6)
      have KG6 := hid (keep_laid KG5.out hb6)
      have HB6 := hid (step HB5.out hb6)
      have HB46 := hid (step HB45.out hb6)
      clear hb6 s0
      obtain ⟨U1, hU1, a1, a2, a3, -⟩ := put_mem KZ6.out (.slice none 0 0) (.slice none 0 0) (.bool false)
      have hg1 := a2 G _ (by omega) KG6.out
      obtain ⟨U2, hU2, c1, c2, c3, -⟩ := putM7 hg1 (.int .i64 0) (.int .u64 0) (.int .u64 0) (.int .u64 0) (.int .u64 0) (.int .u64 0) (.bool false)
      obtain ⟨z0, zf0, z1, zf1, z2, zf2⟩ := fcl3 KZ6.out
      obtain ⟨g0, gf0, g1, gf1, g2, gf2, g3, gf3, g4, gf4, g5, gf5, g6, gf6⟩ := fcl7 KG6.out
      have HU1 := hid hU1
      have HU2 := hid hU2
      have KZ9 := hid (c2 Z _ (by omega) a1)
      have KG9 := hid c1
      have HB9 := hid (c3 V.heap.size V (by omega) (a3 V.heap.size V (by omega) HB6.out))
      clear hU1 hU2 a1 a2 a3 c1 c2 c3 hg1
      go_wp2
      rw [← HU1.out, ← HU2.out]
      refine bodyPost_ret (StepSeek_result KZ9.out rfl KG9.out rfl rfl) rfl ?_
      rw [HR.out]
      exact ⟨none, 0, none, 0, rfl, ⟨World.ownsRow_nil _ _ _ _, World.ownsRow_nil _ _ _ _⟩, HB9.out⟩
    have t1 : decide ((6 : Int) ≤ ph) = false := decide_eq_false (by omega)
    obtain ⟨⟨M', s', bb⟩, hST⟩ : ∃ R, seekE M (⟨ph, hash, key, link, node, val, found⟩ : Sk) = R := ⟨_, rfl⟩
    have HR : Hid (sseekP M (⟨ph, hash, key, link, node, val, found⟩ : Sk) = (M', s', 0)) := hid (by unfold sseekP; rw [hok, if_neg (by decide), if_neg (by dsimp only; omega), hST])
    have HP := hid (show 0 ≤ ph ∧ ph ≤ 5 by omega)
    have HST := hid hST
    clear hok h0 h5 hST
    go_upto_region 4 with (fail)
    refine wp_region_ext (by kernel_rfl) (by kernel_rfl) ?_
    repeat (go_big_quiet_step ((go_at_call 100; exact ext_of (skg_any _))))
    refine wpQuiet_nil ?_
    rintro V6 ⟨x6, e6⟩
    have hb6 := x6.b
    rw [← e6] at hb6
    clear e6 x6
    have KX6 := hid (keep_laid KX5.out hb6)
    have KS6 := hid (keep_laid KS5.out hb6)
    have KZ6 := hid (keep_laid KZ5.out hb6)
    have KG6 := hid (keep_laid KG5.out hb6)
    have HB6 := hid (step HB5.out hb6)
    have HB46 := hid (step HB45.out hb6)
    clear hb6 s0
    obtain ⟨x0, x1, x2⟩ := cells3 KX6.out
    go_wp2_with fail
    refine (HOW.out HOK.out V6 HB46.out).mono ?_
    rintro e V7 ⟨R, rfl, hR, hRC, hb7⟩
    have KS7 := hid (keep_laid KS6.out hb7)
    have KZ7 := hid (keep_laid KZ6.out hb7)
    have KG7 := hid (keep_laid KG6.out hb7)
    have hV7 := hb7.size
    have hZ6 := lt_laid KZ6.out
    have hG6 := lt_laid KG6.out
    have hS6 := lt_laid KS6.out
    have hV6 := HB6.out.size
    have HB7 := hid (step HB6.out hb7)
    have HSE := hid (seek_any V6.heap.size R S M 0 (⟨ph, hash, key, link, node, val, found⟩ : Sk) V7 hRC KS7.out hV7 HOK.out HSK.out HP.out.1 HP.out.2 (by decide))
    rw [HST.out] at HSE
    clear hb7 hRC x0 x1 x2
    go_wp2_with fail
    refine HSE.out.mono ?_
    rintro e V8 ⟨rfl, hrc, hs8, ht8⟩
    obtain ⟨wa', wc', la', lc', kR, kO⟩ := hrc
    have hZS : Z ≠ S := by omega
    have hGS : G ≠ S := by omega
    have hRZ : Z ≠ R := by omega
    have hRG : G ≠ R := by omega
    have KR8 := hid kR
    have KS8 := hid hs8
    have KZ8 := hid (ht8.keep KZ7.out (by rintro (e | e) <;> omega))
    have KG8 := hid (ht8.keep KG7.out (by rintro (e | e) <;> omega))
    have HO8 := hid (kO.base (base' := V.heap.size) hV6)
    have HB8 := hid (HB7.out.trans (ht8.below (B := V.heap.size) (by rintro k (e | e) <;> omega) HB7.out.size))
    have hwl' := kO.memL.w.len
    have hll' := kO.memL.l.len
    clear kR kO hs8 ht8
    obtain ⟨n', hn'⟩ : ∃ n' : Nat, (if (M', s', bb).2.2 = true then 0 + 1 else 0) = n' := ⟨_, rfl⟩
    rw [hn'] at KR8
    dsimp only at KR8 KS8 HO8 hwl' hll'
    clear hn'
    go_upto_region 8 with (fail)
    obtain ⟨D, hD⟩ : ∃ DX, V8.drew = DX := ⟨_, rfl⟩
    have hbD : Below V8.heap.size V8 D := by rw [← hD]; exact (Below.refl _ _).drew
    have HD := hid hD
    have KRD := hid (keep_laid KR8.out hbD)
    have KSD := hid (keep_laid KS8.out hbD)
    have KZD := hid (keep_laid KZ8.out hbD)
    have KGD := hid (keep_laid KG8.out hbD)
    have HOD := hid (HO8.out.grow hbD)
    have HBD := hid (step HB8.out hbD)
    clear hD hbD
    obtain ⟨ph', hash', key', link', node', val', found'⟩ := s'
    obtain ⟨U1, hU1, a1, a2, a3, a4⟩ := put_mem KZD.out (.slice wa' M'.W.length wc') (.slice la' M'.L.length lc') (.bool M'.F)
    have KG9 := hid (a2 G _ (by omega) KGD.out)
    obtain ⟨U2, hU2, c1, c2, c3, c4, -⟩ := putM7 KG9.out (.int .i64 ph') (.int .u64 ((hash' : Nat) : Int)) (.int .u64 ((key' : Nat) : Int)) (.int .u64 ((link' : Nat) : Int)) (.int .u64 ((node' : Nat) : Int)) (.int .u64 ((val' : Nat) : Int)) (.bool found')
    have KR9 := hid (a2 R _ (by omega) KRD.out)
    have KS9 := hid (a2 S _ (by omega) KSD.out)
    have KR10 := hid (c2 R _ (by omega) KR9.out)
    have KS10 := hid (c2 S _ (by omega) KS9.out)
    have KZ10 := hid (c2 Z _ (by omega) a1)
    have KG10 := hid c1
    have HB10 := hid (c3 V.heap.size V (by omega) (a3 V.heap.size V (by omega) HBD.out))
    have HO10 := hid (c4 _ _ _ _ _ _ (by decide) (by decide) (a4 _ _ _ _ _ _ HOD.out))
    have HU1 := hid hU1
    have HU2 := hid hU2
    clear hU1 hU2 a1 a2 a3 a4 c1 c2 c3 c4
    haveI : Nonempty (RStepSeek R S #[.slice wa' M'.W.length wc', .slice la' M'.L.length lc', .bool M'.F, .int .i64 ((n' : Nat) : Int)] #[.int .i64 ph', .int .u64 ((hash' : Nat) : Int), .int .u64 ((key' : Nat) : Int), .int .u64 ((link' : Nat) : Int), .int .u64 ((node' : Nat) : Int), .int .u64 ((val' : Nat) : Int), .bool found']) := ⟨⟨D, KRD.out, KSD.out⟩⟩
    have r0 : ∀ z : RStepSeek R S #[.slice wa' M'.W.length wc', .slice la' M'.L.length lc', .bool M'.F, .int .i64 ((n' : Nat) : Int)] #[.int .i64 ph', .int .u64 ((hash' : Nat) : Int), .int .u64 ((key' : Nat) : Int), .int .u64 ((link' : Nat) : Int), .int .u64 ((node' : Nat) : Int), .int .u64 ((val' : Nat) : Int), .bool found'], z.w.cell? ⟨R, 0, none⟩ = some (.slice wa' M'.W.length wc') := fun z => cell_laid z.br rfl
    have r1 : ∀ z : RStepSeek R S #[.slice wa' M'.W.length wc', .slice la' M'.L.length lc', .bool M'.F, .int .i64 ((n' : Nat) : Int)] #[.int .i64 ph', .int .u64 ((hash' : Nat) : Int), .int .u64 ((key' : Nat) : Int), .int .u64 ((link' : Nat) : Int), .int .u64 ((node' : Nat) : Int), .int .u64 ((val' : Nat) : Int), .bool found'], z.w.cell? ⟨R, 1, none⟩ = some (.slice la' M'.L.length lc') := fun z => cell_laid z.br rfl
    have r2 : ∀ z : RStepSeek R S #[.slice wa' M'.W.length wc', .slice la' M'.L.length lc', .bool M'.F, .int .i64 ((n' : Nat) : Int)] #[.int .i64 ph', .int .u64 ((hash' : Nat) : Int), .int .u64 ((key' : Nat) : Int), .int .u64 ((link' : Nat) : Int), .int .u64 ((node' : Nat) : Int), .int .u64 ((val' : Nat) : Int), .bool found'], z.w.cell? ⟨R, 2, none⟩ = some (.bool M'.F) := fun z => cell_laid z.br rfl
    have s0 : ∀ z : RStepSeek R S #[.slice wa' M'.W.length wc', .slice la' M'.L.length lc', .bool M'.F, .int .i64 ((n' : Nat) : Int)] #[.int .i64 ph', .int .u64 ((hash' : Nat) : Int), .int .u64 ((key' : Nat) : Int), .int .u64 ((link' : Nat) : Int), .int .u64 ((node' : Nat) : Int), .int .u64 ((val' : Nat) : Int), .bool found'], z.w.cell? ⟨S, 0, none⟩ = some (.int .i64 ph') := fun z => cell_laid z.bs rfl
    have s1 : ∀ z : RStepSeek R S #[.slice wa' M'.W.length wc', .slice la' M'.L.length lc', .bool M'.F, .int .i64 ((n' : Nat) : Int)] #[.int .i64 ph', .int .u64 ((hash' : Nat) : Int), .int .u64 ((key' : Nat) : Int), .int .u64 ((link' : Nat) : Int), .int .u64 ((node' : Nat) : Int), .int .u64 ((val' : Nat) : Int), .bool found'], z.w.cell? ⟨S, 1, none⟩ = some (.int .u64 ((hash' : Nat) : Int)) := fun z => cell_laid z.bs rfl
    have s2 : ∀ z : RStepSeek R S #[.slice wa' M'.W.length wc', .slice la' M'.L.length lc', .bool M'.F, .int .i64 ((n' : Nat) : Int)] #[.int .i64 ph', .int .u64 ((hash' : Nat) : Int), .int .u64 ((key' : Nat) : Int), .int .u64 ((link' : Nat) : Int), .int .u64 ((node' : Nat) : Int), .int .u64 ((val' : Nat) : Int), .bool found'], z.w.cell? ⟨S, 2, none⟩ = some (.int .u64 ((key' : Nat) : Int)) := fun z => cell_laid z.bs rfl
    have s3 : ∀ z : RStepSeek R S #[.slice wa' M'.W.length wc', .slice la' M'.L.length lc', .bool M'.F, .int .i64 ((n' : Nat) : Int)] #[.int .i64 ph', .int .u64 ((hash' : Nat) : Int), .int .u64 ((key' : Nat) : Int), .int .u64 ((link' : Nat) : Int), .int .u64 ((node' : Nat) : Int), .int .u64 ((val' : Nat) : Int), .bool found'], z.w.cell? ⟨S, 3, none⟩ = some (.int .u64 ((link' : Nat) : Int)) := fun z => cell_laid z.bs rfl
    have s4 : ∀ z : RStepSeek R S #[.slice wa' M'.W.length wc', .slice la' M'.L.length lc', .bool M'.F, .int .i64 ((n' : Nat) : Int)] #[.int .i64 ph', .int .u64 ((hash' : Nat) : Int), .int .u64 ((key' : Nat) : Int), .int .u64 ((link' : Nat) : Int), .int .u64 ((node' : Nat) : Int), .int .u64 ((val' : Nat) : Int), .bool found'], z.w.cell? ⟨S, 4, none⟩ = some (.int .u64 ((node' : Nat) : Int)) := fun z => cell_laid z.bs rfl
    have s5 : ∀ z : RStepSeek R S #[.slice wa' M'.W.length wc', .slice la' M'.L.length lc', .bool M'.F, .int .i64 ((n' : Nat) : Int)] #[.int .i64 ph', .int .u64 ((hash' : Nat) : Int), .int .u64 ((key' : Nat) : Int), .int .u64 ((link' : Nat) : Int), .int .u64 ((node' : Nat) : Int), .int .u64 ((val' : Nat) : Int), .bool found'], z.w.cell? ⟨S, 5, none⟩ = some (.int .u64 ((val' : Nat) : Int)) := fun z => cell_laid z.bs rfl
    have s6 : ∀ z : RStepSeek R S #[.slice wa' M'.W.length wc', .slice la' M'.L.length lc', .bool M'.F, .int .i64 ((n' : Nat) : Int)] #[.int .i64 ph', .int .u64 ((hash' : Nat) : Int), .int .u64 ((key' : Nat) : Int), .int .u64 ((link' : Nat) : Int), .int .u64 ((node' : Nat) : Int), .int .u64 ((val' : Nat) : Int), .bool found'], z.w.cell? ⟨S, 6, none⟩ = some (.bool found') := fun z => cell_laid z.bs rfl
    refine wp_region_mix2 (fun W => ∃ z : RStepSeek R S #[.slice wa' M'.W.length wc', .slice la' M'.L.length lc', .bool M'.F, .int .i64 ((n' : Nat) : Int)] #[.int .i64 ph', .int .u64 ((hash' : Nat) : Int), .int .u64 ((key' : Nat) : Int), .int .u64 ((link' : Nat) : Int), .int .u64 ((node' : Nat) : Int), .int .u64 ((val' : Nat) : Int), .bool found'], W = z.w) 8 (.q 0 (.q 1 (.q 2 (.q 3 (.q 4 (.h 5 (.h 6 (.q 7 .done)))))))) (by kernel_rfl) (by kernel_rfl) (by rw [HD.out]; exact ⟨⟨D, KRD.out, KSD.out⟩, rfl⟩) ?_
    rw [HD.out]
    repeat (refine wpMix2_q rfl rfl ?_; go_big_quiet_step (fail); refine wpQuiet_nil ?_)
    obtain ⟨z0, zf0, z1, zf1, z2, zf2⟩ := fcl3 KZD.out
    refine wpMix2_h rfl fun R' hR' hO => ?_
    go_wp2
    rw [← HU1.out]
    refine hR' _ _ ⟨⟨U1, KR9.out, KS9.out⟩, rfl⟩ ?_
    clear hR' hO R' z0 z1 z2 zf0 zf1 zf2
    obtain ⟨g0, gf0, g1, gf1, g2, gf2, g3, gf3, g4, gf4, g5, gf5, g6, gf6⟩ := fcl7 KG9.out
    refine wpMix2_h rfl fun R' hR' hO => ?_
    go_wp2
    rw [← HU2.out]
    refine hR' _ _ ⟨⟨U2, KR10.out, KS10.out⟩, rfl⟩ ?_
    clear hR' hO R' g0 g1 g2 g3 g4 g5 g6 gf0 gf1 gf2 gf3 gf4 gf5 gf6
    repeat (refine wpMix2_q rfl rfl ?_; go_big_quiet_step (fail); refine wpQuiet_nil ?_)
    refine wpMix2_done ?_
    simp only [List.drop_succ_cons, List.drop_nil]
    go_wp2
    refine bodyPost_ret (StepSeek_result KZ10.out rfl KG10.out rfl rfl) rfl ?_
    rw [HR.out]
    exact ⟨wa', wc', la', lc', rfl, HO10.out, HB10.out⟩
theorem StepEdit_result {W : World} {b4 b5 : Nat} {v4_0 v4_1 v4_2 v5_0 v5_1 v5_2 v5_3 v5_4 v5_5 v5_6 v5_7 u6 : Value} {tmps : Array Value} (h4 : W.heap[b4]? = some (.cells #[v4_0, v4_1, v4_2] 25 (0, 0))) (q4 : tmps[4]?.getD undef = .pointer (some ⟨b4, 0, none⟩)) (h5 : W.heap[b5]? = some (.cells #[v5_0, v5_1, v5_2, v5_3, v5_4, v5_5, v5_6, v5_7] 97 (0, 0))) (q5 : tmps[5]?.getD undef = .pointer (some ⟨b5, 0, none⟩)) (q6 : tmps[6]?.getD undef = u6) :
    (results Tryz.f70 tmps).run Tryz.prog W = .ok (.tuple #[.agg #[v4_0, v4_1, v4_2], .agg #[v5_0, v5_1, v5_2, v5_3, v5_4, v5_5, v5_6, v5_7], u6]) W := by
  have e4_0 := cell_laid (i := 0) (v := v4_0) h4 rfl
  have e4_1 := cell_laid (i := 1) (v := v4_1) h4 rfl
  have e4_2 := cell_laid (i := 2) (v := v4_2) h4 rfl
  have e5_0 := cell_laid (i := 0) (v := v5_0) h5 rfl
  have e5_1 := cell_laid (i := 1) (v := v5_1) h5 rfl
  have e5_2 := cell_laid (i := 2) (v := v5_2) h5 rfl
  have e5_3 := cell_laid (i := 3) (v := v5_3) h5 rfl
  have e5_4 := cell_laid (i := 4) (v := v5_4) h5 rfl
  have e5_5 := cell_laid (i := 5) (v := v5_5) h5 rfl
  have e5_6 := cell_laid (i := 6) (v := v5_6) h5 rfl
  have e5_7 := cell_laid (i := 7) (v := v5_7) h5 rfl
  simp [results, Tryz.results70, go_sem, e4_0, e4_1, e4_2, q4, e5_0, e5_1, e5_2, e5_3, e5_4, e5_5, e5_6, e5_7, q5, q6]
/-- What StepEdit gives. -/
def seditP (M : Mem) (s : Ede) : Mem × Ede × Nat := if okM M = false then (zeroM, zeroEd, 120) else if s.ph < 0 ∨ 7 < s.ph then (zeroM, zeroEd, 251) else ((editE M s).1, (editE M s).2.1, 0)
def GivesStepEdit (R : Mem × Ede × Nat) (w : World) (e : Ending) (W : World) : Prop := ∃ wa wc la lc, e = .returned (.tuple #[memV wa wc la lc R.1, edV R.2.1, .int .i64 ((R.2.2 : Nat) : Int)]) ∧ MemO w.heap.size wa wc la lc R.1 W ∧ Below w.heap.size w W
structure RStepEdit (R S : Nat) (cs cs' : Array Value) where
  w : World
  br : w.heap[R]? = some (.cells cs 174 (0, 0))
  bs : w.heap[S]? = some (.cells cs' 97 (0, 0))
set_option maxRecDepth 100000 in
set_option maxHeartbeats 8000000 in
theorem StepEdit_any (M : Mem) (s : Ede) (wa la : Option Addr) (wc lc : Nat) (V : World) (h : MemL V wa wc la lc M) (hs : s.Ok) :
    Calls Tryz.prog 70 #[memV wa wc la lc M, edV s] V (GivesStepEdit (seditP M s) V) := by
  obtain ⟨ph, cuts, link, at_, key, val, hash, next⟩ := s
  obtain ⟨V1, hV1, hbV1, hsV1, hlV1⟩ := laid V #[.slice wa M.W.length wc, .slice la M.L.length lc, .bool M.F] 25
  obtain ⟨V2, hV2, hbV2, hsV2, hlV2⟩ := laid V1 #[.int .i64 ph, .bool cuts, .int .u64 ((link : Nat) : Int), .int .u64 ((at_ : Nat) : Int), .int .u64 ((key : Nat) : Int), .int .u64 ((val : Nat) : Int), .int .u64 ((hash : Nat) : Int), .int .u64 ((next : Nat) : Int)] 97
  obtain ⟨V3, hV3, hbV3, hsV3, hlV3⟩ := laid V2 #[.slice none 0 0, .slice none 0 0, .bool false] 25
  obtain ⟨V4, hV4, hbV4, hsV4, hlV4⟩ := laid V3 #[.int .i64 0, .bool false, .int .u64 0, .int .u64 0, .int .u64 0, .int .u64 0, .int .u64 0, .int .u64 0] 97
  obtain ⟨X, hX⟩ : ∃ X, V.heap.size = X := ⟨_, rfl⟩
  rw [hX] at hlV1
  obtain ⟨S, hS⟩ : ∃ X, V1.heap.size = X := ⟨_, rfl⟩
  rw [hS] at hlV2
  obtain ⟨Z, hZ⟩ : ∃ X, V2.heap.size = X := ⟨_, rfl⟩
  rw [hZ] at hlV3
  obtain ⟨G, hG⟩ : ∃ X, V3.heap.size = X := ⟨_, rfl⟩
  rw [hG] at hlV4
  have KX := hid (keep_laid (keep_laid (keep_laid hlV1 hbV2) hbV3) hbV4)
  have KS := hid (keep_laid (keep_laid hlV2 hbV3) hbV4)
  have KZ := hid (keep_laid hlV3 hbV4)
  have KG := hid hlV4
  have HB := hid (step (step (step hbV1 hbV2) hbV3) hbV4)
  have hVX : V.heap.size ≤ X := by omega
  have hVS : V.heap.size ≤ S := by omega
  have nXS : X < S := by omega
  have hVZ : V.heap.size ≤ Z := by omega
  have nXZ : X < Z := by omega
  have nSZ : S < Z := by omega
  have hVG : V.heap.size ≤ G := by omega
  have nXG : X < G := by omega
  have nSG : S < G := by omega
  have nZG : Z < G := by omega
  clear hbV1 hsV1 hlV1 hbV2 hsV2 hlV2 hbV3 hsV3 hlV3 hbV4 hsV4 hlV4
  have HSK := hid hs
  have HM := hid (h.grow HB.out)
  have HCK := hid (Check_any M wa la wc lc V4 HM.out)
  have HOW : Hid (okM M = true → ∀ W, Below V4.heap.size V4 W → Calls Tryz.prog 90 #[.agg #[.slice wa M.W.length wc, .slice la M.L.length lc, .bool M.F]] W (GivesOwn M W)) := hid (fun ok W hb => lsown_any M wa la wc lc W (HM.out.grow hb) ok)
  have hwl := h.w.len
  have hll := h.l.len
  unfold memV at HCK ⊢
  unfold edV
  dsimp only
  obtain ⟨x0, x1, x2⟩ := cells3 KX.out
  clear h hs
  go_enter Tryz.func70, Tryz.ntmps70
  cases hok : okM M with
  | false =>
    rw [hok, if_neg (by decide)] at HCK
    have HR : Hid (seditP M (⟨ph, cuts, link, at_, key, val, hash, next⟩ : Ede) = (zeroM, zeroEd, 120)) := hid (by unfold seditP; rw [hok]; rfl)
    clear hok
    go_wp2_with fail
    refine HCK.out.mono ?_
    rintro e V5 ⟨rfl, hb5⟩
    have KZ5 := hid (keep_laid KZ.out hb5)
    have KG5 := hid (keep_laid KG.out hb5)
    have HB5 := hid (step HB.out hb5)
    clear hb5 x0 x1 x2
    obtain ⟨U1, hU1, a1, a2, a3, -⟩ := put_mem KZ5.out (.slice none 0 0) (.slice none 0 0) (.bool false)
    have hg1 := a2 G _ (by omega) KG5.out
    obtain ⟨U2, hU2, c1, c2, c3, -⟩ := putM8 hg1 (.int .i64 0) (.bool false) (.int .u64 0) (.int .u64 0) (.int .u64 0) (.int .u64 0) (.int .u64 0) (.int .u64 0)
    obtain ⟨z0, zf0, z1, zf1, z2, zf2⟩ := fcl3 KZ5.out
    obtain ⟨g0, gf0, g1, gf1, g2, gf2, g3, gf3, g4, gf4, g5, gf5, g6, gf6, g7, gf7⟩ := fcl8 KG5.out
    have HU1 := hid hU1
    have HU2 := hid hU2
    have KZ9 := hid (c2 Z _ (by omega) a1)
    have KG9 := hid c1
    have HB9 := hid (c3 V.heap.size V (by omega) (a3 V.heap.size V (by omega) HB5.out))
    clear hU1 hU2 a1 a2 a3 c1 c2 c3 hg1
    go_wp2
    rw [← HU1.out, ← HU2.out]
    refine bodyPost_ret (StepEdit_result KZ9.out rfl KG9.out rfl rfl) rfl ?_
    rw [HR.out]
    exact ⟨none, 0, none, 0, rfl, ⟨World.ownsRow_nil _ _ _ _, World.ownsRow_nil _ _ _ _⟩, HB9.out⟩
  | true =>
    rw [hok, if_pos rfl] at HCK
    have HOK := hid hok
    go_wp2_with fail
    refine HCK.out.mono ?_
    rintro e V5 ⟨rfl, hb5⟩
    have KX5 := hid (keep_laid KX.out hb5)
    have KS5 := hid (keep_laid KS.out hb5)
    have KZ5 := hid (keep_laid KZ.out hb5)
    have KG5 := hid (keep_laid KG.out hb5)
    have HB5 := hid (step HB.out hb5)
    have HB45 := hid hb5
    clear hb5 x0 x1 x2
    have s0 : ∀ z : Ext V5, z.v.cell? ⟨S, 0, none⟩ = some (.int .i64 ph) := fun z => cell_laid (keep_laid KS5.out z.b) rfl
    by_cases h0 : ph < 0
    · have t0 : decide (ph < 0) = true := decide_eq_true h0
      have HR : Hid (seditP M (⟨ph, cuts, link, at_, key, val, hash, next⟩ : Ede) = (zeroM, zeroEd, 251)) := hid (by unfold seditP; rw [hok, if_neg (by decide), if_pos (.inl h0)])
      clear hok h0
      go_upto_region 4 with (fail)
      refine wp_region_ext (by kernel_rfl) (by kernel_rfl) ?_
      repeat (go_big_quiet_step ((go_at_call 89; exact ext_of (edg_any _))))
      refine wpQuiet_nil ?_
      rintro V6 ⟨x6, e6⟩
      have hb6 := x6.b
      rw [← e6] at hb6
      clear e6 x6
      have KX6 := hid (keep_laid KX5.out hb6)
      have KS6 := hid (keep_laid KS5.out hb6)
      have KZ6 := hid (keep_laid KZ5.out hb6)
      have KG6 := hid (keep_laid KG5.out hb6)
      have HB6 := hid (step HB5.out hb6)
      have HB46 := hid (step HB45.out hb6)
      clear hb6 s0
      obtain ⟨U1, hU1, a1, a2, a3, -⟩ := put_mem KZ6.out (.slice none 0 0) (.slice none 0 0) (.bool false)
      have hg1 := a2 G _ (by omega) KG6.out
      obtain ⟨U2, hU2, c1, c2, c3, -⟩ := putM8 hg1 (.int .i64 0) (.bool false) (.int .u64 0) (.int .u64 0) (.int .u64 0) (.int .u64 0) (.int .u64 0) (.int .u64 0)
      obtain ⟨z0, zf0, z1, zf1, z2, zf2⟩ := fcl3 KZ6.out
      obtain ⟨g0, gf0, g1, gf1, g2, gf2, g3, gf3, g4, gf4, g5, gf5, g6, gf6, g7, gf7⟩ := fcl8 KG6.out
      have HU1 := hid hU1
      have HU2 := hid hU2
      have KZ9 := hid (c2 Z _ (by omega) a1)
      have KG9 := hid c1
      have HB9 := hid (c3 V.heap.size V (by omega) (a3 V.heap.size V (by omega) HB6.out))
      clear hU1 hU2 a1 a2 a3 c1 c2 c3 hg1
      go_wp2
      rw [← HU1.out, ← HU2.out]
      refine bodyPost_ret (StepEdit_result KZ9.out rfl KG9.out rfl rfl) rfl ?_
      rw [HR.out]
      exact ⟨none, 0, none, 0, rfl, ⟨World.ownsRow_nil _ _ _ _, World.ownsRow_nil _ _ _ _⟩, HB9.out⟩
    have t0 : decide (ph < 0) = false := decide_eq_false h0
    by_cases h5 : 7 < ph
    · have t1 : decide ((8 : Int) ≤ ph) = true := decide_eq_true (by omega)
      have HR : Hid (seditP M (⟨ph, cuts, link, at_, key, val, hash, next⟩ : Ede) = (zeroM, zeroEd, 251)) := hid (by unfold seditP; rw [hok, if_neg (by decide), if_pos (.inr h5)])
      clear hok h0 h5
      go_upto_region 4 with (fail)
      refine wp_region_ext (by kernel_rfl) (by kernel_rfl) ?_
      repeat (go_big_quiet_step ((go_at_call 89; exact ext_of (edg_any _))))
      refine wpQuiet_nil ?_
      rintro V6 ⟨x6, e6⟩
      have hb6 := x6.b
      rw [← e6] at hb6
      clear e6 x6
      have KX6 := hid (keep_laid KX5.out hb6)
      have KS6 := hid (keep_laid KS5.out hb6)
      have KZ6 := hid (keep_laid KZ5.out hb6)
      have KG6 := hid (keep_laid KG5.out hb6)
      have HB6 := hid (step HB5.out hb6)
      have HB46 := hid (step HB45.out hb6)
      clear hb6 s0
      obtain ⟨U1, hU1, a1, a2, a3, -⟩ := put_mem KZ6.out (.slice none 0 0) (.slice none 0 0) (.bool false)
      have hg1 := a2 G _ (by omega) KG6.out
      obtain ⟨U2, hU2, c1, c2, c3, -⟩ := putM8 hg1 (.int .i64 0) (.bool false) (.int .u64 0) (.int .u64 0) (.int .u64 0) (.int .u64 0) (.int .u64 0) (.int .u64 0)
      obtain ⟨z0, zf0, z1, zf1, z2, zf2⟩ := fcl3 KZ6.out
      obtain ⟨g0, gf0, g1, gf1, g2, gf2, g3, gf3, g4, gf4, g5, gf5, g6, gf6, g7, gf7⟩ := fcl8 KG6.out
      have HU1 := hid hU1
      have HU2 := hid hU2
      have KZ9 := hid (c2 Z _ (by omega) a1)
      have KG9 := hid c1
      have HB9 := hid (c3 V.heap.size V (by omega) (a3 V.heap.size V (by omega) HB6.out))
      clear hU1 hU2 a1 a2 a3 c1 c2 c3 hg1
      go_wp2
      rw [← HU1.out, ← HU2.out]
      refine bodyPost_ret (StepEdit_result KZ9.out rfl KG9.out rfl rfl) rfl ?_
      rw [HR.out]
      exact ⟨none, 0, none, 0, rfl, ⟨World.ownsRow_nil _ _ _ _, World.ownsRow_nil _ _ _ _⟩, HB9.out⟩
    have t1 : decide ((8 : Int) ≤ ph) = false := decide_eq_false (by omega)
    obtain ⟨⟨M', s', bb⟩, hST⟩ : ∃ R, editE M (⟨ph, cuts, link, at_, key, val, hash, next⟩ : Ede) = R := ⟨_, rfl⟩
    have HR : Hid (seditP M (⟨ph, cuts, link, at_, key, val, hash, next⟩ : Ede) = (M', s', 0)) := hid (by unfold seditP; rw [hok, if_neg (by decide), if_neg (by dsimp only; omega), hST])
    have HP := hid (show 0 ≤ ph ∧ ph ≤ 7 by omega)
    have HST := hid hST
    clear hok h0 h5 hST
    go_upto_region 4 with (fail)
    refine wp_region_ext (by kernel_rfl) (by kernel_rfl) ?_
    repeat (go_big_quiet_step ((go_at_call 89; exact ext_of (edg_any _))))
    refine wpQuiet_nil ?_
    rintro V6 ⟨x6, e6⟩
    have hb6 := x6.b
    rw [← e6] at hb6
    clear e6 x6
    have KX6 := hid (keep_laid KX5.out hb6)
    have KS6 := hid (keep_laid KS5.out hb6)
    have KZ6 := hid (keep_laid KZ5.out hb6)
    have KG6 := hid (keep_laid KG5.out hb6)
    have HB6 := hid (step HB5.out hb6)
    have HB46 := hid (step HB45.out hb6)
    clear hb6 s0
    obtain ⟨x0, x1, x2⟩ := cells3 KX6.out
    go_wp2_with fail
    refine (HOW.out HOK.out V6 HB46.out).mono ?_
    rintro e V7 ⟨R, rfl, hR, hRC, hb7⟩
    have KS7 := hid (keep_laid KS6.out hb7)
    have KZ7 := hid (keep_laid KZ6.out hb7)
    have KG7 := hid (keep_laid KG6.out hb7)
    have hV7 := hb7.size
    have hZ6 := lt_laid KZ6.out
    have hG6 := lt_laid KG6.out
    have hS6 := lt_laid KS6.out
    have hV6 := HB6.out.size
    have HB7 := hid (step HB6.out hb7)
    have HSE := hid (edit_any V6.heap.size R S M 0 (⟨ph, cuts, link, at_, key, val, hash, next⟩ : Ede) V7 hRC KS7.out hV7 HOK.out HSK.out HP.out.1 HP.out.2 (by decide))
    rw [HST.out] at HSE
    clear hb7 hRC x0 x1 x2
    go_wp2_with fail
    refine HSE.out.mono ?_
    rintro e V8 ⟨rfl, hrc, hs8, ht8⟩
    obtain ⟨wa', wc', la', lc', kR, kO⟩ := hrc
    have hZS : Z ≠ S := by omega
    have hGS : G ≠ S := by omega
    have hRZ : Z ≠ R := by omega
    have hRG : G ≠ R := by omega
    have KR8 := hid kR
    have KS8 := hid hs8
    have KZ8 := hid (ht8.keep KZ7.out (by rintro (e | e) <;> omega))
    have KG8 := hid (ht8.keep KG7.out (by rintro (e | e) <;> omega))
    have HO8 := hid (kO.base (base' := V.heap.size) hV6)
    have HB8 := hid (HB7.out.trans (ht8.below (B := V.heap.size) (by rintro k (e | e) <;> omega) HB7.out.size))
    have hwl' := kO.memL.w.len
    have hll' := kO.memL.l.len
    clear kR kO hs8 ht8
    obtain ⟨n', hn'⟩ : ∃ n' : Nat, (if (M', s', bb).2.2 = true then 0 + 1 else 0) = n' := ⟨_, rfl⟩
    rw [hn'] at KR8
    dsimp only at KR8 KS8 HO8 hwl' hll'
    clear hn'
    go_upto_region 8 with (fail)
    obtain ⟨D, hD⟩ : ∃ DX, V8.drew = DX := ⟨_, rfl⟩
    have hbD : Below V8.heap.size V8 D := by rw [← hD]; exact (Below.refl _ _).drew
    have HD := hid hD
    have KRD := hid (keep_laid KR8.out hbD)
    have KSD := hid (keep_laid KS8.out hbD)
    have KZD := hid (keep_laid KZ8.out hbD)
    have KGD := hid (keep_laid KG8.out hbD)
    have HOD := hid (HO8.out.grow hbD)
    have HBD := hid (step HB8.out hbD)
    clear hD hbD
    obtain ⟨ph', cuts', link', at_', key', val', hash', next'⟩ := s'
    obtain ⟨U1, hU1, a1, a2, a3, a4⟩ := put_mem KZD.out (.slice wa' M'.W.length wc') (.slice la' M'.L.length lc') (.bool M'.F)
    have KG9 := hid (a2 G _ (by omega) KGD.out)
    obtain ⟨U2, hU2, c1, c2, c3, c4, -⟩ := putM8 KG9.out (.int .i64 ph') (.bool cuts') (.int .u64 ((link' : Nat) : Int)) (.int .u64 ((at_' : Nat) : Int)) (.int .u64 ((key' : Nat) : Int)) (.int .u64 ((val' : Nat) : Int)) (.int .u64 ((hash' : Nat) : Int)) (.int .u64 ((next' : Nat) : Int))
    have KR9 := hid (a2 R _ (by omega) KRD.out)
    have KS9 := hid (a2 S _ (by omega) KSD.out)
    have KR10 := hid (c2 R _ (by omega) KR9.out)
    have KS10 := hid (c2 S _ (by omega) KS9.out)
    have KZ10 := hid (c2 Z _ (by omega) a1)
    have KG10 := hid c1
    have HB10 := hid (c3 V.heap.size V (by omega) (a3 V.heap.size V (by omega) HBD.out))
    have HO10 := hid (c4 _ _ _ _ _ _ (by decide) (by decide) (a4 _ _ _ _ _ _ HOD.out))
    have HU1 := hid hU1
    have HU2 := hid hU2
    clear hU1 hU2 a1 a2 a3 a4 c1 c2 c3 c4
    haveI : Nonempty (RStepEdit R S #[.slice wa' M'.W.length wc', .slice la' M'.L.length lc', .bool M'.F, .int .i64 ((n' : Nat) : Int)] #[.int .i64 ph', .bool cuts', .int .u64 ((link' : Nat) : Int), .int .u64 ((at_' : Nat) : Int), .int .u64 ((key' : Nat) : Int), .int .u64 ((val' : Nat) : Int), .int .u64 ((hash' : Nat) : Int), .int .u64 ((next' : Nat) : Int)]) := ⟨⟨D, KRD.out, KSD.out⟩⟩
    have r0 : ∀ z : RStepEdit R S #[.slice wa' M'.W.length wc', .slice la' M'.L.length lc', .bool M'.F, .int .i64 ((n' : Nat) : Int)] #[.int .i64 ph', .bool cuts', .int .u64 ((link' : Nat) : Int), .int .u64 ((at_' : Nat) : Int), .int .u64 ((key' : Nat) : Int), .int .u64 ((val' : Nat) : Int), .int .u64 ((hash' : Nat) : Int), .int .u64 ((next' : Nat) : Int)], z.w.cell? ⟨R, 0, none⟩ = some (.slice wa' M'.W.length wc') := fun z => cell_laid z.br rfl
    have r1 : ∀ z : RStepEdit R S #[.slice wa' M'.W.length wc', .slice la' M'.L.length lc', .bool M'.F, .int .i64 ((n' : Nat) : Int)] #[.int .i64 ph', .bool cuts', .int .u64 ((link' : Nat) : Int), .int .u64 ((at_' : Nat) : Int), .int .u64 ((key' : Nat) : Int), .int .u64 ((val' : Nat) : Int), .int .u64 ((hash' : Nat) : Int), .int .u64 ((next' : Nat) : Int)], z.w.cell? ⟨R, 1, none⟩ = some (.slice la' M'.L.length lc') := fun z => cell_laid z.br rfl
    have r2 : ∀ z : RStepEdit R S #[.slice wa' M'.W.length wc', .slice la' M'.L.length lc', .bool M'.F, .int .i64 ((n' : Nat) : Int)] #[.int .i64 ph', .bool cuts', .int .u64 ((link' : Nat) : Int), .int .u64 ((at_' : Nat) : Int), .int .u64 ((key' : Nat) : Int), .int .u64 ((val' : Nat) : Int), .int .u64 ((hash' : Nat) : Int), .int .u64 ((next' : Nat) : Int)], z.w.cell? ⟨R, 2, none⟩ = some (.bool M'.F) := fun z => cell_laid z.br rfl
    have s0 : ∀ z : RStepEdit R S #[.slice wa' M'.W.length wc', .slice la' M'.L.length lc', .bool M'.F, .int .i64 ((n' : Nat) : Int)] #[.int .i64 ph', .bool cuts', .int .u64 ((link' : Nat) : Int), .int .u64 ((at_' : Nat) : Int), .int .u64 ((key' : Nat) : Int), .int .u64 ((val' : Nat) : Int), .int .u64 ((hash' : Nat) : Int), .int .u64 ((next' : Nat) : Int)], z.w.cell? ⟨S, 0, none⟩ = some (.int .i64 ph') := fun z => cell_laid z.bs rfl
    have s1 : ∀ z : RStepEdit R S #[.slice wa' M'.W.length wc', .slice la' M'.L.length lc', .bool M'.F, .int .i64 ((n' : Nat) : Int)] #[.int .i64 ph', .bool cuts', .int .u64 ((link' : Nat) : Int), .int .u64 ((at_' : Nat) : Int), .int .u64 ((key' : Nat) : Int), .int .u64 ((val' : Nat) : Int), .int .u64 ((hash' : Nat) : Int), .int .u64 ((next' : Nat) : Int)], z.w.cell? ⟨S, 1, none⟩ = some (.bool cuts') := fun z => cell_laid z.bs rfl
    have s2 : ∀ z : RStepEdit R S #[.slice wa' M'.W.length wc', .slice la' M'.L.length lc', .bool M'.F, .int .i64 ((n' : Nat) : Int)] #[.int .i64 ph', .bool cuts', .int .u64 ((link' : Nat) : Int), .int .u64 ((at_' : Nat) : Int), .int .u64 ((key' : Nat) : Int), .int .u64 ((val' : Nat) : Int), .int .u64 ((hash' : Nat) : Int), .int .u64 ((next' : Nat) : Int)], z.w.cell? ⟨S, 2, none⟩ = some (.int .u64 ((link' : Nat) : Int)) := fun z => cell_laid z.bs rfl
    have s3 : ∀ z : RStepEdit R S #[.slice wa' M'.W.length wc', .slice la' M'.L.length lc', .bool M'.F, .int .i64 ((n' : Nat) : Int)] #[.int .i64 ph', .bool cuts', .int .u64 ((link' : Nat) : Int), .int .u64 ((at_' : Nat) : Int), .int .u64 ((key' : Nat) : Int), .int .u64 ((val' : Nat) : Int), .int .u64 ((hash' : Nat) : Int), .int .u64 ((next' : Nat) : Int)], z.w.cell? ⟨S, 3, none⟩ = some (.int .u64 ((at_' : Nat) : Int)) := fun z => cell_laid z.bs rfl
    have s4 : ∀ z : RStepEdit R S #[.slice wa' M'.W.length wc', .slice la' M'.L.length lc', .bool M'.F, .int .i64 ((n' : Nat) : Int)] #[.int .i64 ph', .bool cuts', .int .u64 ((link' : Nat) : Int), .int .u64 ((at_' : Nat) : Int), .int .u64 ((key' : Nat) : Int), .int .u64 ((val' : Nat) : Int), .int .u64 ((hash' : Nat) : Int), .int .u64 ((next' : Nat) : Int)], z.w.cell? ⟨S, 4, none⟩ = some (.int .u64 ((key' : Nat) : Int)) := fun z => cell_laid z.bs rfl
    have s5 : ∀ z : RStepEdit R S #[.slice wa' M'.W.length wc', .slice la' M'.L.length lc', .bool M'.F, .int .i64 ((n' : Nat) : Int)] #[.int .i64 ph', .bool cuts', .int .u64 ((link' : Nat) : Int), .int .u64 ((at_' : Nat) : Int), .int .u64 ((key' : Nat) : Int), .int .u64 ((val' : Nat) : Int), .int .u64 ((hash' : Nat) : Int), .int .u64 ((next' : Nat) : Int)], z.w.cell? ⟨S, 5, none⟩ = some (.int .u64 ((val' : Nat) : Int)) := fun z => cell_laid z.bs rfl
    have s6 : ∀ z : RStepEdit R S #[.slice wa' M'.W.length wc', .slice la' M'.L.length lc', .bool M'.F, .int .i64 ((n' : Nat) : Int)] #[.int .i64 ph', .bool cuts', .int .u64 ((link' : Nat) : Int), .int .u64 ((at_' : Nat) : Int), .int .u64 ((key' : Nat) : Int), .int .u64 ((val' : Nat) : Int), .int .u64 ((hash' : Nat) : Int), .int .u64 ((next' : Nat) : Int)], z.w.cell? ⟨S, 6, none⟩ = some (.int .u64 ((hash' : Nat) : Int)) := fun z => cell_laid z.bs rfl
    have s7 : ∀ z : RStepEdit R S #[.slice wa' M'.W.length wc', .slice la' M'.L.length lc', .bool M'.F, .int .i64 ((n' : Nat) : Int)] #[.int .i64 ph', .bool cuts', .int .u64 ((link' : Nat) : Int), .int .u64 ((at_' : Nat) : Int), .int .u64 ((key' : Nat) : Int), .int .u64 ((val' : Nat) : Int), .int .u64 ((hash' : Nat) : Int), .int .u64 ((next' : Nat) : Int)], z.w.cell? ⟨S, 7, none⟩ = some (.int .u64 ((next' : Nat) : Int)) := fun z => cell_laid z.bs rfl
    refine wp_region_mix2 (fun W => ∃ z : RStepEdit R S #[.slice wa' M'.W.length wc', .slice la' M'.L.length lc', .bool M'.F, .int .i64 ((n' : Nat) : Int)] #[.int .i64 ph', .bool cuts', .int .u64 ((link' : Nat) : Int), .int .u64 ((at_' : Nat) : Int), .int .u64 ((key' : Nat) : Int), .int .u64 ((val' : Nat) : Int), .int .u64 ((hash' : Nat) : Int), .int .u64 ((next' : Nat) : Int)], W = z.w) 8 (.q 0 (.q 1 (.q 2 (.q 3 (.q 4 (.h 5 (.h 6 (.q 7 .done)))))))) (by kernel_rfl) (by kernel_rfl) (by rw [HD.out]; exact ⟨⟨D, KRD.out, KSD.out⟩, rfl⟩) ?_
    rw [HD.out]
    repeat (refine wpMix2_q rfl rfl ?_; go_big_quiet_step (fail); refine wpQuiet_nil ?_)
    obtain ⟨z0, zf0, z1, zf1, z2, zf2⟩ := fcl3 KZD.out
    refine wpMix2_h rfl fun R' hR' hO => ?_
    go_wp2
    rw [← HU1.out]
    refine hR' _ _ ⟨⟨U1, KR9.out, KS9.out⟩, rfl⟩ ?_
    clear hR' hO R' z0 z1 z2 zf0 zf1 zf2
    obtain ⟨g0, gf0, g1, gf1, g2, gf2, g3, gf3, g4, gf4, g5, gf5, g6, gf6, g7, gf7⟩ := fcl8 KG9.out
    refine wpMix2_h rfl fun R' hR' hO => ?_
    go_wp2
    rw [← HU2.out]
    refine hR' _ _ ⟨⟨U2, KR10.out, KS10.out⟩, rfl⟩ ?_
    clear hR' hO R' g0 g1 g2 g3 g4 g5 g6 g7 gf0 gf1 gf2 gf3 gf4 gf5 gf6 gf7
    repeat (refine wpMix2_q rfl rfl ?_; go_big_quiet_step (fail); refine wpQuiet_nil ?_)
    refine wpMix2_done ?_
    simp only [List.drop_succ_cons, List.drop_nil]
    go_wp2
    refine bodyPost_ret (StepEdit_result KZ10.out rfl KG10.out rfl rfl) rfl ?_
    rw [HR.out]
    exact ⟨wa', wc', la', lc', rfl, HO10.out, HB10.out⟩
end Go.Proofs.YtahicokokfcieaaGreatDoor
