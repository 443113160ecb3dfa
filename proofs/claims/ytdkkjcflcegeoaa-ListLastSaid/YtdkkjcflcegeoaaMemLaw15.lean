/- Memories: a law's own copy, and spoiling it. -/
import Derived.Test.YtdkkjcflcegeoaaMemClone
namespace Go.Proofs.Ytdkkjcflcegeoaa
open Go.RowKit
open Go.Proofs
set_option linter.unusedVariables false

theorem take_min64 {α : Type} (l : List α) : l.take (min l.length 64) = l.take 64 := by
  rcases Nat.le_total l.length 64 with h | h
  · rw [Nat.min_eq_left h, List.take_of_length_le (Nat.le_refl _), List.take_of_length_le h]
  · rw [Nat.min_eq_right h]
def take64 (M : Mem) : Mem := ⟨M.W.take 64, M.L.take 64, M.F⟩
theorem lawown_result {W : World} {b : Nat} {v0 v1 v2 : Value} {tmps : Array Value} (h : W.heap[b]? = some (.cells #[v0, v1, v2] 25 (0, 0))) (hp : tmps[2]?.getD undef = .pointer (some ⟨b, 0, none⟩)) :
    (results Try.f9 tmps).run Try.prog W = .ok (.agg #[v0, v1, v2]) W := by
  have h0 := cell_laid (i := 0) (v := v0) h rfl
  have h1 := cell_laid (i := 1) (v := v1) h rfl
  have h2 := cell_laid (i := 2) (v := v2) h rfl
  simp [results, Try.results9, go_sem, hp, h0, h1, h2]
set_option maxRecDepth 100000 in
set_option maxHeartbeats 4000000 in
theorem lawown_any (M : Mem) (wa la : Option Addr) (wc lc : Nat) (V : World) (h : MemL V wa wc la lc M) :
    Calls Try.prog 9 #[memV wa wc la lc M] V (GivesM (take64 M) V) := by
  obtain ⟨V1, hV1, hb1, hs1, hl1⟩ := laid V #[.slice wa M.W.length wc, .slice la M.L.length lc, .bool M.F] 25
  obtain ⟨V2, hV2, hb2, hs2, hl2⟩ := laid V1 #[.slice none 0 0, .slice none 0 0, .bool false] 25
  obtain ⟨X, hX⟩ : ∃ X, V.heap.size = X := ⟨_, rfl⟩
  obtain ⟨Z, hZ⟩ : ∃ Z, V1.heap.size = Z := ⟨_, rfl⟩
  rw [hX] at hl1
  rw [hZ] at hl2
  have HX := hid (keep_laid hl1 hb2)
  have HZ := hid hl2
  have HB2 := hid (step hb1 hb2)
  have HZV : Hid (V.heap.size ≤ Z) := hid (by rw [← hZ]; exact hb1.size)
  have hwl := h.w.len
  have hll := h.l.len
  have hwc1 := h.w.1
  have hlc1 := h.l.1
  obtain ⟨F, hF⟩ : ∃ F, M.F = F := ⟨_, rfl⟩
  obtain ⟨n, hn⟩ : ∃ n, M.W.length = n := ⟨_, rfl⟩
  obtain ⟨m, hm⟩ : ∃ m, M.L.length = m := ⟨_, rfl⟩
  obtain ⟨k, hk⟩ : ∃ k, min n 64 = k := ⟨_, rfl⟩
  obtain ⟨j, hj⟩ : ∃ j, min m 64 = j := ⟨_, rfl⟩
  have hkI : min (((n : Nat) : Int)) 64 = ((k : Nat) : Int) := by omega
  have hjI : min (((m : Nat) : Int)) 64 = ((j : Nat) : Int) := by omega
  have hkn : k ≤ n := by omega
  have hjm : j ≤ m := by omega
  have hk64 : k ≤ 64 := by omega
  have hj64 : j ≤ 64 := by omega
  have hW := h.w
  have hLv := h.l
  rw [hn] at hW hV1 HX hwl hwc1
  rw [hm] at hLv hV1 HX hll hlc1
  rw [hF] at hV1 HX
  have hkc : k ≤ wc := Nat.le_trans hkn hwc1
  have hjc : j ≤ lc := Nat.le_trans hjm hlc1
  have e1 : (wcells M.W).take k = wcells (M.W.take 64) := by rw [← hk, ← hn]; unfold wcells; rw [← List.map_take, take_min64]
  have e2 : (bcells M.L).take j = bcells (M.L.take 64) := by rw [← hj, ← hm]; unfold bcells; rw [← List.map_take, take_min64]
  have l1 : (M.W.take 64).length = k := by rw [List.length_take, hn]; omega
  have l2 : (M.L.take 64).length = j := by rw [List.length_take, hm]; omega
  have HCW := hid fun W (hb : Below V.heap.size V W) => CloneW_any wa k wc (wcells (M.W.take 64)) W (by rw [← e1]; exact (hW.vtake (by rw [wcells_len, hn]) hkn).grow hb) (by rw [wcells_len, l1]; omega) (by omega) (wcells_one _)
  have HCB := hid fun W (hb : Below V.heap.size V W) => CloneB_any la j lc (bcells (M.L.take 64)) W (by rw [← e2]; exact (hLv.vtake (by rw [bcells_len, hm]) hjm).grow hb) (by rw [bcells_len, l2]; omega) (by omega) (bcells_one _)
  have HL1 := hid l1
  have HL2 := hid l2
  have HF := hid hF
  have x0 : ∀ z : Ext V2, z.v.cell? ⟨X, 0, none⟩ = some (.slice wa n wc) := fun z => (cells3 (keep_laid HX.out z.b)).1
  have x1 : ∀ z : Ext V2, z.v.cell? ⟨X, 1, none⟩ = some (.slice la m lc) := fun z => (cells3 (keep_laid HX.out z.b)).2.1
  have x2 : ∀ z : Ext V2, z.v.cell? ⟨X, 2, none⟩ = some (.bool F) := fun z => (cells3 (keep_laid HX.out z.b)).2.2
  unfold memV
  rw [hn, hm, hF]
  clear h hW hLv e1 e2 l1 l2 hs1 hs2 hb1 hb2 hl1 hl2 hn hm hk hj hF
  go_enter Try.func9, Try.ntmps9
  go_upto_region 1 with (fail)
  refine wp_region_mix2 (fun W => ∃ z : Ext V2, W = z.v) 19 (.q 0 (.q 1 (.q 2 (.q 3 (.q 4 (.q 5 (.q 6 (.q 8 (.q 9 (.q 10 (.q 11 (.q 12 (.q 13 (.q 14 (.q 16 (.q 17 (.h 7 (.h 15 (.q 18 (.done)))))))))))))))))))) (by kernel_rfl) (by kernel_rfl) ⟨⟨_, (Below.refl _ _).drew⟩, rfl⟩ ?_
  repeat (refine wpMix2_q rfl rfl ?_; go_big_quiet_step (fail); refine wpQuiet_nil ?_)
  refine wpMix2_h rfl fun R' hR' hO => ?_
  have hbd : Below V2.heap.size V2 V2.drew := (Below.refl _ _).drew
  go_wp2_with fail
  refine (HCW.out _ (step HB2.out hbd)).mono ?_
  rintro e V3 ⟨v3, rfl, ho3, hb3⟩
  obtain ⟨wa', wc', rfl, -⟩ := Leads.of_own ho3
  have hb23 := step hbd hb3
  have HO3 := hid ho3
  clear ho3
  go_wp2
  refine hR' _ _ ⟨⟨V3, hb23⟩, rfl⟩ ?_
  clear hR' hO R'
  refine wpMix2_h rfl fun R' hR' hO => ?_
  go_wp2_with fail
  refine (HCB.out _ (step HB2.out hb23)).mono ?_
  rintro e V4 ⟨v4, rfl, ho4, hb4⟩
  obtain ⟨la', lc', rfl, -⟩ := Leads.of_own ho4
  have hb24 := step hb23 hb4
  have HMO : Hid (MemO V.heap.size wa' wc' la' lc' (take64 M) V4) := hid (by
    refine ⟨?_, ?_⟩
    · show V4.ownsRow V.heap.size 26 1 (.slice wa' (M.W.take 64).length wc') (M.W.take 64).length (wcells (M.W.take 64))
      rw [HL1.out]
      exact row_base (own_grow HO3.out hb4) (step HB2.out hbd).size
    · show V4.ownsRow V.heap.size 4 1 (.slice la' (M.L.take 64).length lc') (M.L.take 64).length (bcells (M.L.take 64))
      rw [HL2.out]
      exact row_base ho4 (step HB2.out hb23).size)
  clear ho4
  go_wp2
  refine hR' _ _ ⟨⟨V4, hb24⟩, rfl⟩ ?_
  clear hR' hO R'
  refine wpMix2_q rfl rfl ?_
  go_big_quiet_step (fail)
  refine wpQuiet_nil ?_
  refine wpMix2_done ?_
  simp only [List.drop_succ_cons, List.drop_zero]
  have HZ4 := hid (keep_laid HZ.out hb24)
  obtain ⟨z0, z1, z2⟩ := cells3 HZ4.out
  have f0 := free_laid (i := 0) HZ4.out
  have f1 := free_laid (i := 1) HZ4.out
  have f2 := free_laid (i := 2) HZ4.out
  obtain ⟨V5, hV5, hz5, hk5, hb5, hm5⟩ := put_mem HZ4.out (.slice wa' k wc') (.slice la' j lc') (.bool F)
  have HM5 := hid (hm5 _ _ _ _ _ _ HMO.out)
  have HB5 := hid (hb5 _ _ HZV.out (step HB2.out hb24))
  have HZ5 := hid hz5
  have HV5 := hid hV5
  clear hV5 hz5 hk5 hb5 hm5 x0 x1 x2
  go_wp2
  rw [← HV5.out]
  refine bodyPost_ret (lawown_result HZ5.out rfl) rfl ?_
  exact ⟨wa', wc', la', lc', by unfold memV take64; dsimp only; rw [HL1.out, HL2.out, HF.out], HM5.out, HB5.out⟩
end Go.Proofs.Ytdkkjcflcegeoaa
