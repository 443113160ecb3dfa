/- Several texts in one. -/
import Derived.Test.YtahicokokfcieaaGreatDoorTgAc
import Derived.Test.YtahicokokfcieaaGreatDoorTgAt
import Derived.Lib.SliceRun
import Derived.Deep.LoopGhost
import Derived.Test.YtahicokokfcieaaGreatDoorTgAv
import Derived.Test.YtahicokokfcieaaGreatDoorTr3
import Derived.Test.YtahicokokfcieaaGreatDoorTgAr
import Derived.Test.YtahicokokfcieaaGreatDoorTgAw
namespace Go.Proofs.YtahicokokfcieaaGreatDoor
open Go.RowKit
open Go.Proofs
set_option linter.unusedVariables false
theorem take_min96 {α : Type} (l : List α) : l.take (min l.length 96) = l.take 96 := by
  rcases Nat.le_total l.length 96 with h | h
  · rw [Nat.min_eq_left h, List.take_of_length_le (Nat.le_refl _), List.take_of_length_le h]
  · rw [Nat.min_eq_right h]
def take96 (M : Mem) : Mem := ⟨M.W.take 96, M.L.take 96, M.F⟩
theorem lawown_result {W : World} {b : Nat} {v0 v1 v2 : Value} {tmps : Array Value} (h : W.heap[b]? = some (.cells #[v0, v1, v2] 25 (0, 0))) (hp : tmps[2]?.getD undef = .pointer (some ⟨b, 0, none⟩)) :
    (results Tryz.f7 tmps).run Tryz.prog W = .ok (.agg #[v0, v1, v2]) W := by
  have h0 := cell_laid (i := 0) (v := v0) h rfl
  have h1 := cell_laid (i := 1) (v := v1) h rfl
  have h2 := cell_laid (i := 2) (v := v2) h rfl
  simp [results, Tryz.results7, go_sem, hp, h0, h1, h2]
set_option maxRecDepth 100000 in
set_option maxHeartbeats 4000000 in
theorem lawown_any (M : Mem) (wa la : Option Addr) (wc lc : Nat) (V : World) (h : MemL V wa wc la lc M) :
    Calls Tryz.prog 7 #[memV wa wc la lc M] V (GivesM (take96 M) V) := by
  obtain ⟨V1, hV1, hb1, hs1, hl1⟩ := laid V #[.slice wa M.W.length wc, .slice la M.L.length lc, .bool M.F] 25
  obtain ⟨V2, hV2, hb2, hs2, hl2⟩ := laid V1 #[.slice none 0 0, .slice none 0 0, .bool false] 25
  obtain ⟨X, hX⟩ : ∃ X, V.heap.size = X := ⟨_, rfl⟩
  obtain ⟨Z, hZ⟩ : ∃ Z, V1.heap.size = Z := ⟨_, rfl⟩
  rw [hX] at hl1
  rw [hZ] at hl2
  have HX := hid (keep_laid hl1 hb2)
  have HZ := hid hl2
  have HB2 := hid (step hb1 hb2)
  have HZV : Hid (V.heap.size ≤ Z) := hid (by rw [← hZ]; exact hb1.size)
  have hwl := h.w.len
  have hll := h.l.len
  have hwc1 := h.w.1
  have hlc1 := h.l.1
  obtain ⟨F, hF⟩ : ∃ F, M.F = F := ⟨_, rfl⟩
  obtain ⟨n, hn⟩ : ∃ n, M.W.length = n := ⟨_, rfl⟩
  obtain ⟨m, hm⟩ : ∃ m, M.L.length = m := ⟨_, rfl⟩
  obtain ⟨k, hk⟩ : ∃ k, min n 96 = k := ⟨_, rfl⟩
  obtain ⟨j, hj⟩ : ∃ j, min m 96 = j := ⟨_, rfl⟩
  have hkI : min (((n : Nat) : Int)) 96 = ((k : Nat) : Int) := by omega
  have hjI : min (((m : Nat) : Int)) 96 = ((j : Nat) : Int) := by omega
  have hkn : k ≤ n := by omega
  have hjm : j ≤ m := by omega
  have hk64 : k ≤ 96 := by omega
  have hj64 : j ≤ 96 := by omega
  have hW := h.w
  have hLv := h.l
  rw [hn] at hW hV1 HX hwl hwc1
  rw [hm] at hLv hV1 HX hll hlc1
  rw [hF] at hV1 HX
  have hkc : k ≤ wc := Nat.le_trans hkn hwc1
  have hjc : j ≤ lc := Nat.le_trans hjm hlc1
  have e1 : (wcells M.W).take k = wcells (M.W.take 96) := by rw [← hk, ← hn]; unfold wcells; rw [← List.map_take, take_min96]
  have e2 : (bcells M.L).take j = bcells (M.L.take 96) := by rw [← hj, ← hm]; unfold bcells; rw [← List.map_take, take_min96]
  have l1 : (M.W.take 96).length = k := by rw [List.length_take, hn]; omega
  have l2 : (M.L.take 96).length = j := by rw [List.length_take, hm]; omega
  have HCW := hid fun W (hb : Below V.heap.size V W) => CloneW_any wa k wc (wcells (M.W.take 96)) W (by rw [← e1]; exact (hW.vtake (by rw [wcells_len, hn]) hkn).grow hb) (by rw [wcells_len, l1]; omega) (by omega) (wcells_one _)
  have HCB := hid fun W (hb : Below V.heap.size V W) => CloneB_any la j lc (bcells (M.L.take 96)) W (by rw [← e2]; exact (hLv.vtake (by rw [bcells_len, hm]) hjm).grow hb) (by rw [bcells_len, l2]; omega) (by omega) (bcells_one _)
  have HL1 := hid l1
  have HL2 := hid l2
  have HF := hid hF
  have x0 : ∀ z : Ext V2, z.v.cell? ⟨X, 0, none⟩ = some (.slice wa n wc) := fun z => (cells3 (keep_laid HX.out z.b)).1
  have x1 : ∀ z : Ext V2, z.v.cell? ⟨X, 1, none⟩ = some (.slice la m lc) := fun z => (cells3 (keep_laid HX.out z.b)).2.1
  have x2 : ∀ z : Ext V2, z.v.cell? ⟨X, 2, none⟩ = some (.bool F) := fun z => (cells3 (keep_laid HX.out z.b)).2.2
  unfold memV
  rw [hn, hm, hF]
  clear h hW hLv e1 e2 l1 l2 hs1 hs2 hb1 hb2 hl1 hl2 hn hm hk hj hF
  go_enter Tryz.func7, Tryz.ntmps7
  go_upto_region 1 with (fail)
  refine wp_region_mix2 (fun W => ∃ z : Ext V2, W = z.v) 19 (.q 0 (.q 1 (.q 2 (.q 3 (.q 4 (.q 5 (.q 6 (.q 8 (.q 9 (.q 10 (.q 11 (.q 12 (.q 13 (.q 14 (.q 16 (.q 17 (.h 7 (.h 15 (.q 18 (.done)))))))))))))))))))) (by kernel_rfl) (by kernel_rfl) ⟨⟨_, (Below.refl _ _).drew⟩, rfl⟩ ?_
  repeat (refine wpMix2_q rfl rfl ?_; go_big_quiet_step (fail); refine wpQuiet_nil ?_)
  refine wpMix2_h rfl fun R' hR' hO => ?_
  have hbd : Below V2.heap.size V2 V2.drew := (Below.refl _ _).drew
  go_wp2_with fail
  refine (HCW.out _ (step HB2.out hbd)).mono ?_
  rintro e V3 ⟨v3, rfl, ho3, hb3⟩
  obtain ⟨wa', wc', rfl, -⟩ := Leads.of_own ho3
  have hb23 := step hbd hb3
  have HO3 := hid ho3
  clear ho3
  go_wp2
  refine hR' _ _ ⟨⟨V3, hb23⟩, rfl⟩ ?_
  clear hR' hO R'
  refine wpMix2_h rfl fun R' hR' hO => ?_
  go_wp2_with fail
  refine (HCB.out _ (step HB2.out hb23)).mono ?_
  rintro e V4 ⟨v4, rfl, ho4, hb4⟩
  obtain ⟨la', lc', rfl, -⟩ := Leads.of_own ho4
  have hb24 := step hb23 hb4
  have HMO : Hid (MemO V.heap.size wa' wc' la' lc' (take96 M) V4) := hid (by
    refine ⟨?_, ?_⟩
    · show V4.ownsRow V.heap.size 26 1 (.slice wa' (M.W.take 96).length wc') (M.W.take 96).length (wcells (M.W.take 96))
      rw [HL1.out]
      exact row_base (own_grow HO3.out hb4) (step HB2.out hbd).size
    · show V4.ownsRow V.heap.size 4 1 (.slice la' (M.L.take 96).length lc') (M.L.take 96).length (bcells (M.L.take 96))
      rw [HL2.out]
      exact row_base ho4 (step HB2.out hb23).size)
  clear ho4
  go_wp2
  refine hR' _ _ ⟨⟨V4, hb24⟩, rfl⟩ ?_
  clear hR' hO R'
  refine wpMix2_q rfl rfl ?_
  go_big_quiet_step (fail)
  refine wpQuiet_nil ?_
  refine wpMix2_done ?_
  simp only [List.drop_succ_cons, List.drop_zero]
  have HZ4 := hid (keep_laid HZ.out hb24)
  obtain ⟨z0, z1, z2⟩ := cells3 HZ4.out
  have f0 := free_laid (i := 0) HZ4.out
  have f1 := free_laid (i := 1) HZ4.out
  have f2 := free_laid (i := 2) HZ4.out
  obtain ⟨V5, hV5, hz5, hk5, hb5, hm5⟩ := put_mem HZ4.out (.slice wa' k wc') (.slice la' j lc') (.bool F)
  have HM5 := hid (hm5 _ _ _ _ _ _ HMO.out)
  have HB5 := hid (hb5 _ _ HZV.out (step HB2.out hb24))
  have HZ5 := hid hz5
  have HV5 := hid hV5
  clear hV5 hz5 hk5 hb5 hm5 x0 x1 x2
  go_wp2
  rw [← HV5.out]
  refine bodyPost_ret (lawown_result HZ5.out rfl) rfl ?_
  exact ⟨wa', wc', la', lc', by unfold memV take96; dsimp only; rw [HL1.out, HL2.out, HF.out], HM5.out, HB5.out⟩
end Go.Proofs.YtahicokokfcieaaGreatDoor
namespace Go.Proofs.YtahicokokfcieaaGreatDoor
open Go.RowKit
open Go.Proofs
set_option linter.unusedVariables false
def bcell (z : Bool) : Value := .bool z
theorem rep_splice (z : Bool) (n k j : Nat) (hk : k + j ≤ n) : splice (List.replicate k (bcell z) ++ List.replicate (n - k) (bcell false)) k (List.replicate j (bcell z)) = List.replicate (k + j) (bcell z) ++ List.replicate (n - (k + j)) (bcell false) := by
  unfold splice
  rw [List.take_append_of_le_length (by simp), List.take_of_length_le (by simp), List.length_replicate]
  rw [List.drop_append, List.drop_of_length_le (by simp), List.nil_append, List.length_replicate, List.drop_replicate, ← List.append_assoc, List.replicate_append_replicate]
  congr 2
  omega
set_option maxRecDepth 100000 in
set_option maxHeartbeats 1000000 in
theorem RepeatB_any (z : Bool) (n b : Nat) (w : World) (hc : w.cell? ⟨b, 0, none⟩ = some (.bool z)) (hbw : b < w.heap.size) (hn : n ≤ 100000) (hM : ∀ W, Calls Tryz.prog 58 #[.int .u64 1, .int .u64 (n : Nat)] W (fun e W' => e = .returned (.tuple #[.int .u64 0, .int .u64 (n : Nat)]) ∧ W' = W)) :
    Calls Tryz.prog 27 #[.slice (some ⟨b, 0, none⟩) 1 1, .int .i64 (n : Nat)] w (fun e w' => ∃ g, e = .returned (.slice (some ⟨g, 0, none⟩) n n) ∧ w'.ownsRow w.heap.size 4 1 (.slice (some ⟨g, 0, none⟩) n n) n (List.replicate n (bcell z)) ∧ Below w.heap.size w w') := by
  have hmk := make_bools w n hn
  rw [show Value.bool false = bcell false from rfl] at hmk
  obtain ⟨w1, hw1, hb1, hs1, hl1⟩ := laid w (List.replicate n (bcell false)).toArray 4
  rw [hw1] at hmk
  obtain ⟨M, hMs⟩ : ∃ M, w.heap.size = M := ⟨_, rfl⟩
  rw [hMs] at hmk hl1 hs1
  have HM := hid hM
  have HL1 := hid hl1
  have HC := hid hc
  have hbM : b < M := by omega
  clear hM hl1 hs1 hc
  go_enter Tryz.func27, Tryz.ntmps27
  go_wp2_with fail
  refine (HM.out _).mono ?_
  rintro e w2 ⟨rfl, rfl⟩
  obtain ⟨k0, hk0⟩ : ∃ k0, min 1 n = k0 := ⟨_, rfl⟩
  have hk0n : k0 ≤ n := by omega
  have hk01 : k0 = 0 → n = 0 := by omega
  have HK01 := hid hk01
  have HK0 := hid hk0
  have hwM : w2.heap.size ≤ M := by omega
  clear hk01 hk0
  go_wp2_with ((with_reducible show wpList _ _ _ _ _ _); refine wpList_copy_splice rfl (.tmp 31) (.tmp 32) 23 23 rfl 4 Tryz.underlying23 (by kernel_rfl) _ _ n n 1 1 rfl rfl M 0 (List.replicate n (bcell false)) 4 HL1.out (List.replicate k0 (bcell z)) ?c1 ?c2 ?c3 ?c4 w2.heap.size w2 hb1 hwM ?c5)
  case c1 => rw [List.length_replicate]; exact HK0.out.symm
  case c2 =>
    intro _ j v hj
    obtain ⟨hj1, hj2⟩ := List.getElem?_eq_some_iff.1 hj
    rw [List.length_replicate] at hj1
    rw [List.getElem_replicate] at hj2
    subst hj2
    obtain rfl : j = 0 := by have := HK0.out; omega
    exact (hb1.cell (p := ⟨b, 0, none⟩) hbw).trans HC.out
  case c3 => simp; exact hk0n
  case c4 => intro v hv; rw [List.eq_of_mem_replicate hv]; rfl
  case c5 =>
    intro w3 hg3 hb3
    have hsp := rep_splice z n 0 k0 (by omega)
    rw [Nat.zero_add] at hsp
    simp only [List.replicate_zero, List.nil_append, Nat.sub_zero] at hsp
    have HG3 : Hid (w3.heap[M]? = some (.cells (List.replicate k0 (bcell z) ++ List.replicate (n - k0) (bcell false)).toArray 4 (0, 0))) := hid (by rw [← hsp]; exact hg3.out)
    clear hg3 hsp
    go_wp2
    go_loopg [8] (n - k0) (fun g t8 wr => ∃ k : Nat, g + k = n ∧ (k = 0 → n = 0) ∧ t8 = .int .i64 (k : Nat) ∧ Hid (wr.heap[M]? = some (.cells (List.replicate k (bcell z) ++ List.replicate (n - k) (bcell false)).toArray 4 (0, 0))) ∧ Below w2.heap.size w2 wr)
    case atStart => exact ⟨k0, by omega, HK01.out, rfl, HG3, hb3.mono hwM⟩
    case round =>
      obtain ⟨k, hk, hk1, rfl, hG, hb⟩ := hrel
      have HK := hid hk
      have HK1 := hid hk1
      clear hk hk1
      by_cases hlt : k < n
      · have hkp : 0 < k := by have := HK1.out; omega
        obtain ⟨r, hr⟩ : ∃ r, n - k = r := ⟨_, rfl⟩
        have hkn : k + r = n := by omega
        obtain ⟨j, hj⟩ : ∃ j, min k r = j := ⟨_, rfl⟩
        have HR := hid hr
        have HJ := hid hj
        have hjr : k + j ≤ n := by omega
        have hj0 : 0 < j := by omega
        have hle1 : ((k : Nat) : Int) ≤ ((n : Nat) : Int) := by omega
        have HKN := hid hkn
        clear hr hj hkn
        go_upto_region 9 with (fail)
        refine wp_region_mix2 (fun _ => True) 10 (.q 0 (.q 1 (.q 2 (.q 3 (.q 4 (.q 5 (.q 6 (.h 7 (.q 8 (.q 9 (.done))))))))))) (by kernel_rfl) (by kernel_rfl) trivial ?_
        repeat (refine wpMix2_q rfl rfl ?_; go_big_quiet_step (fail); refine wpQuiet_nil ?_)
        refine wpMix2_h rfl fun R' hR' hO => ?_
        have hcur : (wr.drew).heap[M]? = some (.cells (List.replicate k (bcell z) ++ List.replicate (n - k) (bcell false)).toArray 4 (0, 0)) := hG.out
        refine wpList_copy_splice rfl (.tmp 41) (.tmp 44) 23 23 rfl 4 Tryz.underlying23 (by kernel_rfl) _ _ (n - k) (n - k) k n rfl rfl M k (List.replicate k (bcell z) ++ List.replicate (n - k) (bcell false)) 4 hcur (List.replicate j (bcell z)) ?d1 ?d2 ?d3 ?d4 w2.heap.size w2 hb.drew hwM ?d5
        case d1 => rw [List.length_replicate, HR.out]; exact HJ.out.symm
        case d2 =>
          intro _
          refine ⟨rfl, _, rfl, fun i v hi => ?_⟩
          obtain ⟨hi1, hi2⟩ := List.getElem?_eq_some_iff.1 hi
          rw [List.length_replicate] at hi1
          rw [List.getElem_replicate] at hi2
          subst hi2
          have hij : i < k := by have := HJ.out; omega
          have h2 : ((List.replicate k (bcell z) ++ List.replicate (n - k) (bcell false)).toArray)[i]? = some (bcell z) := by simp [List.getElem?_append, hij]
          have h3 := (cell_of_row wr.drew M i _ _ (0, 0) hcur).trans h2
          rcases i with _ | i
          · simpa [Addr.add] using h3
          · simpa [Addr.add] using h3
        case d3 => simp; omega
        case d4 => intro v hv; rw [List.eq_of_mem_replicate hv]; rfl
        case d5 =>
          intro w4 hg4 hb4
          have HG4 : Hid (w4.heap[M]? = some (.cells (List.replicate (k + j) (bcell z) ++ List.replicate (n - (k + j)) (bcell false)).toArray 4 (0, 0))) := hid (by rw [← rep_splice z n k j hjr]; exact hg4.out)
          have hb4' := hb4
          clear hg4
          rw [List.length_replicate]
          go_wp2
          refine hR' _ _ trivial ?_
          repeat (refine wpMix2_q rfl rfl ?_; go_big_quiet_step (fail); refine wpQuiet_nil ?_)
          refine wpMix2_done ?_
          simp only [List.drop_succ_cons, List.drop_nil]
          go_wp2
          go_roundg (gk - j)
          case measure => have := HK.out; omega
          case rel => exact ⟨k + j, by have := HK.out; omega, fun h => by omega, by go_num, HG4, hb4'⟩
      · obtain rfl : k = n := by have := HK.out; omega
        have HG5 : Hid (wr.ownsRow w2.heap.size 4 1 (.slice (some ⟨M, 0, none⟩) k k) k (List.replicate k (bcell z))) := hid (by
          refine ⟨by simp, .inr ⟨M, k, _, rfl, hwM, hG.out, Nat.le_refl _, by unfold maxLen; omega, by simp, ?_⟩⟩
          simp)
        clear HK HK1 hG
        go_wp2
        go_ret
        exact ⟨_, rfl, HG5.out, hb⟩
theorem Mul64_32 (V : World) : Calls Tryz.prog 85 #[.int .u64 1, .int .u64 32] V (fun e W => e = .returned (.tuple #[.int .u64 0, .int .u64 32]) ∧ W = V) := by
  go_enter Tryz.func85, Tryz.ntmps85
  go_wp2
  go_ret2
  exact ⟨rfl, rfl⟩
theorem Mul_32 (V : World) : Calls Tryz.prog 58 #[.int .u64 1, .int .u64 ((32 : Nat) : Int)] V (fun e W => e = .returned (.tuple #[.int .u64 0, .int .u64 ((32 : Nat) : Int)]) ∧ W = V) := by
  have H := hid (Mul64_32 V)
  go_enter Tryz.func58, Tryz.ntmps58
  go_wp2_with fail
  refine H.out.mono ?_
  rintro e W ⟨rfl, rfl⟩
  go_wp2
  go_ret2
  exact ⟨rfl, rfl⟩
end Go.Proofs.YtahicokokfcieaaGreatDoor
namespace Go.Proofs.YtahicokokfcieaaGreatDoor
open Go.RowKit
open Go.Proofs
set_option linter.unusedVariables false
def kt0 : Mem := ⟨[0, 0, 0, 0, 0, 0, 0, 0, 0, 0, 0, 0, 0, 0, 0, 0, 0, 0, 0, 0, 0, 0, 0, 0, 0, 0, 0, 0, 0, 0, 0, 0], List.replicate 32 true, false⟩
def kt1 : Mem := ⟨[8589934596, 0, 0, 0, 0, 0, 0, 0, 0, 0, 0, 0, 0, 0, 0, 0, 0, 0, 0, 0, 0, 0, 0, 0, 0, 0, 0, 0, 0, 0, 0, 0], List.replicate 32 true, false⟩
def kt2 : Mem := ⟨[8589934596, 0, 0, 0, 0, 0, 8, 0, 1, 10, 0, 11400714819323198485, 0, 0, 0, 0, 0, 0, 0, 0, 0, 0, 0, 0, 0, 0, 0, 0, 0, 0, 0, 0], List.replicate 32 true, false⟩
def kt3 : Mem := ⟨[8589934596, 0, 0, 0, 0, 0, 8, 12, 1, 10, 0, 11400714819323198485, 3, 30, 0, 15755400384260043839, 0, 0, 0, 0, 0, 0, 0, 0, 0, 0, 0, 0, 0, 0, 0, 0], List.replicate 32 true, false⟩
def kt4 : Mem := ⟨[8589934596, 0, 0, 0, 0, 0, 0, 12, 1, 10, 0, 11400714819323198485, 3, 30, 0, 15755400384260043839, 0, 0, 0, 0, 0, 0, 0, 0, 0, 0, 0, 0, 0, 0, 0, 0], List.replicate 32 true, false⟩
theorem kt0_w : ∀ x ∈ kt0.W, x < 18446744073709551616 := by decide +kernel
theorem kt1_w : ∀ x ∈ kt1.W, x < 18446744073709551616 := by decide +kernel
theorem kt2_w : ∀ x ∈ kt2.W, x < 18446744073709551616 := by decide +kernel
theorem kt3_ok : okM kt3 = true := by decide +kernel
theorem kt3_w : ∀ x ∈ kt3.W, x < 18446744073709551616 := by decide +kernel
theorem klay : layT kt0 0 4 4 = (kt1, 0) := by kernel_rfl
theorem kins1 : insT kt1 0 8 1 10 = (kt2, 7, 0) := by kernel_rfl
theorem kins2 : insT kt2 0 12 3 30 = (kt3, 7, 0) := by kernel_rfl
def kxs : List Rw := [(2, 8, 1, 10), (3, 12, 3, 30)]
def kmet : List Nat := [0, 4, 5, 6, 7, 8, 9, 10, 11, 12, 13, 14, 15]
theorem krows : rowsW kt3 0 = some (kxs, kmet) := by kernel_rfl
theorem kfind1 : findT kt3 0 1 = (10, 5, 0) := by kernel_rfl
theorem kfind2 : findT kt3 0 2 = (0, 0, 4) := by kernel_rfl
theorem kins3 : insT kt3 0 16 1 11 = (zeroM, 0, 5) := by kernel_rfl
theorem krem : remT kt3 0 1 = (kt4, 8, 0) := by kernel_rfl
theorem kxs_ok : RwsOk kxs := by
  intro t ht
  simp only [kxs, List.mem_cons, List.not_mem_nil, or_false] at ht
  rcases ht with rfl | rfl <;> decide
end Go.Proofs.YtahicokokfcieaaGreatDoor
namespace Go.Proofs.YtahicokokfcieaaGreatDoor
open Go.RowKit
open Go.Proofs
set_option linter.unusedVariables false
attribute [local go_sem] Oper.semAt_some
/-- Who looks in a list has begun. -/
def LInv (l : Lk) : Prop := l.ph = 1 → 0 ≤ l.s.ph ∧ l.s.ph ≤ 3
theorem linv_step {M : Mem} {l : Lk} (hok : okM M = true) (hW : ∀ x ∈ M.W, x < 18446744073709551616) (ho : l.Ok) (hi : LInv l) : LInv (lookE M l).2.1 := by
  unfold lookE
  split
  · dsimp only
    split
    · intro h; exact absurd h (by show ¬ (3 : Int) = 1; decide)
    · intro _; exact ⟨by show (0 : Int) ≤ 0; decide, by show (0 : Int) ≤ 3; decide⟩
  · split
    · rename_i h1
      obtain ⟨p0, p3⟩ := hi h1
      obtain ⟨-, -, -, q0, q5⟩ := seekE_ok hok hW ho.s p0 (by omega)
      have hP : sseekP M l.s = ((seekE M l.s).1, (seekE M l.s).2.1, 0) := by
        unfold sseekP
        rw [if_neg (by rw [hok]; decide), if_neg (by omega)]
      rw [hP]
      intro h
      dsimp only at h ⊢
      split at h
      · exact absurd h (by decide)
      · split at h
        · exact absurd h (by decide)
        · omega
    · exact hi
theorem chk_of {M : Mem} {l l' : Lk} (hi : LInv l) (h : lookE M l = (M, l', true)) : chkE l = true := by
  have h01 : l.ph = 0 ∨ l.ph = 1 := by
    by_cases h0 : l.ph = 0
    · exact .inl h0
    · by_cases h1 : l.ph = 1
      · exact .inr h1
      · exfalso
        unfold lookE at h
        rw [if_neg h0, if_neg h1] at h
        simp at h
  unfold chkE
  rcases h01 with h0 | h1
  · rw [if_neg (by omega), h0]; rfl
  · obtain ⟨p0, p3⟩ := hi h1
    rw [if_pos h1, decide_eq_true p0, decide_eq_true (show l.s.ph < 4 by omega)]; rfl
def PInv (l : Lk) : Prop := (0 ≤ l.ph ∧ l.ph ≤ 3) ∧ LInv l
theorem pinv_step {M : Mem} {l : Lk} (hok : okM M = true) (hW : ∀ x ∈ M.W, x < 18446744073709551616) (ho : l.Ok) (hi : PInv l) : PInv (lookE M l).2.1 := by
  refine ⟨?_, linv_step hok hW ho hi.2⟩
  have h03 := hi.1
  unfold lookE
  split
  · dsimp only
    split
    · exact ⟨by show (0 : Int) ≤ 3; decide, by show (3 : Int) ≤ 3; decide⟩
    · exact ⟨by show (0 : Int) ≤ 1; decide, by show (1 : Int) ≤ 3; decide⟩
  · split
    · dsimp only
      split
      · exact ⟨by decide, by decide⟩
      · split
        · exact ⟨by decide, by decide⟩
        · exact ⟨by decide, by decide⟩
    · exact h03
theorem pinv_done {M : Mem} {l : Lk} (hi : PInv l) (h : lookE M l = (M, l, false)) : 2 ≤ l.ph := by
  have h03 := hi.1
  by_cases h0 : l.ph = 0
  · exfalso
    unfold lookE at h
    rw [if_pos h0] at h
    dsimp only at h
    split at h <;> simp at h
  · by_cases h1 : l.ph = 1
    · exfalso
      unfold lookE at h
      rw [if_neg h0, if_pos h1] at h
      simp at h
    · omega
theorem pinv_more {M : Mem} {l l' : Lk} (hi : PInv l) (h : lookE M l = (M, l', true)) : l.ph < 2 := by
  have h03 := hi.1
  by_cases h0 : l.ph = 0
  · omega
  · by_cases h1 : l.ph = 1
    · omega
    · exfalso
      unfold lookE at h
      rw [if_neg h0, if_neg h1] at h
      simp at h
theorem rLook19_result {W : World} {b6 : Nat} {v6 : Array Value} {u7 : Value} {tmps : Array Value} (h6 : W.heap[b6]? = some (.cells v6 43 (0, 0))) (q6 : tmps[6]?.getD undef = .pointer (some ⟨b6, 0, none⟩)) (q7 : tmps[7]?.getD undef = u7) (s6 : v6.size = 12 := by rfl) :
    (results Tryz.f13 tmps).run Tryz.prog W = .ok (.tuple #[.agg v6, u7]) W := by
  have l6 := run_loadVar_row (P := Tryz.prog) W b6 43 43 v6 (0, 0) _ h6 Tryz.underlying43 rfl (by rw [s6]; kernel_rfl)
  have ha : ∀ b : Nat, (asAddr (.pointer (some ⟨b, 0, none⟩))).run Tryz.prog W = .ok ⟨b, 0, none⟩ W := fun b => rfl
  simp [results, Tryz.results13, q6, q7, ha, l6]
structure Lkr (V : World) (X S Z : Nat) (wa la : Option Addr) (wc lc : Nat) (M : Mem) (l lE : Lk) (n N g : Nat) (W : World) : Prop where
  bx : W.heap[X]? = some (.cells #[.slice wa M.W.length wc, .slice la M.L.length lc, .bool M.F] 25 (0, 0))
  bs : W.heap[S]? = some (.cells (lk12 l) 43 (0, 0))
  bz : W.heap[Z]? = some (.cells #[.int .i64 0, .int .u64 0, .int .u64 0, .int .u64 0, .int .i64 0, .int .i64 0, .int .u64 0, .int .u64 0, .int .u64 0, .int .u64 0, .int .u64 0, .bool false] 43 (0, 0))
  mem : MemL W wa wc la lc M
  below : Below V.heap.size V W
  res : LkRun M l g lE
  cnt : n + g = N
  inv : PInv l
set_option maxRecDepth 100000 in
set_option maxHeartbeats 4000000 in
theorem rLook19_any (root key N : Nat) (M : Mem) (lE : Lk) (wa la : Option Addr) (wc lc : Nat) (V : World) (h : MemL V wa wc la lc M) (hok : okM M = true) (hW : ∀ x ∈ M.W, x < 18446744073709551616) (hl : LkRun M (askK root key) N lE) (hN : N ≤ 100000) :
    Calls Tryz.prog 13 #[memV wa wc la lc M, .int .u64 ((root : Nat) : Int), .int .u64 ((key : Nat) : Int)] V (Ret (.tuple #[lkV lE, .int .i64 ((N : Nat) : Int)]) V) := by
  obtain ⟨V1, hV1, hb1, hs1, hl1⟩ := laid V #[.slice wa M.W.length wc, .slice la M.L.length lc, .bool M.F] 25
  obtain ⟨V2, hV2, hb2, hs2, hl2⟩ := laid V1 #[.int .i64 0, .int .u64 0, .int .u64 0, .int .u64 0, .int .i64 0, .int .i64 0, .int .u64 0, .int .u64 0, .int .u64 0, .int .u64 0, .int .u64 0, .bool false] 43
  obtain ⟨V3, hV3, hb3, hs3, hl3⟩ := laid V2 #[.int .i64 0, .int .u64 0, .int .u64 0, .int .u64 0, .int .i64 0, .int .i64 0, .int .u64 0, .int .u64 0, .int .u64 0, .int .u64 0, .int .u64 0, .bool false] 43
  obtain ⟨X, hX⟩ : ∃ X, V.heap.size = X := ⟨_, rfl⟩
  rw [hX] at hl1
  obtain ⟨Z, hZ⟩ : ∃ X, V1.heap.size = X := ⟨_, rfl⟩
  rw [hZ] at hl2
  obtain ⟨S, hS⟩ : ∃ X, V2.heap.size = X := ⟨_, rfl⟩
  rw [hS] at hl3
  have HB := hid (step (step hb1 hb2) hb3)
  have KX := hid (keep_laid hl1 (step hb2 hb3))
  have KZ := hid (keep_laid hl2 hb3)
  have KS := hid hl3
  have HMM := hid (h.grow HB.out)
  have hVX : V.heap.size ≤ X := by omega
  have hXZ : X < Z := by omega
  have hZS : Z < S := by omega
  obtain ⟨LW, LL⟩ := h.lowA hok
  have HL := hid hl
  have HOK := hid hok
  have HW := hid hW
  have hwl := h.w.len
  have hll := h.l.len
  unfold memV
  clear h hl hok hW hb1 hs1 hl1 hb2 hs2 hl2 hb3 hs3 hl3
  go_enter Tryz.func13, Tryz.ntmps13
  go_wp2_with (refine wp_storeP rfl 43 (.tmp 8) (.tmp 12) rfl S 0 _ (lk12 (askK root key)) _ rfl rfl _ KS.out (by kernel_rfl) (Nat.le_of_ble_eq_true rfl) (by kernel_rfl) rfl ?_; intro V4 a1 a2 a3 a4; have KS4 := hid a1; have KX4 := hid (a2 X _ (by omega) KX.out); have KZ4 := hid (a2 Z _ (by omega) KZ.out); have HB4 := hid (a3 V.heap.size V (by omega) HB.out); have HM4 : Hid (MemL V4 wa wc la lc M) := hid ⟨HMM.out.w.keepNe (LW.apart (by omega)) a2, HMM.out.l.keepNe (LL.apart (by omega)) a2⟩; clear a1 a2 a3 a4; (try simp only [Act.put]))
  clear hX hZ hS hV1 hV2 hV3
  have HF : Hid (Lkr V X S Z wa la wc lc M (askK root key) lE 0 N N V4) := hid ⟨KX4.out, KS4.out, KZ4.out, HM4.out, HB4.out, HL.out, by omega, ⟨⟨by show (0 : Int) ≤ 0; decide, by show (0 : Int) ≤ 3; decide⟩, fun e => absurd e (by show ¬ (0 : Int) = 1; decide)⟩⟩
  clear KS4 KX4 KZ4 HB4 HM4 KX KZ KS HB HMM HL
  go_loopg [9] N (fun g t9 wr => ∃ (l : Lk) (n : Nat), t9 = .int .i64 ((n : Nat) : Int) ∧ Hid (Lkr V X S Z wa la wc lc M l lE n N g wr))
  case atStart => exact ⟨_, 0, rfl, HF⟩
  case round =>
    clear HF
    obtain ⟨l, n, rfl, hF⟩ := hrel
    have s0 : wr.cell? ⟨S, 0, none⟩ = some (.int .i64 l.ph) := cell_laid (i := 0) hF.out.bs rfl
    rcases hF.out.res.two with ⟨rfl, rfl, o2⟩ | ⟨l', g', hgk, o2, r⟩
    · skip
      have hd := pinv_done hF.out.inv o2
      have t0 : decide (l.ph < 2) = false := decide_eq_false (by omega)
      have hn : n = N := by have := hF.out.cnt; omega
      have HN := hid hn
      clear hd o2 hn
      go_wp2_with (first | (refine wp_loadW rfl 43 (.tmp 8) rfl S _ rfl _ hF.out.bs _ Tryz.underlying43 rfl (by kernel_rfl) ?_; intro v hv; subst hv) | (refine wp_storeP rfl 43 (.tmp 6) (.tmp 24) rfl Z 0 _ (lk12 l) _ rfl rfl _ hF.out.bz (by kernel_rfl) (Nat.le_of_ble_eq_true rfl) (by kernel_rfl) rfl ?_; intro V5 a1 a2 a3 a4; have KZ5 := hid a1; have HB5 := hid (a3 V.heap.size V (by omega) hF.out.below); clear a1 a2 a3 a4; (try simp only [Act.put])))
      (try rw [Exit.noGoto_ret])
      refine bodyPost_ret (rLook19_result KZ5.out rfl rfl) rfl ?_
      exact ⟨by rw [HN.out]; rfl, HB5.out⟩
    · skip
      have hd := pinv_more hF.out.inv o2
      have t0 : decide (l.ph < 2) = true := decide_eq_true hd
      have hnN : n ≤ N := by have := hF.out.cnt; omega
      have HST := hid (rStep19_any M l wa la wc lc wr hF.out.mem HOK.out HW.out hF.out.res.ok (chk_of hF.out.inv.2 o2))
      have hp := pinv_step HOK.out HW.out hF.out.res.ok hF.out.inv
      rw [o2] at hp HST
      dsimp only at hp HST
      have HP := hid hp
      have HR := hid r
      have HGK := hid hgk
      unfold memV lkV at HST
      clear hd o2 r hgk hp
      go_wp2_with (first | (refine wp_loadW rfl 43 (.tmp 8) rfl S _ rfl _ hF.out.bs _ Tryz.underlying43 rfl (by kernel_rfl) ?_; intro v hv; subst hv) | (refine wp_loadW rfl 25 (.tmp 3) rfl X _ rfl _ hF.out.bx _ Tryz.underlying25 rfl (by kernel_rfl) ?_; intro v hv; subst hv))
      refine HST.out.mono ?_
      rintro e w2 ⟨wa2, wc2, la2, lc2, rfl, -, hb2⟩
      unfold memV lkV
      have HS2 := hid (keep_laid hF.out.bs hb2)
      have HX2 := hid (keep_laid hF.out.bx hb2)
      have HZ2 := hid (keep_laid hF.out.bz hb2)
      have HM2 := hid (hF.out.mem.grow hb2)
      have HB2 := hid (hF.out.below.trans (hb2.mono hF.out.below.size))
      clear hb2 HST s0
      go_wp2_with (refine wp_storeP rfl 43 (.tmp 8) (.tmp 21) rfl S 0 _ (lk12 l') _ rfl rfl _ HS2.out (by kernel_rfl) (Nat.le_of_ble_eq_true rfl) (by kernel_rfl) rfl ?_; intro w3 a1 a2 a3 a4; have KS3 := hid a1; have KX3 := hid (a2 X _ (by omega) HX2.out); have KZ3 := hid (a2 Z _ (by omega) HZ2.out); have HB3 := hid (a3 V.heap.size V (by omega) HB2.out); have HM3 : Hid (MemL w3 wa wc la lc M) := hid ⟨HM2.out.w.keepNe (LW.apart (by omega)) a2, HM2.out.l.keepNe (LL.apart (by omega)) a2⟩; clear a1 a2 a3 a4; (try simp only [Act.put]))
      go_roundg g'
      case measure => have := HGK.out; omega
      case rel => exact ⟨l', n + 1, by go_num, hid ⟨KX3.out, KS3.out, KZ3.out, HM3.out, HB3.out, HR.out, by have := hF.out.cnt; have := HGK.out; omega, HP.out⟩⟩
end Go.Proofs.YtahicokokfcieaaGreatDoor
