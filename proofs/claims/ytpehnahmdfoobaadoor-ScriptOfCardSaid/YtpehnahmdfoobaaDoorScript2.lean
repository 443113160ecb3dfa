/- Scripts: slices.Repeat of one number. -/
import Derived.Test.YtpehnahmdfoobaaDoorScript1
import Derived.Deep.LoopGhost
namespace Go.Proofs.YtpehnahmdfoobaaDoor
open Go.RowKit
open Go.Proofs
set_option linter.unusedVariables false

def icell (z : Int) : Value := .int .i64 z
theorem elemInts : Elem Tryd.prog 22 3 1 8 := Elem.mk' (z := .int .i64 0) Tryd.underlying22 (by kernel_rfl) rfl (by decide) (by decide)
theorem make_ints (w : World) (n : Nat) (hn : n ≤ 100000) : (Instr.makeSlice 22 (.int .i64 ((n : Nat) : Int)) (.int .i64 ((n : Nat) : Int))).run Tryd.prog w = .ok (.slice (some ⟨w.heap.size, 0, none⟩) n n) (w.alloc (.cells (madeCells #[.int .i64 0] n) 3)) := by
  obtain ⟨i, z, hi, hz, h2, h3, h4⟩ := elemInts.info
  have hz0 : (Tryd.prog.info? 3).map (fun i => i.zero) = some (some (.int .i64 0)) := by kernel_rfl
  rw [hi] at hz0
  have e : i.zero = some (.int .i64 0) := Option.some.inj hz0
  have hr := run_make (P := Tryd.prog) w 22 3 i _ Tryd.underlying22 hi e .i64 .i64 (n : Int) (n : Int) (by omega) (by omega) (by rw [h3]; omega) (by omega)
  rw [hr, h2, Int.toNat_natCast, Nat.mul_one]
  rfl
theorem made_ints (n : Nat) : madeCells #[.int .i64 0] n = (List.replicate n (icell 0)).toArray := by
  apply Array.ext
  · simp [size_madeCells]
  · intro j h1 h2
    have := size_madeCells #[Value.int .i64 0] n
    have e : j % 1 = 0 := Nat.mod_one j
    simp [madeCells, icell, e]
theorem rep_splice (z : Int) (n k j : Nat) (hk : k + j ≤ n) : splice (List.replicate k (icell z) ++ List.replicate (n - k) (icell 0)) k (List.replicate j (icell z)) = List.replicate (k + j) (icell z) ++ List.replicate (n - (k + j)) (icell 0) := by
  unfold splice
  rw [List.take_append_of_le_length (by simp), List.take_of_length_le (by simp), List.length_replicate]
  rw [List.drop_append, List.drop_of_length_le (by simp), List.nil_append, List.length_replicate, List.drop_replicate, ← List.append_assoc, List.replicate_append_replicate]
  congr 2
  omega

set_option maxRecDepth 100000 in
set_option maxHeartbeats 1000000 in
theorem Repeat_any (z : Int) (n b : Nat) (w : World) (hc : w.cell? ⟨b, 0, none⟩ = some (.int .i64 z)) (hbw : b < w.heap.size) (hn : n ≤ 100000) :
    Calls Tryd.prog 10 #[.slice (some ⟨b, 0, none⟩) 1 1, .int .i64 (n : Nat)] w (fun e w' => ∃ g, e = .returned (.slice (some ⟨g, 0, none⟩) n n) ∧ w'.ownsRow w.heap.size 3 1 (.slice (some ⟨g, 0, none⟩) n n) n (List.replicate n (icell z)) ∧ Below w.heap.size w w') := by
  have hM := fun W => Tryd.bits_Mul 1 n (by decide) (by omega) W
  rw [Nat.one_mul, Nat.div_eq_of_lt (by omega), Nat.mod_eq_of_lt (by omega)] at hM
  have hmk := make_ints w n hn
  rw [made_ints] at hmk
  obtain ⟨w1, hw1, hb1, hs1, hl1⟩ := laid w (List.replicate n (icell 0)).toArray 3
  rw [hw1] at hmk
  obtain ⟨M, hMs⟩ : ∃ M, w.heap.size = M := ⟨_, rfl⟩
  rw [hMs] at hmk hl1 hs1
  have HM := hid hM
  have HL1 := hid hl1
  have HC := hid hc
  have hbM : b < M := by omega
  clear hM hl1 hs1 hc
  go_enter Tryd.func10, Tryd.ntmps10
  go_wp2_with fail
  refine (HM.out _).mono ?_
  rintro e w2 ⟨rfl, rfl⟩
  obtain ⟨k0, hk0⟩ : ∃ k0, min 1 n = k0 := ⟨_, rfl⟩
  have hk0n : k0 ≤ n := by omega
  have hk01 : k0 = 0 → n = 0 := by omega
  have HK01 := hid hk01
  have HK0 := hid hk0
  have hwM : w2.heap.size ≤ M := by omega
  clear hk01 hk0
  go_wp2_with ((with_reducible show wpList _ _ _ _ _ _); refine wpList_copy_splice rfl (.tmp 31) (.tmp 32) 22 22 rfl 3 Tryd.underlying22 (by kernel_rfl) _ _ n n 1 1 rfl rfl M 0 (List.replicate n (icell 0)) 3 HL1.out (List.replicate k0 (icell z)) ?c1 ?c2 ?c3 ?c4 w2.heap.size w2 hb1 hwM ?c5)
  case c1 => rw [List.length_replicate]; exact HK0.out.symm
  case c2 =>
    intro _ j v hj
    obtain ⟨hj1, hj2⟩ := List.getElem?_eq_some_iff.1 hj
    rw [List.length_replicate] at hj1
    rw [List.getElem_replicate] at hj2
    subst hj2
    obtain rfl : j = 0 := by have := HK0.out; omega
    exact (hb1.cell (p := ⟨b, 0, none⟩) hbw).trans HC.out
  case c3 => simp; exact hk0n
  case c4 => intro v hv; rw [List.eq_of_mem_replicate hv]; rfl
  case c5 =>
    intro w3 hg3 hb3
    have hsp := rep_splice z n 0 k0 (by omega)
    rw [Nat.zero_add] at hsp
    simp only [List.replicate_zero, List.nil_append, Nat.sub_zero] at hsp
    have HG3 : Hid (w3.heap[M]? = some (.cells (List.replicate k0 (icell z) ++ List.replicate (n - k0) (icell 0)).toArray 3 (0, 0))) := hid (by rw [← hsp]; exact hg3.out)
    clear hg3 hsp
    go_wp2
    go_loopg [8] (n - k0) (fun g t8 wr => ∃ k : Nat, g + k = n ∧ (k = 0 → n = 0) ∧ t8 = .int .i64 (k : Nat) ∧ Hid (wr.heap[M]? = some (.cells (List.replicate k (icell z) ++ List.replicate (n - k) (icell 0)).toArray 3 (0, 0))) ∧ Below w2.heap.size w2 wr)
    case atStart => exact ⟨k0, by omega, HK01.out, rfl, HG3, hb3.mono hwM⟩
    case round =>
      obtain ⟨k, hk, hk1, rfl, hG, hb⟩ := hrel
      have HK := hid hk
      have HK1 := hid hk1
      clear hk hk1
      by_cases hlt : k < n
      · have hkp : 0 < k := by have := HK1.out; omega
        obtain ⟨r, hr⟩ : ∃ r, n - k = r := ⟨_, rfl⟩
        have hkn : k + r = n := by omega
        obtain ⟨j, hj⟩ : ∃ j, min k r = j := ⟨_, rfl⟩
        have HR := hid hr
        have HJ := hid hj
        have hjr : k + j ≤ n := by omega
        have hj0 : 0 < j := by omega
        have hle1 : ((k : Nat) : Int) ≤ ((n : Nat) : Int) := by omega
        have HKN := hid hkn
        clear hr hj hkn
        go_upto_region 9 with (fail)
        refine wp_region_mix2 (fun _ => True) 10 (.q 0 (.q 1 (.q 2 (.q 3 (.q 4 (.q 5 (.q 6 (.h 7 (.q 8 (.q 9 (.done))))))))))) (by kernel_rfl) (by kernel_rfl) trivial ?_
        repeat (refine wpMix2_q rfl rfl ?_; go_big_quiet_step (fail); refine wpQuiet_nil ?_)
        refine wpMix2_h rfl fun R' hR' hO => ?_
        have hcur : (wr.drew).heap[M]? = some (.cells (List.replicate k (icell z) ++ List.replicate (n - k) (icell 0)).toArray 3 (0, 0)) := hG.out
        refine wpList_copy_splice rfl (.tmp 41) (.tmp 44) 22 22 rfl 3 Tryd.underlying22 (by kernel_rfl) _ _ (n - k) (n - k) k n rfl rfl M k (List.replicate k (icell z) ++ List.replicate (n - k) (icell 0)) 3 hcur (List.replicate j (icell z)) ?d1 ?d2 ?d3 ?d4 w2.heap.size w2 hb.drew hwM ?d5
        case d1 => rw [List.length_replicate, HR.out]; exact HJ.out.symm
        case d2 =>
          intro _
          refine ⟨rfl, _, rfl, fun i v hi => ?_⟩
          obtain ⟨hi1, hi2⟩ := List.getElem?_eq_some_iff.1 hi
          rw [List.length_replicate] at hi1
          rw [List.getElem_replicate] at hi2
          subst hi2
          have hij : i < k := by have := HJ.out; omega
          have h2 : ((List.replicate k (icell z) ++ List.replicate (n - k) (icell 0)).toArray)[i]? = some (icell z) := by simp [List.getElem?_append, hij]
          have h3 := (cell_of_row wr.drew M i _ _ (0, 0) hcur).trans h2
          rcases i with _ | i
          · simpa [Addr.add] using h3
          · simpa [Addr.add] using h3
        case d3 => simp; omega
        case d4 => intro v hv; rw [List.eq_of_mem_replicate hv]; rfl
        case d5 =>
          intro w4 hg4 hb4
          have HG4 : Hid (w4.heap[M]? = some (.cells (List.replicate (k + j) (icell z) ++ List.replicate (n - (k + j)) (icell 0)).toArray 3 (0, 0))) := hid (by rw [← rep_splice z n k j hjr]; exact hg4.out)
          have hb4' := hb4
          clear hg4
          rw [List.length_replicate]
          go_wp2
          refine hR' _ _ trivial ?_
          repeat (refine wpMix2_q rfl rfl ?_; go_big_quiet_step (fail); refine wpQuiet_nil ?_)
          refine wpMix2_done ?_
          simp only [List.drop_succ_cons, List.drop_nil]
          go_wp2
          go_roundg (gk - j)
          case measure => have := HK.out; omega
          case rel => exact ⟨k + j, by have := HK.out; omega, fun h => by omega, by go_num, HG4, hb4'⟩
      · obtain rfl : k = n := by have := HK.out; omega
        have HG5 : Hid (wr.ownsRow w2.heap.size 3 1 (.slice (some ⟨M, 0, none⟩) k k) k (List.replicate k (icell z))) := hid (by
          refine ⟨by simp, .inr ⟨M, k, _, rfl, hwM, hG.out, Nat.le_refl _, by unfold maxLen; omega, by simp, ?_⟩⟩
          simp)
        clear HK HK1 hG
        go_wp2
        go_ret
        exact ⟨_, rfl, HG5.out, hb⟩
end Go.Proofs.YtpehnahmdfoobaaDoor
