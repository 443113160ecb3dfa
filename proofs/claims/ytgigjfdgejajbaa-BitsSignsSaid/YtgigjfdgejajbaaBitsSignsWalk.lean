/- BitsSigns: the walk of the law. -/
import Derived.Test.YtgigjfdgejajbaaLawA
import Derived.Test.YtgigjfdgejajbaaLawDefs
import Derived.Test.YtgigjfdgejajbaaRef4
import Derived.Deep.DeepCutAuto
import Derived.Deep.CutBlock
namespace Go.Proofs.Ytgigjfdgejajbaa
open Go.RowKit
open Go.Proofs
set_option linter.unusedVariables false

theorem signedV_ok (x q : Nat) (h1 : 1 ≤ q) (h2 : q ≤ 64) : signedV x (q : Nat) = .tuple #[.int .i64 (signedI x q), .int .i64 0] := by
  unfold signedV; rw [if_pos (by omega)]; rfl
theorem signedV_bad (x : Nat) (z : Int) (h : ¬ (1 ≤ z ∧ z ≤ 64)) : signedV x z = .tuple #[.int .i64 0, .int .i64 2] := by
  unfold signedV; rw [if_neg h]
theorem unsV_ok (y : Int) (q : Nat) (h1 : 1 ≤ q) (h2 : q ≤ 64) (h : fitsB y q = true) : unsignedV y (q : Nat) = .tuple #[.int .u64 ((lowN y q : Nat) : Int), .int .i64 0] := by
  unfold unsignedV; rw [if_pos (by omega)]; exact if_pos h
theorem unsV_no (y : Int) (q : Nat) (h1 : 1 ≤ q) (h2 : q ≤ 64) (h : ¬ fitsB y q = true) : unsignedV y (q : Nat) = .tuple #[.int .u64 0, .int .i64 111] := by
  unfold unsignedV; rw [if_pos (by omega)]; exact if_neg h
theorem unsV_bad (y : Int) (z : Int) (h : ¬ (1 ≤ z ∧ z ≤ 64)) : unsignedV y z = .tuple #[.int .u64 0, .int .i64 2] := by
  unfold unsignedV; rw [if_neg h]

set_option maxRecDepth 100000 in
set_option maxHeartbeats 1000000 in
theorem bitsSigns.walk (a0 : Option Addr) (cap0 : Nat) (xs : List Nat) (a1 : Option Addr) (cap1 : Nat) (ys : List Int) (a2 : Option Addr) (cap2 : Nat) (ns : List Int) (w : World) (h0 : Leads w a0 xs.length cap0 (wcells xs)) (hx : wok xs) (h1 : Leads w a1 ys.length cap1 (icells ys)) (hy : iok ys) (h2 : Leads w a2 ns.length cap2 (icells ns)) (hn : iok ns) :
    Calls Try.prog 4 #[.slice a0 xs.length cap0, .slice a1 ys.length cap1, .slice a2 ns.length cap2] w (Ret (.bool true) w) := by
  obtain ⟨n, en⟩ : ∃ n, xs.length = n := ⟨_, rfl⟩
  obtain ⟨m, em⟩ : ∃ m, ys.length = m := ⟨_, rfl⟩
  obtain ⟨o, eo⟩ : ∃ o, ns.length = o := ⟨_, rfl⟩
  rw [en] at h0 ⊢
  rw [em] at h1 ⊢
  rw [eo] at h2 ⊢
  have H0 := hid (fun k hk => Leads.word (k := k) h0 en hx hk)
  have H1 := hid (fun k hk => Leads.number (k := k) h1 em hy hk)
  have H2 := hid (fun k hk => Leads.number (k := k) h2 eo hn hk)
  have hn := h0.len.1
  have hm := h1.len.1
  have ho := h2.len.1
  clear en em eo h0 h1 h2 hx hy
  go_enter Try.func4, Try.ntmps4
  go_wp2_with ((go_at_call 9; refine (wakes_any _).mono ?_; rintro e w1 ⟨rfl, hb1⟩))
  go_loopg [25] o (fun g i wr => ∃ k : Nat, g + k = o ∧ i = .int .i64 (k : Nat) ∧ Below w.heap.size w wr)
  case atStart => exact ⟨0, rfl, rfl, by assumption⟩
  case round =>
    obtain ⟨k, hk, rfl, hb⟩ := hrel
    obtain ⟨G, hG⟩ : ∃ G, G = gk - 1 := ⟨_, rfl⟩
    have HK := hid (And.intro hk hG)
    clear hk hG
    by_cases hlt : k < o
    · obtain ⟨b, off, z, rfl, ⟨hz1, hz2⟩, -, hc⟩ := H2.out k hlt
      have hc := hc _ hb
      cases h8 : ((k : Int) == 8) with
      | true =>
        go_wp2
        go_ret
        exact ⟨rfl, hb⟩
      | false =>
        by_cases hmay : 1 ≤ z ∧ z ≤ 64
        · obtain ⟨q, rfl⟩ : ∃ q : Nat, z = (q : Int) := ⟨z.toNat, by omega⟩
          obtain ⟨hq1, hq2⟩ := hmay
          have hq1' : 1 ≤ q := by omega
          have hq2' : q ≤ 64 := by omega
          go_upto_block 2 with (fail)
          go_cut [40] (fun i wr => Below w.heap.size w wr)
          case first =>
            go_wp2
            go_loopg [40] n (fun g i wr => ∃ k : Nat, g + k = n ∧ i = .int .i64 (k : Nat) ∧ Below w.heap.size w wr)
            case atStart => exact ⟨0, rfl, rfl, hb⟩
            case round =>
              obtain ⟨j, hj, rfl, hb2⟩ := hrel
              have HJ := hid hj
              clear hj
              by_cases hlj : j < n
              · obtain ⟨bw, offw, x, rfl, hx, -, hcw⟩ := H0.out j hlj
                have hcw := hcw _ hb2
                cases h8j : ((j : Int) == 8) with
                | true =>
                  go_wp2
                  go_meet
                  exact hb2
                | false =>
                  go_wp2_with fail
                  refine (Signed_any x (q : Nat) _).mono ?_
                  rw [signedV_ok x q hq1' hq2']
                  rintro e w2 ⟨rfl, hb3⟩
                  go_wp2_with fail
                  refine (rSigned_any x q _ hx hq1' hq2').mono ?_
                  rintro e w3 ⟨rfl, hb4⟩
                  go_wp2
                  go_roundg (gk - 1)
                  case measure => have := HJ.out; omega
                  case rel => exact ⟨j + 1, by have := HJ.out; omega, by go_num, step (step hb2 hb3) hb4⟩
              · go_wp2
                go_meet
                exact hb2
          case rest =>
            go_wp2
            go_loopg [80] m (fun g i wr => ∃ k : Nat, g + k = m ∧ i = .int .i64 (k : Nat) ∧ Below w.heap.size w wr)
            case atStart => exact ⟨0, rfl, rfl, hcut⟩
            case round =>
              obtain ⟨j, hj, rfl, hb2⟩ := hrel
              have HJ := hid hj
              clear hj
              by_cases hlj : j < m
              · obtain ⟨bw, offw, y, rfl, ⟨hy1, hy2⟩, -, hcw⟩ := H1.out j hlj
                have hcw := hcw _ hb2
                cases h8j : ((j : Int) == 8) with
                | true =>
                  go_wp2
                  go_roundg G
                  case measure => have := HK.out; omega
                  case rel => exact ⟨k + 1, by have := HK.out; omega, by go_num, hb2⟩
                | false =>
                  go_wp2_with fail
                  refine (Unsigned_any y (q : Nat) _).mono ?_
                  by_cases hfit : fitsB y q = true
                  · rw [unsV_ok y q hq1' hq2' hfit]
                    rintro e w2 ⟨rfl, hb3⟩
                    have HF := hid hfit
                    clear hfit
                    go_wp2_with fail
                    refine (rUnsigned_any y q _ hy1 hy2 hq1' hq2').mono ?_
                    rw [show rUnsV y q = .tuple #[.int .u64 ((lowN y q : Nat) : Int), .bool true] by unfold rUnsV; rw [if_pos HF.out]]
                    rintro e w3 ⟨rfl, hb4⟩
                    go_wp2
                    go_roundg (gk - 1)
                    case measure => have := HJ.out; omega
                    case rel => exact ⟨j + 1, by have := HJ.out; omega, by go_num, step (step hb2 hb3) hb4⟩
                  · rw [unsV_no y q hq1' hq2' hfit]
                    rintro e w2 ⟨rfl, hb3⟩
                    have HF := hid hfit
                    clear hfit
                    go_wp2_with fail
                    refine (rUnsigned_any y q _ hy1 hy2 hq1' hq2').mono ?_
                    rw [show rUnsV y q = .tuple #[.int .u64 0, .bool false] by unfold rUnsV; rw [if_neg HF.out]]
                    rintro e w3 ⟨rfl, hb4⟩
                    go_wp2
                    go_roundg (gk - 1)
                    case measure => have := HJ.out; omega
                    case rel => exact ⟨j + 1, by have := HJ.out; omega, by go_num, step (step hb2 hb3) hb4⟩
              · go_wp2
                go_roundg G
                case measure => have := HK.out; omega
                case rel => exact ⟨k + 1, by have := HK.out; omega, by go_num, hb2⟩
        · have HM := hid hmay
          have hbad : z ≤ 0 ∨ 65 ≤ z := by omega
          clear hmay
          rcases hbad with hbad | hbad
          · go_upto_block 2 with (fail)
            go_cut [40] (fun i wr => Below w.heap.size w wr)
            case first =>
              go_wp2
              go_loopg [40] n (fun g i wr => ∃ k : Nat, g + k = n ∧ i = .int .i64 (k : Nat) ∧ Below w.heap.size w wr)
              case atStart => exact ⟨0, rfl, rfl, hb⟩
              case round =>
                obtain ⟨j, hj, rfl, hb2⟩ := hrel
                have HJ := hid hj
                clear hj
                by_cases hlj : j < n
                · obtain ⟨bw, offw, x, rfl, hx, -, hcw⟩ := H0.out j hlj
                  have hcw := hcw _ hb2
                  cases h8j : ((j : Int) == 8) with
                  | true =>
                    go_wp2
                    go_meet
                    exact hb2
                  | false =>
                    go_wp2_with fail
                    refine (Signed_any x z _).mono ?_
                    rw [signedV_bad x z HM.out]
                    rintro e w2 ⟨rfl, hb3⟩
                    go_wp2
                    go_roundg (gk - 1)
                    case measure => have := HJ.out; omega
                    case rel => exact ⟨j + 1, by have := HJ.out; omega, by go_num, step hb2 hb3⟩
                · go_wp2
                  go_meet
                  exact hb2
            case rest =>
              go_wp2
              go_loopg [80] m (fun g i wr => ∃ k : Nat, g + k = m ∧ i = .int .i64 (k : Nat) ∧ Below w.heap.size w wr)
              case atStart => exact ⟨0, rfl, rfl, hcut⟩
              case round =>
                obtain ⟨j, hj, rfl, hb2⟩ := hrel
                have HJ := hid hj
                clear hj
                by_cases hlj : j < m
                · obtain ⟨bw, offw, y, rfl, ⟨hy1, hy2⟩, -, hcw⟩ := H1.out j hlj
                  have hcw := hcw _ hb2
                  cases h8j : ((j : Int) == 8) with
                  | true =>
                    go_wp2
                    go_roundg G
                    case measure => have := HK.out; omega
                    case rel => exact ⟨k + 1, by have := HK.out; omega, by go_num, hb2⟩
                  | false =>
                    go_wp2_with fail
                    refine (Unsigned_any y z _).mono ?_
                    rw [unsV_bad y z HM.out]
                    rintro e w2 ⟨rfl, hb3⟩
                    go_wp2
                    go_roundg (gk - 1)
                    case measure => have := HJ.out; omega
                    case rel => exact ⟨j + 1, by have := HJ.out; omega, by go_num, step hb2 hb3⟩
                · go_wp2
                  go_roundg G
                  case measure => have := HK.out; omega
                  case rel => exact ⟨k + 1, by have := HK.out; omega, by go_num, hb2⟩
          · have hd2 : (decide (z ≤ 64)) = false := decide_eq_false (by omega)
            have hd3 : ¬ z ≤ 64 := by omega
            go_upto_block 2 with (fail)
            go_cut [40] (fun i wr => Below w.heap.size w wr)
            case first =>
              go_wp2
              go_loopg [40] n (fun g i wr => ∃ k : Nat, g + k = n ∧ i = .int .i64 (k : Nat) ∧ Below w.heap.size w wr)
              case atStart => exact ⟨0, rfl, rfl, hb⟩
              case round =>
                obtain ⟨j, hj, rfl, hb2⟩ := hrel
                have HJ := hid hj
                clear hj
                by_cases hlj : j < n
                · obtain ⟨bw, offw, x, rfl, hx, -, hcw⟩ := H0.out j hlj
                  have hcw := hcw _ hb2
                  cases h8j : ((j : Int) == 8) with
                  | true =>
                    go_wp2
                    go_meet
                    exact hb2
                  | false =>
                    go_wp2_with fail
                    refine (Signed_any x z _).mono ?_
                    rw [signedV_bad x z HM.out]
                    rintro e w2 ⟨rfl, hb3⟩
                    go_wp2
                    go_roundg (gk - 1)
                    case measure => have := HJ.out; omega
                    case rel => exact ⟨j + 1, by have := HJ.out; omega, by go_num, step hb2 hb3⟩
                · go_wp2
                  go_meet
                  exact hb2
            case rest =>
              go_wp2
              go_loopg [80] m (fun g i wr => ∃ k : Nat, g + k = m ∧ i = .int .i64 (k : Nat) ∧ Below w.heap.size w wr)
              case atStart => exact ⟨0, rfl, rfl, hcut⟩
              case round =>
                obtain ⟨j, hj, rfl, hb2⟩ := hrel
                have HJ := hid hj
                clear hj
                by_cases hlj : j < m
                · obtain ⟨bw, offw, y, rfl, ⟨hy1, hy2⟩, -, hcw⟩ := H1.out j hlj
                  have hcw := hcw _ hb2
                  cases h8j : ((j : Int) == 8) with
                  | true =>
                    go_wp2
                    go_roundg G
                    case measure => have := HK.out; omega
                    case rel => exact ⟨k + 1, by have := HK.out; omega, by go_num, hb2⟩
                  | false =>
                    go_wp2_with fail
                    refine (Unsigned_any y z _).mono ?_
                    rw [unsV_bad y z HM.out]
                    rintro e w2 ⟨rfl, hb3⟩
                    go_wp2
                    go_roundg (gk - 1)
                    case measure => have := HJ.out; omega
                    case rel => exact ⟨j + 1, by have := HJ.out; omega, by go_num, step hb2 hb3⟩
                · go_wp2
                  go_roundg G
                  case measure => have := HK.out; omega
                  case rel => exact ⟨k + 1, by have := HK.out; omega, by go_num, hb2⟩
    · go_wp2
      go_ret
      exact ⟨rfl, hb⟩
end Go.Proofs.Ytgigjfdgejajbaa
