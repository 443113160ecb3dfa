/- BitsMoves: the walk of the law. -/
import Derived.Test.YtgigjfdgejajbaaLawA
import Derived.Test.YtgigjfdgejajbaaLawDefs
import Derived.Test.YtgigjfdgejajbaaRef3
import Derived.Deep.DeepCutAuto
import Derived.Deep.CutBlock
namespace Go.Proofs.Ytgigjfdgejajbaa
open Go.RowKit
open Go.Proofs
set_option linter.unusedVariables false

/-- Both say the same of a word that is moved left. -/
theorem left_same (x q : Nat) (hx : x < 18446744073709551616) : (∃ L : Nat, L < 18446744073709551616 ∧ leftV x (q : Nat) = .tuple #[.int .u64 (L : Int), .int .i64 0] ∧ ∀ m, m = min q 70 → rLeftV x m = .tuple #[.int .u64 (L : Int), .bool true]) ∨
    (leftV x (q : Nat) = .tuple #[.int .u64 0, .int .i64 111] ∧ ∀ m, m = min q 70 → rLeftV x m = .tuple #[.int .u64 0, .bool false]) := by
  unfold leftV rLeftV pw
  rw [if_neg (by omega)]
  show (∃ L : Nat, L < 18446744073709551616 ∧ (if x * 2 ^ q < 18446744073709551616 then _ else _) = _ ∧ _) ∨ (if x * 2 ^ q < 18446744073709551616 then _ else _) = _ ∧ _
  by_cases hq : q ≤ 70
  · by_cases h : x * 2 ^ q < 18446744073709551616
    · refine .inl ⟨x * 2 ^ q, h, if_pos h, ?_⟩
      rintro m rfl
      rw [Nat.min_eq_left hq, if_pos h]
    · refine .inr ⟨if_neg h, ?_⟩
      rintro m rfl
      rw [Nat.min_eq_left hq, if_neg h]
  · by_cases h0 : x = 0
    · subst h0
      refine .inl ⟨0, by decide, by simp, ?_⟩
      rintro m rfl
      simp
    · have h1 : 1 * 2 ^ q ≤ x * 2 ^ q := Nat.mul_le_mul_right _ (by omega)
      have h2 := Pl.pow_mono (a := 64) (b := q) (by omega)
      have h3 : 1 * 2 ^ 70 ≤ x * 2 ^ 70 := Nat.mul_le_mul_right _ (by omega)
      refine .inr ⟨if_neg (by omega), ?_⟩
      rintro m rfl
      rw [Nat.min_eq_right (by omega), if_neg (by omega)]
theorem left_ways (x : Nat) (z : Int) (hx : x < 18446744073709551616) : ∃ (A : Nat) (E : Int), A < 18446744073709551616 ∧ (0 ≤ E ∧ E ≤ 111) ∧ leftV x z = .tuple #[.int .u64 (A : Int), .int .i64 E] ∧
    (z < 0 → A = 0 ∧ E = 2) ∧ ∀ q : Nat, z = (q : Int) → (E = 0 ∧ ∀ m, m = min q 70 → rLeftV x m = .tuple #[.int .u64 (A : Int), .bool true]) ∨ (A = 0 ∧ E = 111 ∧ ∀ m, m = min q 70 → rLeftV x m = .tuple #[.int .u64 0, .bool false]) := by
  by_cases hz : z < 0
  · exact ⟨0, 2, by decide, by decide, by unfold leftV; rw [if_pos hz]; rfl, fun _ => ⟨rfl, rfl⟩, fun q h => by omega⟩
  · obtain ⟨q, rfl⟩ : ∃ q : Nat, z = (q : Int) := ⟨z.toNat, by omega⟩
    rcases left_same x q hx with ⟨L, hL, e1, e2⟩ | ⟨e1, e2⟩
    · exact ⟨L, 0, hL, by decide, e1, fun h => absurd h hz, fun p h => by
      obtain rfl : q = p := by omega
      exact .inl ⟨rfl, e2⟩⟩
    · exact ⟨0, 111, by decide, by decide, e1, fun h => absurd h hz, fun p h => by
      obtain rfl : q = p := by omega
      exact .inr ⟨rfl, rfl, e2⟩⟩
theorem leftV_neg (x : Nat) (z : Int) (h : z < 0) : leftV x z = .tuple #[.int .u64 0, .int .i64 2] := by unfold leftV; rw [if_pos h]
theorem turnV_bad (x : Nat) (z : Int) (h : ¬ (0 ≤ z ∧ z ≤ 64)) : turnV x z = .tuple #[.int .u64 0, .int .i64 2] := by unfold turnV; rw [if_neg h]
theorem turnV_ok (x q : Nat) (h : q ≤ 64) (h2 : x < pw q) : turnV x (q : Nat) = .tuple #[.int .u64 ((turnL (bitsB x q) : Nat) : Int), .int .i64 0] := by
  unfold turnV; rw [if_pos (by omega)]; exact if_pos h2
theorem turnV_no (x q : Nat) (h : q ≤ 64) (h2 : ¬ x < pw q) : turnV x (q : Nat) = .tuple #[.int .u64 0, .int .i64 111] := by
  unfold turnV; rw [if_pos (by omega)]; exact if_neg h2

theorem turn_ways (x : Nat) (z : Int) (hx : x < 18446744073709551616) : ∃ (A : Nat) (E : Int), A < 18446744073709551616 ∧ (0 ≤ E ∧ E ≤ 111) ∧ turnV x z = .tuple #[.int .u64 (A : Int), .int .i64 E] ∧
    (¬ (0 ≤ z ∧ z ≤ 64) → A = 0 ∧ E = 2) ∧ ∀ q : Nat, z = (q : Int) → q ≤ 64 → (E = 0 ∧ decide (x < pw q) = true ∧ turnL (bitsB x q) = A) ∨ (A = 0 ∧ E = 111 ∧ decide (x < pw q) = false) := by
  by_cases hz : 0 ≤ z ∧ z ≤ 64
  · obtain ⟨q, rfl⟩ : ∃ q : Nat, z = (q : Int) := ⟨z.toNat, by omega⟩
    have h64 : q ≤ 64 := by omega
    by_cases h : x < pw q
    · have hl := turnL_lt (bitsB x q)
      have h2 : (bitsB x q).length = q := by unfold bitsB; simp
      have h3 := Pl.pow_mono h64
      rw [h2] at hl
      exact ⟨turnL (bitsB x q), 0, by omega, by decide, turnV_ok x q h64 h, fun h => absurd hz h, fun p e _ => by
        obtain rfl : q = p := by omega
        exact .inl ⟨rfl, decide_eq_true h, rfl⟩⟩
    · exact ⟨0, 111, by decide, by decide, turnV_no x q h64 h, fun h => absurd hz h, fun p e _ => by
        obtain rfl : q = p := by omega
        exact .inr ⟨rfl, rfl, decide_eq_false h⟩⟩
  · exact ⟨0, 2, by decide, by decide, turnV_bad x z hz, fun _ => ⟨rfl, rfl⟩, fun q h h2 => absurd ⟨by omega, by omega⟩ hz⟩

set_option maxRecDepth 100000 in
set_option maxHeartbeats 2000000 in
theorem bitsMoves.walk (a0 : Option Addr) (cap0 : Nat) (xs : List Nat) (a1 : Option Addr) (cap1 : Nat) (ns : List Int) (w : World) (h0 : Leads w a0 xs.length cap0 (wcells xs)) (hx : wok xs) (h1 : Leads w a1 ns.length cap1 (icells ns)) (hn : iok ns) :
    Calls Try.prog 5 #[.slice a0 xs.length cap0, .slice a1 ns.length cap1] w (Ret (.bool true) w) := by
  obtain ⟨n, en⟩ : ∃ n, xs.length = n := ⟨_, rfl⟩
  obtain ⟨m, em⟩ : ∃ m, ns.length = m := ⟨_, rfl⟩
  rw [en] at h0 ⊢
  rw [em] at h1 ⊢
  have H0 := hid (fun k hk => Leads.word (k := k) h0 en hx hk)
  have H1 := hid (fun k hk => Leads.number (k := k) h1 em hn hk)
  have hn := h0.len.1
  have hm := h1.len.1
  clear en em h0 h1 hx
  go_enter Try.func5, Try.ntmps5
  go_wp2_with ((go_at_call 9; refine (wakes_any _).mono ?_; rintro e w1 ⟨rfl, hb1⟩))
  go_loopg [22] n (fun g i wr => ∃ k : Nat, g + k = n ∧ i = .int .i64 (k : Nat) ∧ Below w.heap.size w wr)
  case atStart => exact ⟨0, rfl, rfl, by assumption⟩
  case round =>
    obtain ⟨k, hk, rfl, hb⟩ := hrel
    obtain ⟨G, hG⟩ : ∃ G, G = gk - 1 := ⟨_, rfl⟩
    have HK := hid (And.intro hk hG)
    clear hk hG
    by_cases hlt : k < n
    · obtain ⟨b, off, x, rfl, hx, -, hc⟩ := H0.out k hlt
      have hc := hc _ hb
      cases h8 : ((k : Int) == 8) with
      | true =>
        go_wp2
        go_ret
        exact ⟨rfl, hb⟩
      | false =>
        go_wp2_with fail
        refine (Log_any x _ hx).mono ?_
        rintro e w2 ⟨rfl, hb2⟩
        go_wp2_with fail
        refine (rLog_any x _ hx).mono ?_
        rintro e w3 ⟨rfl, hb3⟩
        have hb4 := step (step hb hb2) hb3
        clear hb hb2 hb3 hc
        generalize logI x = lg
        go_wp2
        go_loopg [36] m (fun g i wr => ∃ k : Nat, g + k = m ∧ i = .int .i64 (k : Nat) ∧ Below w.heap.size w wr)
        case atStart => exact ⟨0, rfl, rfl, hb4⟩
        case round =>
          obtain ⟨j, hj, rfl, hb⟩ := hrel
          have HJ := hid hj
          clear hj
          by_cases hlj : j < m
          · obtain ⟨bw, offw, z, rfl, ⟨hz1, hz2⟩, -, hcw⟩ := H1.out j hlj
            have hcw := hcw _ hb
            cases h8j : ((j : Int) == 8) with
            | true =>
              go_wp2
              go_roundg G
              case measure => have := HK.out; omega
              case rel => exact ⟨k + 1, by have := HK.out; omega, by go_num, hb⟩
            | false =>
              obtain ⟨A, E, hA, hE, eL, hL⟩ := left_ways x z hx
              obtain ⟨T, E2, hT, hE2, eT, hT2⟩ := turn_ways x z hx
              have HEL := hid eL
              have HET := hid eT
              have HL := hid hL
              have HT := hid hT2
              clear eL eT hL hT2
              go_upto_if 50 with ((go_at_call 21; refine (Left_any x z _ hx).mono ?_; rw [HEL.out]; rintro e w2 ⟨rfl, hc0⟩))
              have hb1 := step hb hc0
              go_cut [11, 12] (fun a b wr => a = .int .u64 (A : Int) ∧ b = .int .i64 E ∧ Below w.heap.size w wr)
              case first =>
                by_cases hneg : z < 0
                · obtain ⟨rfl, rfl⟩ := HL.out.1 hneg
                  go_wp2
                  go_meet
                  exact ⟨rfl, rfl, hb1⟩
                · obtain ⟨q, rfl⟩ : ∃ q : Nat, z = (q : Int) := ⟨z.toNat, by omega⟩
                  have H2 := HL.out.2 q rfl
                  have HH := hid H2
                  clear H2
                  rcases HH.out with ⟨rfl, h⟩ | ⟨rfl, rfl, h⟩
                  · have HV := hid (h _ rfl)
                    clear h
                    go_wp2_with fail
                    rw [show min (q : Int) 70 = ((min q 70 : Nat) : Int) by omega]
                    refine (rLeft_any x (min q 70) _ hx (by omega)).mono ?_
                    rw [HV.out]
                    rintro e w3 ⟨rfl, hc1⟩
                    go_wp2
                    go_meet
                    exact ⟨rfl, rfl, step hb1 hc1⟩
                  · have HV := hid (h _ rfl)
                    clear h
                    go_wp2_with fail
                    rw [show min (q : Int) 70 = ((min q 70 : Nat) : Int) by omega]
                    refine (rLeft_any x (min q 70) _ hx (by omega)).mono ?_
                    rw [HV.out]
                    rintro e w3 ⟨rfl, hc1⟩
                    go_wp2
                    go_meet
                    exact ⟨rfl, rfl, step hb1 hc1⟩
              case rest =>
                obtain ⟨rfl, rfl, hb2⟩ := hcut
                obtain ⟨B, hB⟩ : ∃ B, decide (0 ≤ z ∧ z ≤ 64) = B := ⟨_, rfl⟩
                have HB := hid hB
                clear hB
                go_upto_region 23 with ((go_at_call 23; refine (Turn_any x z _ hx).mono ?_; rw [HET.out]; rintro e w2 ⟨rfl, hc2⟩))
                have hb3 := step hb2 hc2
                go_cut [70] (fun b wr => b = .bool B ∧ Below w.heap.size w wr)
                case first =>
                  by_cases h0 : 0 ≤ z
                  · by_cases h64 : z ≤ 64
                    · go_wp2
                      go_meet
                      exact ⟨by rw [← HB.out, decide_eq_true (show 0 ≤ z ∧ z ≤ 64 from ⟨h0, h64⟩)], hb3⟩
                    · have hd2 : (decide (z ≤ 64)) = false := decide_eq_false h64
                      go_wp2
                      go_meet
                      exact ⟨by rw [← HB.out, decide_eq_false (show ¬ (0 ≤ z ∧ z ≤ 64) by omega)], hb3⟩
                  · go_wp2
                    go_meet
                    exact ⟨by rw [← HB.out, decide_eq_false (show ¬ (0 ≤ z ∧ z ≤ 64) by omega)], hb3⟩
                case rest =>
                  obtain ⟨rfl, hb4⟩ := hcut
                  go_upto_if 70 with (fail)
                  go_cut [16, 17] (fun a b wr => a = .int .u64 (T : Int) ∧ b = .int .i64 E2 ∧ Below w.heap.size w wr)
                  case first =>
                    cases B with
                    | false =>
                      obtain ⟨rfl, rfl⟩ := HT.out.1 (of_decide_eq_false HB.out)
                      go_wp2
                      go_meet
                      exact ⟨rfl, rfl, hb4⟩
                    | true =>
                      obtain ⟨hz3, hz4⟩ := of_decide_eq_true HB.out
                      obtain ⟨q, rfl⟩ : ∃ q : Nat, z = (q : Int) := ⟨z.toNat, by omega⟩
                      have h64 : q ≤ 64 := by omega
                      have H2 := HT.out.2 q rfl h64
                      have HH := hid H2
                      clear H2
                      rcases HH.out with ⟨rfl, h, h2⟩ | ⟨rfl, rfl, h⟩
                      · have HV := hid h
                        have HV2 := hid h2
                        clear h h2
                        go_wp2_with fail
                        refine (Fits_any x q _ hx h64).mono ?_
                        rw [HV.out]
                        rintro e w3 ⟨rfl, hc3⟩
                        go_wp2_with fail
                        refine (rTurn_any x q _ hx h64).mono ?_
                        rw [HV2.out]
                        rintro e w4 ⟨rfl, hc4⟩
                        go_wp2
                        go_meet
                        exact ⟨rfl, rfl, step (step hb4 hc3) hc4⟩
                      · have HV := hid h
                        clear h
                        go_wp2_with fail
                        refine (Fits_any x q _ hx h64).mono ?_
                        rw [HV.out]
                        rintro e w3 ⟨rfl, hc3⟩
                        go_wp2
                        go_meet
                        exact ⟨rfl, rfl, step hb4 hc3⟩
                  case rest =>
                    obtain ⟨rfl, rfl, hb5⟩ := hcut
                    go_wp2_with fail
                    refine (Right_any x z _ hx).mono ?_
                    rintro e w3 ⟨rfl, hc3⟩
                    go_wp2_with fail
                    rw [show max z 0 = ((z.toNat : Nat) : Int) by omega]
                    refine (rRight_any x z.toNat _ hx (by omega)).mono ?_
                    rintro e w4 ⟨rfl, hc4⟩
                    generalize Pl.shr x z.toNat = sh
                    go_wp2
                    go_roundg (gk - 1)
                    case measure => have := HJ.out; omega
                    case rel => exact ⟨j + 1, by have := HJ.out; omega, by go_num, step (step hb5 hc3) hc4⟩
          · go_wp2
            go_roundg G
            case measure => have := HK.out; omega
            case rel => exact ⟨k + 1, by have := HK.out; omega, by go_num, hb⟩
    · go_wp2
      go_ret
      exact ⟨rfl, hb⟩
end Go.Proofs.Ytgigjfdgejajbaa
