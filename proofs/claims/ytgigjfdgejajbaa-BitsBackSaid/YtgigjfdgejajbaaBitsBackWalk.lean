/- BitsBack: the walk of the law. -/
import Derived.Test.YtgigjfdgejajbaaLawA
import Derived.Test.YtgigjfdgejajbaaLawDefs
import Derived.Test.YtgigjfdgejajbaaPlain3
import Derived.Deep.DeepCutAuto
import Derived.Deep.CutBlock
namespace Go.Proofs.Ytgigjfdgejajbaa
open Go.RowKit
open Go.Proofs
set_option linter.unusedVariables false

theorem turn_back' (x : Nat) (z : Int) (hx : x < 18446744073709551616) : ∃ (T : Nat) (E : Int), (0 ≤ E ∧ E ≤ 111) ∧ turnV x z = .tuple #[.int .u64 (T : Int), .int .i64 E] ∧ (E = 0 → T < 18446744073709551616 ∧ turnV T z = .tuple #[.int .u64 (x : Int), .int .i64 0]) := by
  rcases turn_back x z hx with ⟨T, hT, e1, e2⟩ | e1 | e1
  · exact ⟨T, 0, by decide, e1, fun _ => ⟨hT, e2⟩⟩
  · exact ⟨0, 2, by decide, e1, fun h => by omega⟩
  · exact ⟨0, 111, by decide, e1, fun h => by omega⟩
theorem left_back' (x : Nat) (z : Int) : ∃ (T : Nat) (E : Int), (0 ≤ E ∧ E ≤ 111) ∧ leftV x z = .tuple #[.int .u64 (T : Int), .int .i64 E] ∧ (E = 0 → T < 18446744073709551616 ∧ Pl.shr T z.toNat = x) := by
  rcases left_back x z with ⟨T, hT, e1, e2⟩ | e1 | e1
  · exact ⟨T, 0, by decide, e1, fun _ => ⟨hT, e2⟩⟩
  · exact ⟨0, 2, by decide, e1, fun h => by omega⟩
  · exact ⟨0, 111, by decide, e1, fun h => by omega⟩
theorem text_back' (s : ByteArray) : ∃ (T : Nat) (E : Int), (0 ≤ E ∧ E ≤ 111) ∧ textV s.data.toList = .tuple #[.int .u64 (T : Int), .int .i64 E] ∧ (E = 0 → T < 18446744073709551616 ∧ backV T = .tuple #[.string s, .int .i64 0]) := by
  rcases text_back s with ⟨T, hT, e1, e2⟩ | e1 | e1
  · exact ⟨T, 0, by decide, e1, fun _ => ⟨hT, e2⟩⟩
  · exact ⟨0, 2, by decide, e1, fun h => by omega⟩
  · exact ⟨0, 111, by decide, e1, fun h => by omega⟩

theorem unsigned_back' (x : Nat) (z : Int) (hz2 : z ≤ 9223372036854775807) : ∃ (y E : Int), (0 ≤ E ∧ E ≤ 111) ∧ signedV x z = .tuple #[.int .i64 y, .int .i64 E] ∧ (E = 0 → ∃ L : Nat, unsignedV y z = .tuple #[.int .u64 (L : Int), .int .i64 0] ∧ getV x 0 z = .tuple #[.int .u64 (L : Int), .int .i64 0]) := by
  rcases unsigned_back x z hz2 with ⟨y, L, e1, e2, e3⟩ | e1
  · exact ⟨y, 0, by decide, e1, fun _ => ⟨L, e2, e3⟩⟩
  · exact ⟨0, 2, by decide, e1, fun h => by omega⟩
theorem back_text' (x : Nat) : ∃ (s : ByteArray) (E : Int), s.size ≤ 8 ∧ (0 ≤ E ∧ E ≤ 111) ∧ backV x = .tuple #[.string s, .int .i64 E] ∧ (E = 0 → textV s.data.toList = .tuple #[.int .u64 (x : Int), .int .i64 0]) ∧ (E ≠ 0 → s = ⟨#[]⟩) := by
  rcases back_text x with ⟨s, hs, e1, e2⟩ | e1
  · exact ⟨s, 0, hs, by decide, e1, fun _ => e2, fun h => absurd rfl h⟩
  · exact ⟨⟨#[]⟩, 2, by decide, by decide, e1, fun h => by omega, fun _ => rfl⟩

set_option maxRecDepth 100000 in
set_option maxHeartbeats 1000000 in
theorem bitsBack.walk (x : Nat) (z : Int) (s : ByteArray) (w : World) (hx : x < 18446744073709551616) (hz : -9223372036854775808 ≤ z ∧ z ≤ 9223372036854775807) (hs : s.size ≤ maxLen) :
    Calls Try.prog 6 #[.int .u64 (x : Nat), .int .i64 z, .string s] w (Ret (.bool true) w) := by
  obtain ⟨hz1, hz2⟩ := hz
  unfold maxLen at hs
  obtain ⟨T, E, ⟨hE1, hE2⟩, eT, hTT⟩ := turn_back' x z hx
  obtain ⟨U, E2, ⟨hE3, hE4⟩, eL, hLL⟩ := left_back' x z
  have HT := hid eT
  have HTT := hid hTT
  have HL := hid eL
  have HLL := hid hLL
  obtain ⟨y, E3, ⟨hE5, hE6⟩, eS, hSS⟩ := unsigned_back' x z hz2
  obtain ⟨t, E4, ht, ⟨hE7, hE8⟩, eB, hBB, hBN⟩ := back_text' x
  have HS := hid eS
  have HSS := hid hSS
  have HB := hid eB
  have HBB := hid hBB
  have HBN := hid hBN
  have hf : fok [(0, z)] := by
    intro f hf
    simp at hf
    subst hf
    exact ⟨show (-9223372036854775808 : Int) ≤ 0 by decide, show (0 : Int) ≤ 9223372036854775807 by decide, hz1, hz2⟩
  have HF := hid hf
  clear eT hTT eL hLL eS hSS eB hBB hBN hf
  go_enter Try.func6, Try.ntmps6
  go_upto_if 35 with (first | (go_at_call 9; refine (wakes_any _).mono ?_; rintro e w1 ⟨rfl, hb1⟩) | (go_at_call 23; refine (Turn_any x z _ hx).mono ?_; rw [HT.out]; rintro e w2 ⟨rfl, hb2⟩))
  have hb := step hb1 hb2
  go_cut [] (fun wr => Below w.heap.size w wr)
  case first =>
    cases h0 : (E == 0) with
    | false =>
      go_wp2
      go_meet
      exact hb
    | true =>
      obtain rfl : E = 0 := by simpa using h0
      obtain ⟨hT, e2⟩ := HTT.out rfl
      have HE2 := hid e2
      clear e2 h0
      go_wp2_with fail
      refine (Turn_any T z _ hT).mono ?_
      rw [HE2.out]
      rintro e w3 ⟨rfl, hb3⟩
      go_wp2
      go_meet
      exact step hb hb3
  case rest =>
    clear hb1 hb2 hb
    go_upto_if 56 with (go_at_call 15; refine (Signed_any x z _).mono ?_; rw [HS.out]; rintro e w3 ⟨rfl, hb3⟩)
    have hb := step hcut hb3
    clear hcut hb3
    go_cut [] (fun wr => Below w.heap.size w wr)
    case first =>
      cases h0 : (E3 == 0) with
      | false =>
        go_wp2
        go_meet
        exact hb
      | true =>
        obtain rfl : E3 = 0 := by simpa using h0
        obtain ⟨L, e2, e3⟩ := HSS.out rfl
        have HE2 := hid e2
        have HE3 := hid e3
        clear e2 e3 h0
        go_wp2_with fail
        refine (Unsigned_any y z _).mono ?_
        rw [HE2.out]
        rintro e w3 ⟨rfl, hb3⟩
        go_wp2_with fail
        refine (Get_any x 0 z _ hx HF.out).mono ?_
        rw [HE3.out]
        rintro e w4 ⟨rfl, hb4⟩
        go_wp2
        go_meet
        exact step (step hb hb3) hb4
    case rest =>
      clear hb
      go_upto_region 15 with (go_at_call 21; refine (Left_any x z _ hx).mono ?_; rw [HL.out]; rintro e w3 ⟨rfl, hb3⟩)
      have hb := step hcut hb3
      clear hcut hb3
      go_cut [95] (fun b wr => b = .bool false ∧ Below w.heap.size w wr)
      case first =>
        cases h0 : (E2 == 0) with
        | false =>
          go_wp2
          go_meet
          exact ⟨rfl, hb⟩
        | true =>
          obtain rfl : E2 = 0 := by simpa using h0
          obtain ⟨hU, e2⟩ := HLL.out rfl
          have HE2 := hid e2
          clear e2 h0
          go_wp2_with fail
          refine (Right_any U z _ hU).mono ?_
          rw [HE2.out]
          rintro e w3 ⟨rfl, hb3⟩
          go_wp2
          go_meet
          exact ⟨rfl, step hb hb3⟩
      case rest =>
        obtain ⟨rfl, hb2⟩ := hcut
        clear hb
        go_upto_region 18 with (fail)
        have hts : (s.extract 0 (min (s.size : Int) 12).toNat).size ≤ 12 := by rw [ByteArray.size_extract]; omega
        generalize s.extract 0 (min (s.size : Int) 12).toNat = r at hts ⊢
        obtain ⟨T5, E5, ⟨hE9, hE10⟩, eT, hTT5⟩ := text_back' r
        have HT5 := hid eT
        have HTT5 := hid hTT5
        clear eT hTT5
        go_upto_if 107 with (go_at_call 10; refine (Text_any r _ (by omega)).mono ?_; rw [HT5.out]; rintro e w3 ⟨rfl, hb3⟩)
        have hb := step hb2 hb3
        clear hb2 hb3
        go_cut [] (fun wr => Below w.heap.size w wr)
        case first =>
          cases h0 : (E5 == 0) with
          | false =>
            go_wp2
            go_meet
            exact hb
          | true =>
            obtain rfl : E5 = 0 := by simpa using h0
            obtain ⟨hT5, e2⟩ := HTT5.out rfl
            have HE2 := hid e2
            clear e2 h0
            go_wp2_with fail
            refine (Back_any T5 _ hT5).mono ?_
            rw [HE2.out]
            rintro e w3 ⟨rfl, hb3⟩
            go_wp2
            go_meet
            exact step hb hb3
        case rest =>
          clear hb
          cases h0 : (E4 == 0) with
          | false =>
            have h1 : (E4 != 0) = true := by simpa using h0
            have h2 : E4 ≠ 0 := by simpa using h0
            obtain rfl := HBN.out h2
            clear h2
            go_wp2_with fail
            refine (Back_any x _ hx).mono ?_
            rw [HB.out]
            rintro e w3 ⟨rfl, hb3⟩
            go_wp2
            go_ret
            exact ⟨rfl, step hcut hb3⟩
          | true =>
            obtain rfl : E4 = 0 := by simpa using h0
            have e2 := HBB.out rfl
            have HE2 := hid e2
            clear e2 h0
            go_wp2_with fail
            refine (Back_any x _ hx).mono ?_
            rw [HB.out]
            rintro e w3 ⟨rfl, hb3⟩
            go_wp2_with fail
            refine (Text_any t _ (by omega)).mono ?_
            rw [HE2.out]
            rintro e w4 ⟨rfl, hb4⟩
            go_wp2
            go_ret
            exact ⟨rfl, step (step hcut hb3) hb4⟩
end Go.Proofs.Ytgigjfdgejajbaa
