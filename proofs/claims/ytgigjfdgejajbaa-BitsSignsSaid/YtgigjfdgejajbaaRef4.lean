/- The walks of the document's answer for layer 1: the words of numbers with a sign. -/
import Derived.Test.YtgigjfdgejajbaaRef3
import Derived.Deep.DeepCutAuto
import Derived.Deep.CutBlock
namespace Go.Proofs.Ytgigjfdgejajbaa
open Go.RowKit
open Go.Proofs
set_option linter.unusedVariables false

def rUnsV (y : Int) (n : Nat) : Value := if fitsB y n then .tuple #[.int .u64 ((lowN y n : Nat) : Int), .bool true] else .tuple #[.int .u64 0, .bool false]
theorem compl_bit (z i : Nat) (h : z < 18446744073709551616) (hi : i < 64) : Pl.bit (18446744073709551615 - z) i = 1 - Pl.bit z i := by
  rw [Pl.bit_eq, Pl.bit_eq, Pl.not_bit z i h]
  cases z.testBit i <;> simp [hi]
/-- What lies behind the tests of 'Unsigned': the sum of the bits. -/
theorem low_of (y : Int) (n z : Nat) (hz : (z : Int) = y % 18446744073709551616) (hn : n ≤ 64) : z % pw n = lowN y n := by
  unfold lowN pw
  have h1 : 2 ^ n * 2 ^ (64 - n) = 18446744073709551616 := by rw [← Nat.pow_add, Nat.add_sub_cancel' hn]
  have e : y % ((2 ^ n : Nat) : Int) = ((z % 2 ^ n : Nat) : Int) := by
    rw [Int.natCast_emod, hz]
    exact (Int.emod_emod_of_dvd y ⟨((2 ^ (64 - n) : Nat) : Int), by rw [← Int.natCast_mul, h1]; rfl⟩).symm
  rw [e]; rfl

theorem rUnsigned_any (y : Int) (n : Nat) (w : World) (hy1 : -9223372036854775808 ≤ y) (hy2 : y ≤ 9223372036854775807) (h1 : 1 ≤ n) (h2 : n ≤ 64) :
    Calls Try.prog 18 #[.int .i64 y, .int .i64 (n : Nat)] w (Ret (rUnsV y n) w) := by
  obtain ⟨p, hp⟩ : ∃ p, n = p + 1 := ⟨n - 1, by omega⟩
  have hp63 : p ≤ 63 := by omega
  have hpn : (n : Int) - 1 = (p : Int) := by omega
  have hfit : fitsB y n = decide (-((pw p : Nat) : Int) ≤ y ∧ y < ((pw p : Nat) : Int)) := by rw [hp]; rfl
  by_cases hout : (n : Int) < 64 ∧ ¬ (-((pw p : Nat) : Int) ≤ y ∧ y < ((pw p : Nat) : Int))
  · obtain ⟨h64, hno⟩ := hout
    have e : rUnsV y n = .tuple #[.int .u64 0, .bool false] := by
      unfold rUnsV
      rw [hfit, decide_eq_false hno]; rfl
    rw [e]
    have hpw := pw_62 (n := p) (by omega)
    have hpp := pw_pos p
    clear e hfit hp
    by_cases hge : ((pw p : Nat) : Int) ≤ y
    · clear hno
      go_enter Try.func18, Try.ntmps18
      go_wp2_with fail
      refine (Power_any p _ hp63).mono ?_
      rintro e w1 ⟨rfl, hb1⟩
      go_wp2
      go_ret2
      exact ⟨rfl, hb1⟩
    · have hlt : y < -((pw p : Nat) : Int) := by omega
      have hgt : y < ((pw p : Nat) : Int) := by omega
      clear hno hge
      go_enter Try.func18, Try.ntmps18
      go_wp2_with fail
      refine (Power_any p _ hp63).mono ?_
      rintro e w1 ⟨rfl, hb1⟩
      go_wp2_with fail
      refine (Power_any p _ hp63).mono ?_
      rintro e w2 ⟨rfl, hb2⟩
      go_wp2
      go_ret2
      exact ⟨rfl, step hb1 hb2⟩
  · have hf : fitsB y n = true := by
      rw [hfit]
      by_cases h64 : (n : Int) < 64
      · have : -((pw p : Nat) : Int) ≤ y ∧ y < ((pw p : Nat) : Int) := Classical.not_not.1 fun h => hout ⟨h64, h⟩
        exact decide_eq_true this
      · have : p = 63 := by omega
        subst this
        have : ((pw 63 : Nat) : Int) = 9223372036854775808 := by decide
        rw [this]
        exact decide_eq_true ⟨hy1, by omega⟩
    have e : rUnsV y n = .tuple #[.int .u64 ((lowN y n : Nat) : Int), .bool true] := by unfold rUnsV; rw [hf]; rfl
    rw [e]
    have hin : (n : Int) < 64 → (-((pw p : Nat) : Int) ≤ y ∧ y < ((pw p : Nat) : Int)) := fun h64 => Classical.not_not.1 fun h => hout ⟨h64, h⟩
    obtain ⟨z, hz⟩ : ∃ z : Nat, (z : Int) = y % 18446744073709551616 := ⟨(y % 18446744073709551616).toNat, by omega⟩
    have hz2 : z < 18446744073709551616 := by omega
    have hlow := low_of y n z hz h2
    have HLOW := hid hlow
    have HZ := hid hz
    have hpw : n < 64 → pw p ≤ 4611686018427387904 := fun h => pw_62 (by omega)
    have hpp := pw_pos p
    have HPW := hid hpw
    have HIN := hid hin
    have HP := hid hp
    clear e hfit hf hout hlow hz hin hpw hp
    by_cases h64 : (n : Int) < 64
    · have hi := HIN.out h64
      obtain ⟨hi1, hi2⟩ := hi
      have hpw := HPW.out (by omega)
      go_enter Try.func18, Try.ntmps18
      go_wp2_with fail
      refine (Power_any p _ hp63).mono ?_
      rintro e w1 ⟨rfl, hb1⟩
      go_wp2_with fail
      refine (Power_any p _ hp63).mono ?_
      rintro e w2 ⟨rfl, hb2⟩
      have hb := step hb1 hb2
      clear hb1 hb2
      go_wp2
      go_loopg [6, 29] n (fun g s i wr => ∃ k m : Nat, g + k = n ∧ i = .int .i64 (k : Nat) ∧ s = .int .u64 (m : Nat) ∧ Hid (m = z % pw k) ∧ Below w.heap.size w wr)
      case atStart => exact ⟨0, 0, rfl, rfl, rfl, hid (by simp [pw]; omega), hb⟩
      case round =>
        obtain ⟨k, m, hk, rfl, rfl, hm, hb3⟩ := hrel
        have HK := hid hk
        clear hk
        by_cases hlt : k < n
        · have hk63 : k ≤ 63 := by omega
          have hkp := pw_pos k
          have hk63' := pw_63 hk63
          obtain ⟨b, hbit⟩ : ∃ b, Pl.bit z k = b := ⟨_, rfl⟩
          have hb01 := bit_le z k
          rw [hbit] at hb01
          have hs := mod_step z k
          have hlt2 := Nat.lt_of_le_of_lt (Nat.mod_le z (pw (k + 1))) hz2
          rw [hbit, ← hm.out] at hs
          rw [hs] at hlt2
          have HS := hid hs
          clear hs hm
          by_cases hneg : y < 0
          · obtain ⟨c, hc⟩ : ∃ c : Nat, -(y + 1) = (c : Int) := ⟨(-(y + 1)).toNat, by omega⟩
            have hzc : c = 18446744073709551615 - z := by have := HZ.out; omega
            have hcl : c < 18446744073709551616 := by omega
            have hcb : Pl.bit c k = 1 - b := by rw [hzc, compl_bit z k hz2 (by omega), hbit]
            have HCB := hid hcb
            clear hzc hcb hbit
            have hc2 : c < 9223372036854775808 := by omega
            rcases hb01 with rfl | rfl
            · go_wp2_with fail
              refine (Bit_any c k _ hcl hk63).mono ?_
              rintro e w4 ⟨rfl, hb4⟩
              rw [HCB.out]
              go_wp2_with fail
              refine (Power_any k _ hk63).mono ?_
              rintro e w5 ⟨rfl, hb5⟩
              go_wp2
              go_roundg (gk - 1)
              case measure => have := HK.out; omega
              case rel => exact ⟨k + 1, m, by have := HK.out; omega, by go_num, by go_num, hid (by have := HS.out; omega), step (step hb3 hb4) hb5⟩
            · go_wp2_with fail
              refine (Bit_any c k _ hcl hk63).mono ?_
              rintro e w4 ⟨rfl, hb4⟩
              rw [HCB.out]
              go_wp2_with fail
              refine (Power_any k _ hk63).mono ?_
              rintro e w5 ⟨rfl, hb5⟩
              go_wp2
              go_roundg (gk - 1)
              case measure => have := HK.out; omega
              case rel => exact ⟨k + 1, m + pw k, by have := HK.out; omega, by go_num, by go_num, hid (by have := HS.out; omega), step (step hb3 hb4) hb5⟩
          · have hzy : y = (z : Int) := by have := HZ.out; omega
            have hyb : 0 ≤ y := by omega
            have hBit : ∀ w, Calls Try.prog 41 #[.int .u64 y, .int .i64 (k : Nat)] w (Ret (.int .u64 ((Pl.bit z k : Nat) : Int)) w) := fun w => by rw [hzy]; exact Bit_any z k w hz2 hk63
            have HBIT := hid hBit
            have HCB := hid hbit
            clear hbit hzy hBit
            rcases hb01 with rfl | rfl
            · go_wp2_with fail
              refine (HBIT.out _).mono ?_
              rintro e w4 ⟨rfl, hb4⟩
              rw [HCB.out]
              go_wp2_with fail
              refine (Power_any k _ hk63).mono ?_
              rintro e w5 ⟨rfl, hb5⟩
              go_wp2
              go_roundg (gk - 1)
              case measure => have := HK.out; omega
              case rel => exact ⟨k + 1, m, by have := HK.out; omega, by go_num, by go_num, hid (by have := HS.out; omega), step (step hb3 hb4) hb5⟩
            · go_wp2_with fail
              refine (HBIT.out _).mono ?_
              rintro e w4 ⟨rfl, hb4⟩
              rw [HCB.out]
              go_wp2_with fail
              refine (Power_any k _ hk63).mono ?_
              rintro e w5 ⟨rfl, hb5⟩
              go_wp2
              go_roundg (gk - 1)
              case measure => have := HK.out; omega
              case rel => exact ⟨k + 1, m + pw k, by have := HK.out; omega, by go_num, by go_num, hid (by have := HS.out; omega), step (step hb3 hb4) hb5⟩
        · have e : k = n := by have := HK.out; omega
          have e2 : m = lowN y n := by rw [hm.out, e]; exact HLOW.out
          have E := hid e2
          clear e2 hm
          go_wp2
          go_ret2
          exact ⟨by rw [E.out]; rfl, hb3⟩
    · have hb : Below w.heap.size w w := Below.refl _ _
      go_enter Try.func18, Try.ntmps18
      go_wp2
      go_loopg [6, 29] n (fun g s i wr => ∃ k m : Nat, g + k = n ∧ i = .int .i64 (k : Nat) ∧ s = .int .u64 (m : Nat) ∧ Hid (m = z % pw k) ∧ Below w.heap.size w wr)
      case atStart => exact ⟨0, 0, rfl, rfl, rfl, hid (by simp [pw]; omega), hb⟩
      case round =>
        obtain ⟨k, m, hk, rfl, rfl, hm, hb3⟩ := hrel
        have HK := hid hk
        clear hk
        by_cases hlt : k < n
        · have hk63 : k ≤ 63 := by omega
          have hkp := pw_pos k
          have hk63' := pw_63 hk63
          obtain ⟨b, hbit⟩ : ∃ b, Pl.bit z k = b := ⟨_, rfl⟩
          have hb01 := bit_le z k
          rw [hbit] at hb01
          have hs := mod_step z k
          have hlt2 := Nat.lt_of_le_of_lt (Nat.mod_le z (pw (k + 1))) hz2
          rw [hbit, ← hm.out] at hs
          rw [hs] at hlt2
          have HS := hid hs
          clear hs hm
          by_cases hneg : y < 0
          · obtain ⟨c, hc⟩ : ∃ c : Nat, -(y + 1) = (c : Int) := ⟨(-(y + 1)).toNat, by omega⟩
            have hzc : c = 18446744073709551615 - z := by have := HZ.out; omega
            have hcl : c < 18446744073709551616 := by omega
            have hcb : Pl.bit c k = 1 - b := by rw [hzc, compl_bit z k hz2 (by omega), hbit]
            have HCB := hid hcb
            clear hzc hcb hbit
            have hc2 : c < 9223372036854775808 := by omega
            rcases hb01 with rfl | rfl
            · go_wp2_with fail
              refine (Bit_any c k _ hcl hk63).mono ?_
              rintro e w4 ⟨rfl, hb4⟩
              rw [HCB.out]
              go_wp2_with fail
              refine (Power_any k _ hk63).mono ?_
              rintro e w5 ⟨rfl, hb5⟩
              go_wp2
              go_roundg (gk - 1)
              case measure => have := HK.out; omega
              case rel => exact ⟨k + 1, m, by have := HK.out; omega, by go_num, by go_num, hid (by have := HS.out; omega), step (step hb3 hb4) hb5⟩
            · go_wp2_with fail
              refine (Bit_any c k _ hcl hk63).mono ?_
              rintro e w4 ⟨rfl, hb4⟩
              rw [HCB.out]
              go_wp2_with fail
              refine (Power_any k _ hk63).mono ?_
              rintro e w5 ⟨rfl, hb5⟩
              go_wp2
              go_roundg (gk - 1)
              case measure => have := HK.out; omega
              case rel => exact ⟨k + 1, m + pw k, by have := HK.out; omega, by go_num, by go_num, hid (by have := HS.out; omega), step (step hb3 hb4) hb5⟩
          · have hzy : y = (z : Int) := by have := HZ.out; omega
            have hyb : 0 ≤ y := by omega
            have hBit : ∀ w, Calls Try.prog 41 #[.int .u64 y, .int .i64 (k : Nat)] w (Ret (.int .u64 ((Pl.bit z k : Nat) : Int)) w) := fun w => by rw [hzy]; exact Bit_any z k w hz2 hk63
            have HBIT := hid hBit
            have HCB := hid hbit
            clear hbit hzy hBit
            rcases hb01 with rfl | rfl
            · go_wp2_with fail
              refine (HBIT.out _).mono ?_
              rintro e w4 ⟨rfl, hb4⟩
              rw [HCB.out]
              go_wp2_with fail
              refine (Power_any k _ hk63).mono ?_
              rintro e w5 ⟨rfl, hb5⟩
              go_wp2
              go_roundg (gk - 1)
              case measure => have := HK.out; omega
              case rel => exact ⟨k + 1, m, by have := HK.out; omega, by go_num, by go_num, hid (by have := HS.out; omega), step (step hb3 hb4) hb5⟩
            · go_wp2_with fail
              refine (HBIT.out _).mono ?_
              rintro e w4 ⟨rfl, hb4⟩
              rw [HCB.out]
              go_wp2_with fail
              refine (Power_any k _ hk63).mono ?_
              rintro e w5 ⟨rfl, hb5⟩
              go_wp2
              go_roundg (gk - 1)
              case measure => have := HK.out; omega
              case rel => exact ⟨k + 1, m + pw k, by have := HK.out; omega, by go_num, by go_num, hid (by have := HS.out; omega), step (step hb3 hb4) hb5⟩
        · have e : k = n := by have := HK.out; omega
          have e2 : m = lowN y n := by rw [hm.out, e]; exact HLOW.out
          have E := hid e2
          clear e2 hm
          go_wp2
          go_ret2
          exact ⟨by rw [E.out]; rfl, hb3⟩
end Go.Proofs.Ytgigjfdgejajbaa
