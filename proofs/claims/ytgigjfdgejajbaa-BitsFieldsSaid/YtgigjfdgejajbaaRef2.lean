/- The walks of the document's answer for layer 1: powers, bits, moves, signs. -/
import Derived.Test.YtgigjfdgejajbaaRef1
namespace Go.Proofs.Ytgigjfdgejajbaa
open Go.RowKit
open Go.Proofs
set_option linter.unusedVariables false

def pw (n : Nat) : Nat := 2 ^ n
theorem pw_pos (n : Nat) : 1 ≤ pw n := Pl.pow_pos n
theorem pw_le {a b : Nat} (h : a ≤ b) : pw a ≤ pw b := Pl.pow_mono h
theorem pw_63 {n : Nat} (h : n ≤ 63) : pw n ≤ 9223372036854775808 := pw_le (b := 63) h
theorem pw_62 {n : Nat} (h : n ≤ 62) : pw n ≤ 4611686018427387904 := pw_le (b := 62) h
theorem pw_succ (n : Nat) : pw (n + 1) = 2 * pw n := by unfold pw; rw [Nat.pow_succ, Nat.mul_comm]

theorem Power_any (n : Nat) (w : World) (hn : n ≤ 63) : Calls Try.prog 42 #[.int .i64 (n : Nat)] w (Ret (.int .u64 ((pw n : Nat) : Int)) w) := by
  go_enter Try.func42, Try.ntmps42
  go_wp2
  go_loopg [3, 5] n (fun g x i wr => ∃ k : Nat, g + k = n ∧ i = .int .i64 (k : Nat) ∧ x = .int .u64 ((pw k : Nat) : Int) ∧ w = wr)
  case atStart => exact ⟨0, rfl, rfl, rfl, rfl⟩
  case round =>
    obtain ⟨k, hk, rfl, rfl, rfl⟩ := hrel
    have HK := hid hk
    clear hk
    by_cases hlt : k < n
    · have h1 := pw_62 (n := k) (by omega)
      have E := hid (pw_succ k)
      go_wp2
      go_roundg (gk - 1)
      case measure => have := HK.out; omega
      case rel => exact ⟨k + 1, by have := HK.out; omega, by go_num, by rw [E.out]; go_num, rfl⟩
    · have e : k = n := by have := HK.out; omega
      subst e
      go_wp2
      go_ret
      exact ⟨rfl, Below.refl _ _⟩

theorem Bit_any (x i : Nat) (w : World) (hx : x < 18446744073709551616) (hi : i ≤ 63) : Calls Try.prog 41 #[.int .u64 (x : Nat), .int .i64 (i : Nat)] w (Ret (.int .u64 ((Pl.bit x i : Nat) : Int)) w) := by
  have h1 := pw_pos i
  obtain ⟨q, hq, hq2⟩ : ∃ q : Nat, ((x : Nat) : Int) / ((pw i : Nat) : Int) = (q : Int) ∧ q = x / pw i := ⟨x / pw i, rfl, rfl⟩
  have hq3 : q < 18446744073709551616 := by rw [hq2]; exact Nat.lt_of_le_of_lt (Nat.div_le_self _ _) hx
  have E : Hid ((q : Int) % 2 = ((Pl.bit x i : Nat) : Int)) := hid (by rw [hq2]; rfl)
  clear hq2
  go_enter Try.func41, Try.ntmps41
  go_wp2_with fail
  refine (Power_any i _ hi).mono ?_
  rintro e w1 ⟨rfl, hb⟩
  go_wp2
  go_ret
  exact ⟨congrArg (fun q => Ending.returned (.int .u64 q)) E.out, hb⟩

theorem Fits_any (x n : Nat) (w : World) (hx : x < 18446744073709551616) (hn : n ≤ 64) : Calls Try.prog 24 #[.int .u64 (x : Nat), .int .i64 (n : Nat)] w (Ret (.bool (decide (x < pw n))) w) := by
  by_cases h : n = 64
  · subst h
    have e : decide (x < pw 64) = true := by unfold pw; simp; omega
    rw [e]
    go_enter Try.func24, Try.ntmps24
    go_wp2
    go_ret
    exact ⟨rfl, Below.refl _ _⟩
  · have h64 : n < 64 := by omega
    clear h
    cases hd : decide (x < pw n) with
    | true =>
      have h1 : (x : Int) < (pw n : Int) := by have := of_decide_eq_true hd; omega
      clear hd
      go_enter Try.func24, Try.ntmps24
      go_wp2_with fail
      refine (Power_any n _ (by omega)).mono ?_
      rintro e w1 ⟨rfl, hb⟩
      go_wp2
      go_ret
      exact ⟨rfl, hb⟩
    | false =>
      have h1 : (pw n : Int) ≤ (x : Int) := by have := of_decide_eq_false hd; omega
      clear hd
      go_enter Try.func24, Try.ntmps24
      go_wp2_with fail
      refine (Power_any n _ (by omega)).mono ?_
      rintro e w1 ⟨rfl, hb⟩
      go_wp2
      go_ret
      exact ⟨by simp; omega, hb⟩

theorem mod_step (x k : Nat) : x % pw (k + 1) = x % pw k + Pl.bit x k * pw k := by
  unfold pw Pl.bit
  rw [Nat.pow_succ, Nat.mod_mul, Nat.mul_comm (2 ^ k)]
theorem bit_le (x k : Nat) : Pl.bit x k = 0 ∨ Pl.bit x k = 1 := by unfold Pl.bit; omega
theorem mod_lt_pw (x k : Nat) : x % pw k < pw k := Nat.mod_lt _ (pw_pos k)

theorem rSigned_any (x n : Nat) (w : World) (hx : x < 18446744073709551616) (h1 : 1 ≤ n) (h2 : n ≤ 64) : Calls Try.prog 16 #[.int .u64 (x : Nat), .int .i64 (n : Nat)] w (Ret (.int .i64 (signedI x n)) w) := by
  have hms := mod_step x (n - 1)
  have hml := mod_lt_pw x (n - 1)
  have hsI : signedI x n = if x % pw n < pw (n - 1) then ((x % pw n : Nat) : Int) else ((x % pw n : Nat) : Int) - ((pw n : Nat) : Int) := rfl
  rw [show n - 1 + 1 = n by omega] at hms
  have hpn : pw n = 2 * pw (n - 1) := by rw [← pw_succ, show n - 1 + 1 = n by omega]
  go_enter Try.func16, Try.ntmps16
  have HMS := hid hms
  have HSI := hid hsI
  have HPN := hid hpn
  have HML := hid hml
  clear hms hsI hpn hml
  go_wp2
  go_loopg [5, 10] (n - 1) (fun g o i wr => ∃ k m : Nat, g + k = n - 1 ∧ i = .int .i64 (k : Nat) ∧ o = .int .i64 (m : Nat) ∧ Hid (m = x % pw k) ∧ Below w.heap.size w wr)
  case atStart => exact ⟨0, 0, rfl, rfl, rfl, hid (by simp [pw]; omega), Below.refl _ _⟩
  case round =>
    obtain ⟨k, m, hk, rfl, rfl, hm, hb⟩ := hrel
    have HK := hid hk
    clear hk
    have hmlt : m < pw k := by rw [hm.out]; exact mod_lt_pw x k
    by_cases hlt : k < n - 1
    · have hp := pw_62 (n := k) (by omega)
      have hk63 : k ≤ 63 := by omega
      have hki : (k : Int) < (n : Int) - 1 := by omega
      rcases bit_le x k with hbit | hbit
      · have hm' : m = x % pw (k + 1) := by rw [mod_step, hbit, ← hm.out]; omega
        have HM := hid hm'
        have HB := hid hbit
        clear hm hm' hbit
        go_wp2_with fail
        refine (Bit_any x k _ hx hk63).mono ?_
        rw [HB.out]
        rintro e w1 ⟨rfl, hb1⟩
        go_wp2_with fail
        refine (Power_any k _ hk63).mono ?_
        rintro e w2 ⟨rfl, hb2⟩
        go_wp2
        go_roundg (gk - 1)
        case measure => have := HK.out; omega
        case rel => exact ⟨k + 1, m, by have := HK.out; omega, by go_num, by go_num, HM, step (step hb hb1) hb2⟩
      · have hm' : m + pw k = x % pw (k + 1) := by rw [mod_step, hbit, ← hm.out]; omega
        have HM := hid hm'
        have HB := hid hbit
        clear hm hm' hbit
        go_wp2_with fail
        refine (Bit_any x k _ hx hk63).mono ?_
        rw [HB.out]
        rintro e w1 ⟨rfl, hb1⟩
        go_wp2_with fail
        refine (Power_any k _ hk63).mono ?_
        rintro e w2 ⟨rfl, hb2⟩
        go_wp2
        go_roundg (gk - 1)
        case measure => have := HK.out; omega
        case rel => exact ⟨k + 1, m + pw k, by have := HK.out; omega, by go_num, by go_num, HM, step (step hb hb1) hb2⟩
    · have e : k = n - 1 := by have := HK.out; omega
      have hki : (n : Int) - 1 ≤ (k : Int) := by omega
      have hp := pw_63 (n := k) (by omega)
      rw [← e] at HMS HSI HPN HML
      have hm' := hm.out
      have hsz : k ≤ 63 := by omega
      have hkn : (n : Int) - 1 = (k : Int) := by omega
      clear e
      rcases bit_le x k with hbit | hbit
      · have hs : signedI x n = (m : Int) := by rw [HSI.out, HMS.out, hbit, ← hm', Nat.zero_mul, Nat.add_zero, if_pos hmlt]
        have HB := hid hbit
        have HS := hid hs
        clear hm hm' hbit hs hlt
        go_wp2_with fail
        refine (Bit_any x k _ hx hsz).mono ?_
        rw [HB.out]
        rintro e w1 ⟨rfl, hb1⟩
        go_wp2
        go_ret
        exact ⟨by rw [HS.out]; rfl, step hb hb1⟩
      · have hs : signedI x n = (m : Int) - (pw k : Int) := by rw [HSI.out, HMS.out, hbit, ← hm', Nat.one_mul, HPN.out, if_neg (by omega)]; omega
        have HB := hid hbit
        have HS := hid hs
        by_cases hn1 : n = 1
        · subst hn1
          have hk0 : k = 0 := by omega
          subst hk0
          have hm0 : m = 0 := by have : pw 0 = 1 := rfl; omega
          subst hm0
          have hs1 : signedI x 1 = -1 := by rw [hs]; rfl
          have HS1 := hid hs1
          clear hm hm' hbit hs hlt hs1 hkn
          go_wp2_with fail
          refine (Bit_any x 0 _ hx hsz).mono ?_
          rw [HB.out]
          rintro e w1 ⟨rfl, hb1⟩
          go_wp2
          go_ret
          exact ⟨by rw [HS1.out]; rfl, step hb hb1⟩
        · have hne : ((n : Int) == 1) = false := by simp; omega
          obtain ⟨q, hkq⟩ : ∃ q : Nat, k = q + 1 := ⟨k - 1, by omega⟩
          have hk2 : (n : Int) - 2 = ((q : Nat) : Int) := by omega
          have hpk : pw k = 2 * pw q := by rw [← pw_succ, hkq]
          have hp2 := pw_62 (n := q) (by omega)
          have hq63 : q ≤ 63 := by omega
          have HPK := hid hpk
          clear hm hm' hbit hs hlt hpk hn1 hkq
          go_wp2_with fail
          refine (Bit_any x k _ hx hsz).mono ?_
          rw [HB.out]
          rintro e w1 ⟨rfl, hb1⟩
          go_wp2_with fail
          refine (Power_any q _ hq63).mono ?_
          rintro e w2 ⟨rfl, hb2⟩
          go_wp2
          go_ret
          exact ⟨by rw [HS.out, HPK.out]; exact congrArg (fun q => Ending.returned (.int .i64 q)) (by omega), step (step hb hb1) hb2⟩
end Go.Proofs.Ytgigjfdgejajbaa
