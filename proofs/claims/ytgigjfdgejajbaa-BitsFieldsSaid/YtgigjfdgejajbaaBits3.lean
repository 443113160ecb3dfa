/- The walks of package bits: words that are moved, and signs. -/
import Derived.Test.YtgigjfdgejajbaaBits2
namespace Go.Proofs.Ytgigjfdgejajbaa
open Go.RowKit
open Go.Proofs
set_option linter.unusedVariables false

theorem wrap64_eq (n : Int) : wrap64 n = (n + 9223372036854775808) % 18446744073709551616 - 9223372036854775808 := by unfold wrap64; rfl

/-- Right: n below 0 counts as 0. -/
theorem Right_any (x : Nat) (n : Int) (w : World) (hx : x < 18446744073709551616) : Calls Try.prog 26 #[.int .u64 (x : Nat), .int .i64 n] w (Ret (.int .u64 ((Pl.shr x n.toNat : Nat) : Int)) w) := by
  by_cases hn : 0 ≤ n
  · obtain ⟨k, rfl⟩ := Int.eq_ofNat_of_zero_le hn
    have e : ((x : Int) / 2 ^ min k 64) = ((Pl.shr x k : Nat) : Int) := by
      unfold Pl.shr
      rw [div_pow]
      by_cases h : k ≤ 64
      · rw [Nat.min_eq_left h]
      · rw [Nat.min_eq_right (by omega), Nat.div_eq_of_lt (by omega : x < 2 ^ 64), Nat.div_eq_of_lt (Nat.lt_of_lt_of_le hx (Pl.pow_mono (a := 64) (by omega)))]
    have E := hid e
    clear e hn
    go_enter Try.func26, Try.ntmps26
    go_wp2
    go_ret
    exact ⟨congrArg (fun q => Ending.returned (.int .u64 q)) (by rw [Int.toNat_natCast]; exact E.out), Below.refl _ _⟩
  · have e : ((x : Nat) : Int) = ((Pl.shr x n.toNat : Nat) : Int) := by
      unfold Pl.shr
      rw [Int.toNat_of_nonpos (by omega)]; simp
    have E := hid e
    clear e
    go_enter Try.func26, Try.ntmps26
    go_wp2
    all_goals go_ret
    all_goals exact ⟨congrArg (fun q => Ending.returned (.int .u64 q)) E.out, Below.refl _ _⟩

/-- What the lowest n bits say, with a sign. -/
def signedI (x n : Nat) : Int := if x % 2 ^ n < 2 ^ (n - 1) then ((x % 2 ^ n : Nat) : Int) else ((x % 2 ^ n : Nat) : Int) - ((2 ^ n : Nat) : Int)
theorem pow_half (n : Nat) (h : 1 ≤ n) : 2 ^ n = 2 * 2 ^ (n - 1) := by
  obtain ⟨k, rfl⟩ : ∃ k, n = k + 1 := ⟨n - 1, by omega⟩
  rw [Nat.pow_succ, Nat.add_sub_cancel, Nat.mul_comm]
theorem signed_walk (x n : Nat) (h1 : 1 ≤ n) (h2 : n ≤ 64) : wrap64 (IntKind.u64.wrap ((x : Int) * 2 ^ (64 - n))) / 2 ^ (64 - n) = signedI x n := by
  have hk : 2 ^ n * 2 ^ (64 - n) = 18446744073709551616 := by rw [← Nat.pow_add, Nat.add_sub_cancel' h2]
  have hh := pow_half n h1
  have hp := Pl.pow_pos (64 - n)
  have hp2 := Pl.pow_pos (n - 1)
  have hm : x % 2 ^ n < 2 ^ n := Nat.mod_lt _ (Nat.pow_pos (by decide))
  have e1 : IntKind.u64.wrap ((x : Int) * 2 ^ (64 - n)) = ((x % 2 ^ n * 2 ^ (64 - n) : Nat) : Int) := by
    have : (x : Int) * 2 ^ (64 - n) = ((x * 2 ^ (64 - n) : Nat) : Int) := by rw [Int.natCast_mul, Int.natCast_pow]; rfl
    rw [this, IntKind.wrap_u64, ← Nat.mul_mod_mul_right, hk]; omega
  rw [e1, wrap64_eq]
  have ek : ((2 : Int) ^ (64 - n)) = ((2 ^ (64 - n) : Nat) : Int) := by rw [Int.natCast_pow]; rfl
  rw [ek]
  unfold signedI
  generalize hM : x % 2 ^ n = m at *
  generalize hK : 2 ^ (64 - n) = K at *
  generalize hH : 2 ^ (n - 1) = H at *
  generalize hN : 2 ^ n = N at *
  have hHK : 2 * (H * K) = 18446744073709551616 := by rw [← Nat.mul_assoc, ← hh, hk]
  by_cases hlt : m < H
  · rw [if_pos hlt]
    have h3 : m * K < H * K := Nat.mul_lt_mul_of_pos_right hlt (by omega)
    have e2 : (((m * K : Nat) : Int) + 9223372036854775808) % 18446744073709551616 - 9223372036854775808 = ((m * K : Nat) : Int) := by omega
    rw [e2, ← Int.natCast_ediv, Nat.mul_div_cancel _ (by omega)]
  · rw [if_neg hlt]
    have h3 : H * K ≤ m * K := Nat.mul_le_mul_right _ (by omega)
    have h4 : m * K < N * K := Nat.mul_lt_mul_of_pos_right hm (by omega)
    have e2 : (((m * K : Nat) : Int) + 9223372036854775808) % 18446744073709551616 - 9223372036854775808 = ((m : Int) - (N : Int)) * (K : Int) := by
      rw [Int.sub_mul, ← Int.natCast_mul, ← Int.natCast_mul, hk]; omega
    rw [e2, Int.mul_ediv_cancel _ (by omega)]

theorem signedI_range (x n : Nat) (h1 : 1 ≤ n) : -((2 ^ (n - 1) : Nat) : Int) ≤ signedI x n ∧ signedI x n < ((2 ^ (n - 1) : Nat) : Int) := by
  have hh := pow_half n h1
  have hm : x % 2 ^ n < 2 ^ n := Nat.mod_lt _ (Nat.pow_pos (by decide))
  unfold signedI
  split <;> omega

def signedV (x : Nat) (n : Int) : Value := if 1 ≤ n ∧ n ≤ 64 then .tuple #[.int .i64 (signedI x n.toNat), .int .i64 0] else .tuple #[.int .i64 0, .int .i64 2]
theorem Signed_any (x : Nat) (n : Int) (w : World) : Calls Try.prog 15 #[.int .u64 (x : Nat), .int .i64 n] w (Ret (signedV x n) w) := by
  by_cases hn : 1 ≤ n ∧ n ≤ 64
  · obtain ⟨h1, h2⟩ := hn
    obtain ⟨k, rfl⟩ := Int.eq_ofNat_of_zero_le (by omega : 0 ≤ n)
    have e : signedV x k = .tuple #[.int .i64 (wrap64 (IntKind.u64.wrap ((x : Int) * 2 ^ ((64 : Int) - (k : Int)).toNat)) / 2 ^ ((64 : Int) - (k : Int)).toNat), .int .i64 0] := by
      unfold signedV
      rw [if_pos ⟨h1, h2⟩, show ((64 : Int) - (k : Int)).toNat = 64 - k by omega, signed_walk x k (by omega) (by omega), Int.toNat_natCast]
    have E := hid e
    clear e
    go_enter Try.func15, Try.ntmps15
    go_wp2
    go_ret2
    exact ⟨by rw [E.out]; simp, Below.refl _ _⟩
  · have e : signedV x n = .tuple #[.int .i64 0, .int .i64 2] := by unfold signedV; rw [if_neg hn]
    rw [e]
    clear e
    by_cases h1 : n < 1
    · go_enter Try.func15, Try.ntmps15
      go_wp2
      go_ret2
      exact ⟨rfl, Below.refl _ _⟩
    · have h2 : 64 < n := by omega
      clear hn
      go_enter Try.func15, Try.ntmps15
      go_wp2
      go_ret2
      exact ⟨rfl, Below.refl _ _⟩
end Go.Proofs.Ytgigjfdgejajbaa
