/- The walks of package bits: words moved up, the highest bit, numbers as words. -/
import Derived.Test.YtgigjfdgejajbaaBits3
import Derived.Test.YtgigjfdgejajbaaShelf
namespace Go.Proofs.Ytgigjfdgejajbaa
open Go.RowKit
open Go.Proofs
set_option linter.unusedVariables false

theorem bitLenAux_le (f : Nat) : ∀ x k : Nat, x < 2 ^ f → (Lib.bitLenAux f x ≤ k ↔ x < 2 ^ k) := by
  induction f with
  | zero => intro x k h; have : x = 0 := by omega
            subst this; simp [Lib.bitLenAux]; exact Nat.pow_pos (by decide)
  | succ f ih =>
    intro x k h
    unfold Lib.bitLenAux
    by_cases h0 : x = 0
    · subst h0; simp; exact Nat.pow_pos (by decide)
    · rw [if_neg h0]
      have h2 : x / 2 < 2 ^ f := by rw [Nat.pow_succ] at h; omega
      cases k with
      | zero => simp; omega
      | succ j =>
        have := ih (x / 2) j h2
        rw [Nat.pow_succ]
        omega
theorem bitLen_le (x k : Nat) (h : x < 18446744073709551616) : Lib.bitLen x ≤ k ↔ x < 2 ^ k := bitLenAux_le 64 x k h

/-- The place of the highest bit; -1 of 0. -/
def logI (x : Nat) : Int := (Lib.bitLen x : Int) - 1
theorem logI_range (x : Nat) (h : x < 18446744073709551616) : -1 ≤ logI x ∧ logI x ≤ 63 := by
  have := (bitLen_le x 64 h).2 h
  unfold logI; omega
theorem Log_any (x : Nat) (w : World) (hx : x < 18446744073709551616) : Calls Try.prog 19 #[.int .u64 (x : Nat)] w (Ret (.int .i64 (logI x)) w) := by
  have h1 := (bitLen_le x 64 hx).2 hx
  go_enter Try.func19, Try.ntmps19
  go_wp2_with fail
  refine (Try.bits_Len64 x _ (by omega) (by omega)).mono ?_
  rintro e w1 ⟨rfl, rfl⟩
  rw [Int.toNat_natCast]
  go_wp2
  go_ret
  exact ⟨rfl, Below.refl _ _⟩

def leftV (x : Nat) (n : Int) : Value :=
  if n < 0 then .tuple #[.int .u64 0, .int .i64 2] else if x * 2 ^ n.toNat < 18446744073709551616 then .tuple #[.int .u64 ((x * 2 ^ n.toNat : Nat) : Int), .int .i64 0] else .tuple #[.int .u64 0, .int .i64 111]
theorem left_test (x k : Nat) (hx : x < 18446744073709551616) (h0 : 1 ≤ x) : x * 2 ^ k < 18446744073709551616 ↔ logI x < 64 - (if 64 < (k : Int) then 64 else (k : Int)) := by
  have hb := bitLen_le x (64 - k) hx
  have hb0 := bitLen_le x 0 hx
  unfold logI
  by_cases hk : k ≤ 64
  · have e : 18446744073709551616 = 2 ^ (64 - k) * 2 ^ k := by rw [← Nat.pow_add, Nat.sub_add_cancel hk]
    have : x * 2 ^ k < 18446744073709551616 ↔ x < 2 ^ (64 - k) := by
      rw [e]; exact ⟨fun h => Nat.lt_of_mul_lt_mul_right h, fun h => Nat.mul_lt_mul_of_pos_right h (Nat.pow_pos (by decide))⟩
    rw [this, ← hb]
    split <;> omega
  · have h1 : 18446744073709551616 ≤ x * 2 ^ k := by
      have h2 := Pl.pow_mono (a := 64) (b := k) (by omega)
      have h3 : 1 * 2 ^ k ≤ x * 2 ^ k := Nat.mul_le_mul_right _ h0
      omega
    simp at hb0
    split <;> omega
theorem Left_any (x : Nat) (n : Int) (w : World) (hx : x < 18446744073709551616) : Calls Try.prog 21 #[.int .u64 (x : Nat), .int .i64 n] w (Ret (leftV x n) w) := by
  by_cases hn : n < 0
  · have e : leftV x n = .tuple #[.int .u64 0, .int .i64 2] := by unfold leftV; rw [if_pos hn]
    rw [e]
    clear e
    go_enter Try.func21, Try.ntmps21
    go_wp2
    go_ret2
    exact ⟨rfl, Below.refl _ _⟩
  · obtain ⟨k, rfl⟩ := Int.eq_ofNat_of_zero_le (by omega : 0 ≤ n)
    by_cases h0 : x = 0
    · subst h0
      have e : leftV 0 k = .tuple #[.int .u64 0, .int .i64 0] := by unfold leftV; rw [if_neg hn]; simp
      rw [e]
      clear e
      go_enter Try.func21, Try.ntmps21
      go_wp2
      go_ret2
      exact ⟨rfl, Below.refl _ _⟩
    · have hb0 : (((x : Nat) : Int) == 0) = false := by simp; omega
      have ht := left_test x k hx (by omega)
      have hr := logI_range x hx
      have hr0 : 0 ≤ logI x := by
        have := bitLen_le x 0 hx
        simp at this
        unfold logI; omega
      clear h0
      by_cases hlt : x * 2 ^ k < 18446744073709551616
      · have e : leftV x k = .tuple #[.int .u64 (IntKind.u64.wrap ((x : Int) * 2 ^ k)), .int .i64 0] := by
          unfold leftV; rw [if_neg hn, Int.toNat_natCast, if_pos hlt]
          have : ((x : Int) * 2 ^ k) = ((x * 2 ^ k : Nat) : Int) := by rw [Int.natCast_mul, Int.natCast_pow]; rfl
          rw [this, u64_wrap (by omega) (by omega)]
        have E := hid e
        have hl := ht.1 hlt
        have hk : k < 64 := by split at hl <;> omega
        have hl2 : logI x < 64 - k := by split at hl <;> omega
        clear e ht hlt hl
        go_enter Try.func21, Try.ntmps21
        go_wp2_with fail
        refine (Log_any x _ hx).mono ?_
        rintro e w1 ⟨rfl, hb1⟩
        go_wp2
        go_ret2
        exact ⟨by rw [E.out]; simp, hb1⟩
      · have e : leftV x k = .tuple #[.int .u64 0, .int .i64 111] := by unfold leftV; rw [if_neg hn, Int.toNat_natCast, if_neg hlt]
        rw [e]
        have hl : ¬ _ := fun h => hlt (ht.2 h)
        have hl2 : (64 - if 64 < (k : Int) then 64 else (k : Int)) ≤ logI x := Int.not_lt.1 hl
        have HL := hid hl2
        clear e ht hlt hl hl2
        by_cases h64 : 64 < k
        · have hl2 := HL.out
          rw [if_pos (by omega)] at hl2
          go_enter Try.func21, Try.ntmps21
          go_wp2_with fail
          refine (Log_any x _ hx).mono ?_
          rintro e w1 ⟨rfl, hb1⟩
          go_wp2
          all_goals go_ret2
          all_goals exact ⟨rfl, hb1⟩
        · have hl2 := HL.out
          rw [if_neg (by omega)] at hl2
          go_enter Try.func21, Try.ntmps21
          go_wp2_with fail
          refine (Log_any x _ hx).mono ?_
          rintro e w1 ⟨rfl, hb1⟩
          go_wp2
          all_goals go_ret2
          all_goals exact ⟨rfl, hb1⟩

/-- Unsigned. -/
def fitsB (y : Int) (n : Nat) : Bool := decide (-((2 ^ (n - 1) : Nat) : Int) ≤ y ∧ y < ((2 ^ (n - 1) : Nat) : Int))
def lowN (y : Int) (n : Nat) : Nat := (y % ((2 ^ n : Nat) : Int)).toNat
def unsignedV (y : Int) (n : Int) : Value :=
  if 1 ≤ n ∧ n ≤ 64 then (if fitsB y n.toNat then .tuple #[.int .u64 ((lowN y n.toNat : Nat) : Int), .int .i64 0] else .tuple #[.int .u64 0, .int .i64 111]) else .tuple #[.int .u64 0, .int .i64 2]
theorem low_walk (y : Int) (n : Nat) (h2 : n ≤ 64) : bits BinOp.and IntKind.u64 (IntKind.u64.wrap y) (onesI (n : Int)) = ((lowN y n : Nat) : Int) := by
  have h1 : 2 ^ n * 2 ^ (64 - n) = 18446744073709551616 := by rw [← Nat.pow_add, Nat.add_sub_cancel' h2]
  have h3 := Pl.pow_mono (a := n) (b := 64) h2
  have h4 := Pl.pow_pos n
  obtain ⟨z, hz⟩ : ∃ z : Nat, y % 18446744073709551616 = (z : Int) := Int.eq_ofNat_of_zero_le (by omega)
  have hz2 : z < 18446744073709551616 := by omega
  rw [onesI_nat, IntKind.wrap_u64, hz, bits_and_u64_nat _ _ hz2 (by omega), Nat.and_two_pow_sub_one_eq_mod]
  unfold lowN
  have e : y % ((2 ^ n : Nat) : Int) = ((z % 2 ^ n : Nat) : Int) := by
    rw [Int.natCast_emod, ← hz]
    exact (Int.emod_emod_of_dvd y ⟨((2 ^ (64 - n) : Nat) : Int), by rw [← Int.natCast_mul, h1]; rfl⟩).symm
  rw [e]; rfl
theorem lowN_lt (y : Int) (n : Nat) : lowN y n < 2 ^ n := by
  unfold lowN
  have h := Pl.pow_pos n
  have h1 := Int.emod_lt_of_pos y (b := ((2 ^ n : Nat) : Int)) (by omega)
  omega
theorem signed_low (y : Int) (n : Nat) (h1 : 1 ≤ n) : fitsB y n = true ↔ signedI (lowN y n) n = y := by
  have hh := pow_half n h1
  have hp := Pl.pow_pos (n - 1)
  have hl := lowN_lt y n
  unfold fitsB signedI
  rw [Nat.mod_eq_of_lt hl]
  unfold lowN at *
  generalize 2 ^ (n - 1) = H at *
  rw [hh] at *
  have e1 := Int.emod_nonneg y (b := ((2 * H : Nat) : Int)) (by omega)
  have e2 := Int.emod_lt_of_pos y (b := ((2 * H : Nat) : Int)) (by omega)
  have e3 := Int.emod_add_mul_ediv y ((2 * H : Nat) : Int)
  rw [decide_eq_true_iff]
  constructor
  · rintro ⟨h3, h4⟩
    by_cases hy : 0 ≤ y
    · have : y % ((2 * H : Nat) : Int) = y := Int.emod_eq_of_lt hy (by omega)
      rw [this]; split <;> omega
    · have : y % ((2 * H : Nat) : Int) = y + ((2 * H : Nat) : Int) := by
        rw [← Int.add_emod_right]; exact Int.emod_eq_of_lt (by omega) (by omega)
      rw [this]; split <;> omega
  · intro h; split at h <;> omega

theorem Unsigned_any (y n : Int) (w : World) : Calls Try.prog 17 #[.int .i64 y, .int .i64 n] w (Ret (unsignedV y n) w) := by
  by_cases hn : 1 ≤ n ∧ n ≤ 64
  · obtain ⟨h1, h2⟩ := hn
    obtain ⟨k, rfl⟩ := Int.eq_ofNat_of_zero_le (by omega : 0 ≤ n)
    have E := hid (low_walk y k (by omega))
    have e1 : signedV (lowN y k) (k : Int) = .tuple #[.int .i64 (signedI (lowN y k) k), .int .i64 0] := by unfold signedV; rw [if_pos ⟨h1, h2⟩, Int.toNat_natCast]
    have hs := signed_low y k (by omega)
    cases hf : fitsB y k with
    | true =>
      have e : unsignedV y k = .tuple #[.int .u64 ((lowN y k : Nat) : Int), .int .i64 0] := by unfold unsignedV; rw [if_pos ⟨h1, h2⟩, Int.toNat_natCast, hf]; rfl
      rw [e]
      have hs' := hs.1 hf
      rw [hs'] at e1
      clear e hs hf hs'
      go_enter Try.func17, Try.ntmps17
      go_wp2_with fail
      refine (ones_any k _ (by omega) (by omega)).mono ?_
      rintro e w1 ⟨rfl, hb1⟩
      go_wp2_with fail
      rw [E.out]
      refine (Signed_any _ k _).mono ?_
      rw [e1]
      rintro e w2 ⟨rfl, hb2⟩
      go_wp2
      go_ret2
      exact ⟨rfl, step hb1 hb2⟩
    | false =>
      have e : unsignedV y k = .tuple #[.int .u64 0, .int .i64 111] := by unfold unsignedV; rw [if_pos ⟨h1, h2⟩, Int.toNat_natCast, hf]; rfl
      rw [e]
      have hs' : ¬ signedI (lowN y k) k = y := fun h => by rw [hs.2 h] at hf; cases hf
      have hz : (signedI (lowN y k) k == y) = false := by simpa using hs'
      have hz2 : (signedI (lowN y k) k != y) = true := by simpa using hs'
      clear e hs hf hs'
      have E1 := hid e1
      clear e1
      go_enter Try.func17, Try.ntmps17
      go_wp2_with fail
      refine (ones_any k _ (by omega) (by omega)).mono ?_
      rintro e w1 ⟨rfl, hb1⟩
      go_wp2_with fail
      rw [E.out]
      refine (Signed_any _ k _).mono ?_
      rw [E1.out]
      rintro e w2 ⟨rfl, hb2⟩
      go_wp2
      go_ret2
      exact ⟨rfl, step hb1 hb2⟩
  · have e : unsignedV y n = .tuple #[.int .u64 0, .int .i64 2] := by unfold unsignedV; rw [if_neg hn]
    rw [e]
    clear e
    by_cases h1 : n < 1
    · go_enter Try.func17, Try.ntmps17
      go_wp2
      go_ret2
      exact ⟨rfl, Below.refl _ _⟩
    · have h2 : 64 < n := by omega
      clear hn
      go_enter Try.func17, Try.ntmps17
      go_wp2
      go_ret2
      exact ⟨rfl, Below.refl _ _⟩
end Go.Proofs.Ytgigjfdgejajbaa
