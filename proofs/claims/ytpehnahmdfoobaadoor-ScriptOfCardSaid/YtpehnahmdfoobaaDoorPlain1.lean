/- Plain laws on bits of numbers. No program in sight. -/
namespace Go.Proofs.YtpehnahmdfoobaaDoor.Pl

theorem pow_pos (n : Nat) : 1 ≤ 2 ^ n := Nat.one_le_two_pow
theorem pow_mono {a b : Nat} (h : a ≤ b) : 2 ^ a ≤ 2 ^ b := Nat.pow_le_pow_right (by decide) h

def mask (a c : Nat) : Nat := (2 ^ c - 1) * 2 ^ a
def get (x a c : Nat) : Nat := x / 2 ^ a % 2 ^ c
def shr (x k : Nat) : Nat := x / 2 ^ k
def bit (x i : Nat) : Nat := x / 2 ^ i % 2
/-- x with v in the field (a, c). -/
def set (x a c v : Nat) : Nat := (x &&& (18446744073709551615 - mask a c)) ||| (v * 2 ^ a)

theorem mask_bit (a c i : Nat) : (mask a c).testBit i = decide (a ≤ i ∧ i < a + c) := by
  unfold mask
  rw [Nat.testBit_mul_two_pow, Nat.testBit_two_pow_sub_one]
  by_cases h : a ≤ i
  · have : i - a < c ↔ i < a + c := by omega
    simp [h, this]
  · simp [h]
theorem mask_lt (a c : Nat) (h : a + c ≤ 64) : mask a c < 18446744073709551616 := by
  have : mask a c < 2 ^ 64 := Nat.lt_pow_two_of_testBit _ fun i hi => by rw [mask_bit]; simp; omega
  exact this
theorem get_bit (x a c i : Nat) : (get x a c).testBit i = (decide (i < c) && x.testBit (a + i)) := by
  unfold get
  rw [Nat.testBit_mod_two_pow, Nat.testBit_div_two_pow, Nat.add_comm]
theorem get_lt (x a c : Nat) : get x a c < 2 ^ c := Nat.mod_lt _ (Nat.pow_pos (by decide))
theorem and_mask (x a c : Nat) : (x &&& mask a c) / 2 ^ a = get x a c := by
  apply Nat.eq_of_testBit_eq; intro i
  rw [Nat.testBit_div_two_pow, Nat.testBit_and, mask_bit, get_bit, Nat.add_comm a i]
  have e : (a ≤ i + a ∧ i + a < a + c) ↔ i < c := by omega
  simp only [e]; exact Bool.and_comm _ _
theorem lt_of_bits {x : Nat} (h : ∀ i, 64 ≤ i → x.testBit i = false) : x < 18446744073709551616 := Nat.lt_pow_two_of_testBit (n := 64) _ h
theorem bits_hi {x i : Nat} (h : x < 18446744073709551616) (hi : 64 ≤ i) : x.testBit i = false :=
  Nat.testBit_lt_two_pow (Nat.lt_of_lt_of_le h (pow_mono (a := 64) hi))
theorem not_bit (m i : Nat) (h : m < 18446744073709551616) : (18446744073709551615 - m).testBit i = (decide (i < 64) && !m.testBit i) := by
  have := Nat.testBit_two_pow_sub_succ (x := m) (n := 64) h i
  have e : 2 ^ 64 - (m + 1) = 18446744073709551615 - m := by omega
  rw [e] at this; exact this
theorem set_bit (x a c v i : Nat) (h : a + c ≤ 64) (hx : x < 18446744073709551616) (hv : v < 2 ^ c) :
    (set x a c v).testBit i = if a ≤ i ∧ i < a + c then v.testBit (i - a) else x.testBit i := by
  unfold set
  rw [Nat.testBit_or, Nat.testBit_and, not_bit _ _ (mask_lt a c h), mask_bit, Nat.testBit_mul_two_pow]
  by_cases h1 : a ≤ i ∧ i < a + c
  · simp [h1]
  · rw [if_neg h1]
    have h2 : (decide (a ≤ i) && v.testBit (i - a)) = false := by
      by_cases h3 : a ≤ i
      · have : v.testBit (i - a) = false := Nat.testBit_lt_two_pow (Nat.lt_of_lt_of_le hv (pow_mono (by omega)))
        simp [this]
      · simp [h3]
    rw [h2]
    by_cases h4 : i < 64
    · simp [h1, h4]
    · simp [bits_hi hx (by omega : 64 ≤ i)]
theorem set_lt (x a c v : Nat) (h : a + c ≤ 64) (hx : x < 18446744073709551616) (hv : v < 2 ^ c) : set x a c v < 18446744073709551616 :=
  lt_of_bits fun i hi => by rw [set_bit x a c v i h hx hv, if_neg (by omega)]; exact bits_hi hx hi
theorem get_set (x a c v : Nat) (h : a + c ≤ 64) (hx : x < 18446744073709551616) (hv : v < 2 ^ c) : get (set x a c v) a c = v := by
  apply Nat.eq_of_testBit_eq; intro i
  rw [get_bit]
  by_cases hi : i < c
  · rw [set_bit x a c v _ h hx hv, if_pos (by omega), Nat.add_sub_cancel_left]; simp [hi]
  · simp [hi, Nat.testBit_lt_two_pow (Nat.lt_of_lt_of_le hv (pow_mono (by omega : c ≤ i)))]
theorem get_set_apart (x a c v b d : Nat) (h : a + c ≤ 64) (hx : x < 18446744073709551616) (hv : v < 2 ^ c) (hap : a + c ≤ b ∨ b + d ≤ a) : get (set x a c v) b d = get x b d := by
  apply Nat.eq_of_testBit_eq; intro i
  rw [get_bit, get_bit]
  by_cases hi : i < d
  · rw [set_bit x a c v _ h hx hv, if_neg (by omega)]
  · simp [hi]
/-- Masks that lie apart. -/
theorem mask_apart (a c b d : Nat) (hc : 1 ≤ c) (hd : 1 ≤ d) : mask a c &&& mask b d = 0 ↔ (a + c ≤ b ∨ b + d ≤ a) := by
  constructor
  · intro h
    have hb := fun i => congrArg (fun x => Nat.testBit x i) h
    simp only [Nat.testBit_and, mask_bit, Nat.zero_testBit] at hb
    have := hb (max a b)
    simp at this
    omega
  · intro h
    apply Nat.eq_of_testBit_eq; intro i
    rw [Nat.testBit_and, mask_bit, mask_bit, Nat.zero_testBit]
    simp; omega

theorem bit_eq (x i : Nat) : bit x i = (x.testBit i).toNat := by unfold bit; rw [Nat.toNat_testBit]
/-- One bit put in the place of another. -/
theorem rebit (x p : Nat) (b : Bool) : x - bit x p * 2 ^ p + b.toNat * 2 ^ p = if x.testBit p then (if b then x else x - 2 ^ p) else (if b then x + 2 ^ p else x) := by
  rw [bit_eq]
  have h : x.testBit p = true → 2 ^ p ≤ x := Nat.ge_two_pow_of_testBit
  cases hx : x.testBit p <;> cases b <;> simp
  have := h hx
  omega
theorem comb_bit (hi lo p : Nat) (b : Bool) (h : lo < 2 ^ p) (i : Nat) : (2 ^ (p + 1) * hi + (2 ^ p * b.toNat + lo)).testBit i = if i < p then lo.testBit i else if i = p then b else hi.testBit (i - (p + 1)) := by
  have hb : 2 ^ p * b.toNat + lo < 2 ^ (p + 1) := by rw [Nat.pow_succ]; cases b <;> simp <;> omega
  rw [Nat.testBit_two_pow_mul_add _ hb]
  by_cases h1 : i < p + 1
  · rw [if_pos h1, Nat.testBit_two_pow_mul_add _ h]
    by_cases h2 : i < p
    · simp [h2]
    · have : i = p := by omega
      subst this
      cases b <;> simp
  · rw [if_neg h1, if_neg (by omega), if_neg (by omega)]
theorem parts (x p : Nat) : x = 2 ^ (p + 1) * (x / 2 ^ (p + 1)) + (2 ^ p * bit x p + x % 2 ^ p) := by
  have h1 := Nat.div_add_mod x (2 ^ p)
  have h2 := Nat.div_add_mod (x / 2 ^ p) 2
  have h3 : x / 2 ^ p / 2 = x / 2 ^ (p + 1) := by rw [Nat.div_div_eq_div_mul, Nat.pow_succ]
  have h4 : 2 ^ (p + 1) * (x / 2 ^ (p + 1)) = 2 ^ p * (2 * (x / 2 ^ p / 2)) := by rw [← h3, Nat.pow_succ, Nat.mul_assoc]
  unfold bit
  rw [h4, ← Nat.add_assoc, ← Nat.mul_add, h2, h1]
theorem rebit_bit (x p : Nat) (b : Bool) (i : Nat) : (x - bit x p * 2 ^ p + b.toNat * 2 ^ p).testBit i = if i = p then b else x.testBit i := by
  have h := parts x p
  have hlo : x % 2 ^ p < 2 ^ p := Nat.mod_lt _ (Nat.pow_pos (by decide))
  have e : x - bit x p * 2 ^ p + b.toNat * 2 ^ p = 2 ^ (p + 1) * (x / 2 ^ (p + 1)) + (2 ^ p * b.toNat + x % 2 ^ p) := by
    rw [Nat.mul_comm (bit x p), Nat.mul_comm b.toNat]
    omega
  have e2 : x.testBit i = (2 ^ (p + 1) * (x / 2 ^ (p + 1)) + (2 ^ p * (x.testBit p).toNat + x % 2 ^ p)).testBit i := by
    rw [← bit_eq, ← h]
  rw [e, e2, comb_bit _ _ _ _ hlo, comb_bit _ _ _ _ hlo]
  by_cases h1 : i < p
  · simp [h1, Nat.ne_of_lt h1]
  · by_cases h2 : i = p <;> simp [h1, h2]
end Go.Proofs.YtpehnahmdfoobaaDoor.Pl
