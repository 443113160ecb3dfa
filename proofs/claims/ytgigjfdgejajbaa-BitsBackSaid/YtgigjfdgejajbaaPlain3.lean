/- What is turned, told with a sign, moved, or told as text twice. -/
import Derived.Test.YtgigjfdgejajbaaBits6
import Derived.Test.YtgigjfdgejajbaaRef2
namespace Go.Proofs.Ytgigjfdgejajbaa
open Go.RowKit
open Go.Proofs
set_option linter.unusedVariables false

theorem turnL_bit (l : List Bool) : ∀ i, (turnL l).testBit i = l.reverse.getD i false := by
  refine snocRec (p := fun l => ∀ i, (turnL l).testBit i = l.reverse.getD i false) (by simp [turnL]) (fun l b ih i => ?_) l
  rw [turnL_snoc, List.reverse_append, List.reverse_singleton, List.singleton_append]
  cases i with
  | zero => cases b <;> simp [Nat.testBit_zero] <;> omega
  | succ i =>
    rw [Nat.testBit_succ, show (2 * turnL l + b.toNat) / 2 = turnL l by cases b <;> simp <;> omega, ih]
    simp
theorem turnL_bits (x q i : Nat) : (turnL (bitsB x q)).testBit i = (decide (i < q) && x.testBit (q - 1 - i)) := by
  rw [turnL_bit]
  unfold bitsB
  by_cases h : i < q
  · rw [List.getD_eq_getElem?_getD, List.getElem?_reverse (by simpa using h)]
    simp [h]
    rw [List.getElem?_eq_getElem (by simp; omega)]
    simp
  · rw [List.getD_eq_getElem?_getD, List.getElem?_eq_none (by simp; omega)]
    simp [h]
theorem turn_twice (x q : Nat) (h : x < 2 ^ q) : turnL (bitsB (turnL (bitsB x q)) q) = x := by
  apply Nat.eq_of_testBit_eq
  intro i
  rw [turnL_bits, turnL_bits]
  by_cases hi : i < q
  · rw [show q - 1 - (q - 1 - i) = i by omega]
    simp [hi]
    omega
  · have : x.testBit i = false := Nat.testBit_lt_two_pow (Nat.lt_of_lt_of_le h (Pl.pow_mono (by omega)))
    simp [hi, this]
theorem turn_back (x : Nat) (z : Int) (hx : x < 18446744073709551616) : (∃ T : Nat, T < 18446744073709551616 ∧ turnV x z = .tuple #[.int .u64 (T : Int), .int .i64 0] ∧ turnV T z = .tuple #[.int .u64 (x : Int), .int .i64 0]) ∨
    turnV x z = .tuple #[.int .u64 0, .int .i64 2] ∨ turnV x z = .tuple #[.int .u64 0, .int .i64 111] := by
  by_cases hz : 0 ≤ z ∧ z ≤ 64
  · obtain ⟨q, rfl⟩ : ∃ q : Nat, z = (q : Int) := ⟨z.toNat, by omega⟩
    have hq : ((q : Int)).toNat = q := by omega
    by_cases h : x < 2 ^ q
    · have hl := turnL_lt (bitsB x q)
      have h2 : (bitsB x q).length = q := by unfold bitsB; simp
      have h3 := Pl.pow_mono (a := q) (b := 64) (by omega)
      rw [h2] at hl
      refine .inl ⟨turnL (bitsB x q), by omega, ?_, ?_⟩
      · unfold turnV; rw [if_pos hz, hq, if_pos h]
      · unfold turnV; rw [if_pos hz, hq, if_pos hl, turn_twice x q h]
    · refine .inr (.inr ?_)
      unfold turnV; rw [if_pos hz, hq, if_neg h]
  · refine .inr (.inl ?_)
    unfold turnV; rw [if_neg hz]

theorem signed_back (x q : Nat) (h1 : 1 ≤ q) : fitsB (signedI x q) q = true ∧ lowN (signedI x q) q = x % 2 ^ q := by
  have hp : 2 ^ q = 2 * 2 ^ (q - 1) := by rw [← Nat.pow_succ']; congr 1; omega
  have hm : x % 2 ^ q < 2 ^ q := Nat.mod_lt _ (Nat.pow_pos (by decide))
  have hb : ∀ y : Int, y % ((2 ^ q : Nat) : Int) = ((x % 2 ^ q : Nat) : Int) → lowN y q = x % 2 ^ q := by
    intro y h; unfold lowN; rw [h]; rfl
  unfold signedI
  by_cases h : x % 2 ^ q < 2 ^ (q - 1)
  · rw [if_pos h]
    refine ⟨by unfold fitsB; exact decide_eq_true ⟨by omega, by omega⟩, hb _ ?_⟩
    exact Int.emod_eq_of_lt (by omega) (by omega)
  · rw [if_neg h]
    refine ⟨by unfold fitsB; exact decide_eq_true ⟨by omega, by omega⟩, hb _ ?_⟩
    rw [Int.sub_emod_right]
    exact Int.emod_eq_of_lt (by omega) (by omega)
theorem unsigned_back (x : Nat) (z : Int) (hz2 : z ≤ 9223372036854775807) : (∃ (y : Int) (L : Nat), signedV x z = .tuple #[.int .i64 y, .int .i64 0] ∧ unsignedV y z = .tuple #[.int .u64 (L : Int), .int .i64 0] ∧ getV x 0 z = .tuple #[.int .u64 (L : Int), .int .i64 0]) ∨
    signedV x z = .tuple #[.int .i64 0, .int .i64 2] := by
  by_cases hz : 1 ≤ z ∧ z ≤ 64
  · obtain ⟨q, rfl⟩ : ∃ q : Nat, z = (q : Int) := ⟨z.toNat, by omega⟩
    have hq : ((q : Int)).toNat = q := by omega
    have h := signed_back x q (by omega)
    refine .inl ⟨signedI x q, x % 2 ^ q, ?_, ?_, ?_⟩
    · unfold signedV; rw [if_pos hz, hq]
    · unfold unsignedV; rw [if_pos hz, hq, if_pos h.1, h.2]
    · unfold getV isF
      rw [decide_eq_true (show 0 ≤ (0 : Int) ∧ 1 ≤ (q : Int) ∧ (0 : Int) ≤ 64 ∧ (q : Int) ≤ 64 ∧ 0 + (q : Int) ≤ 64 by omega), hq]
      simp [Pl.get]
  · refine .inr ?_
    unfold signedV; rw [if_neg hz]
theorem left_back (x : Nat) (z : Int) : (∃ u : Nat, u < 18446744073709551616 ∧ leftV x z = .tuple #[.int .u64 (u : Int), .int .i64 0] ∧ Pl.shr u z.toNat = x) ∨
    leftV x z = .tuple #[.int .u64 0, .int .i64 2] ∨ leftV x z = .tuple #[.int .u64 0, .int .i64 111] := by
  unfold leftV
  by_cases hz : z < 0
  · rw [if_pos hz]; exact .inr (.inl rfl)
  · rw [if_neg hz]
    by_cases h : x * 2 ^ z.toNat < 18446744073709551616
    · rw [if_pos h]
      exact .inl ⟨_, h, rfl, by unfold Pl.shr; exact Nat.mul_div_cancel _ (Nat.pow_pos (by decide))⟩
    · rw [if_neg h]; exact .inr (.inr rfl)

theorem backGo_text : ∀ (l : List UInt8) (f : Nat), l.length ≤ f → l.contains 0 = false → backGo f (Pl.textN l) = l
  | [], f, _, _ => by cases f <;> simp [backGo, Pl.textN]
  | c :: r, 0, h, _ => by simp at h
  | c :: r, f + 1, h, h0 => by
    rw [List.contains_cons, Bool.or_eq_false_iff] at h0
    have hc : c.toNat ≠ 0 := by
      intro e
      have : c = 0 := UInt8.toNat_inj.1 e
      subst this
      exact absurd h0.1 (by decide)
    have hl := c.toNat_lt
    have e1 : Pl.textN (c :: r) % 256 = c.toNat := by unfold Pl.textN; omega
    have e2 : Pl.textN (c :: r) / 256 = Pl.textN r := by rw [Pl.textN]; omega
    unfold backGo
    rw [e1, e2, if_neg hc, backGo_text r f (by simp at h; omega) h0.2]
    simp
theorem text_back (s : ByteArray) : (∃ T : Nat, T < 18446744073709551616 ∧ textV s.data.toList = .tuple #[.int .u64 (T : Int), .int .i64 0] ∧ backV T = .tuple #[.string s, .int .i64 0]) ∨
    textV s.data.toList = .tuple #[.int .u64 0, .int .i64 2] ∨ textV s.data.toList = .tuple #[.int .u64 0, .int .i64 111] := by
  unfold textV
  by_cases h : 8 < s.data.toList.length
  · rw [if_pos h]; exact .inr (.inr rfl)
  · rw [if_neg h]
    cases h0 : s.data.toList.contains 0 with
    | true => exact .inr (.inl rfl)
    | false =>
      have hb : backL (Pl.textN s.data.toList) = s.data.toList := backGo_text _ 8 (by omega) h0
      have h1 := Pl.textN_lt s.data.toList
      have h2 : 256 ^ s.data.toList.length ≤ 256 ^ 8 := Nat.pow_le_pow_right (by decide) (by omega)
      refine .inl ⟨Pl.textN s.data.toList, by omega, rfl, ?_⟩
      unfold backV
      rw [hb, if_pos rfl]
theorem back_text (x : Nat) : (∃ s : ByteArray, s.size ≤ 8 ∧ backV x = .tuple #[.string s, .int .i64 0] ∧ textV s.data.toList = .tuple #[.int .u64 (x : Int), .int .i64 0]) ∨ backV x = .tuple #[.string ⟨#[]⟩, .int .i64 2] := by
  unfold backV
  by_cases h : Pl.textN (backL x) = x
  · rw [if_pos h]
    have hl := backGo_len 8 x
    refine .inl ⟨⟨(backL x).toArray⟩, by show (backL x).toArray.size ≤ 8; simp; exact hl, rfl, ?_⟩
    unfold textV
    have e : (⟨(backL x).toArray⟩ : ByteArray).data.toList = backL x := by simp
    rw [e, if_neg (by show ¬ 8 < (backGo 8 x).length; omega), if_neg (by rw [show (backL x).contains 0 = false from backGo_zero 8 x]; decide), h]
  · rw [if_neg h]; exact .inr rfl
end Go.Proofs.Ytgigjfdgejajbaa
