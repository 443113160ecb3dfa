/- The walks of the document's answer for layer 1: fields, what is in them, and words with something else there. -/
import Derived.Test.YtgigjfdgejajbaaRef2
import Derived.Test.YtgigjfdgejajbaaBits2
import Derived.Deep.DeepCutAuto
import Derived.Deep.CutBlock
namespace Go.Proofs.Ytgigjfdgejajbaa
open Go.RowKit
open Go.Proofs
set_option linter.unusedVariables false

theorem rField_any (a c : Int) (w : World) (ha : -9223372036854775808 ≤ a) (ha' : a ≤ 9223372036854775807) (hc : -9223372036854775808 ≤ c) (hc' : c ≤ 9223372036854775807) :
    Calls Try.prog 35 #[.agg #[.int .i64 a, .int .i64 c]] w (Ret (.bool (isF a c)) w) := by
  go_enter Try.func35, Try.ntmps35
  go_wp2
  all_goals go_ret
  all_goals refine ⟨?_, (Below.refl _ _).alloc (Nat.le_refl _) _⟩
  all_goals (simp [isF, *]; try omega)

theorem get_step (x p k : Nat) : Pl.get x p (k + 1) = 2 * Pl.get x (p + 1) k + Pl.bit x p := by
  unfold Pl.get Pl.bit
  rw [Nat.pow_succ, Nat.mul_comm (2 ^ k) 2, Nat.mod_mul, Nat.div_div_eq_div_mul, ← Nat.pow_succ, Nat.succ_eq_add_one]
  omega
theorem rGet_any (x a c : Nat) (w : World) (hx : x < 18446744073709551616) (h1 : 1 ≤ c) (h2 : a + c ≤ 64) :
    Calls Try.prog 36 #[.int .u64 (x : Nat), .agg #[.int .i64 (a : Nat), .int .i64 (c : Nat)]] w (Ret (.int .u64 ((Pl.get x a c : Nat) : Int)) w) := by
  obtain ⟨w1, hw1, hb1, hs1, hcc⟩ := boxed w #[Value.int IntKind.i64 (a : Nat), Value.int IntKind.i64 (c : Nat)] 53
  have hc0 := hcc w1 0 _ (Below.refl _ _) rfl
  have hc1 := hcc w1 1 _ (Below.refl _ _) rfl
  have HC := hid hcc
  clear hcc hs1
  go_enter Try.func36, Try.ntmps36
  go_wp2
  go_loopg [5, 6] c (fun g v i wr => ∃ k o : Nat, g + k = c ∧ i = .int .i64 ((g : Int) - 1) ∧ v = .int .u64 (o : Nat) ∧ Hid (o = Pl.get x (a + g) k) ∧ Below w1.heap.size w1 wr)
  case atStart => exact ⟨0, 0, rfl, rfl, rfl, hid (by simp [Pl.get]; omega), Below.refl _ _⟩
  case round =>
    obtain ⟨k, o, hk, rfl, rfl, ho, hb⟩ := hrel
    have HK := hid hk
    by_cases h0 : gk = 0
    · subst h0
      obtain rfl : k = c := by omega
      have E := hid ho.out
      clear hk ho
      go_wp2
      go_ret
      exact ⟨by rw [E.out]; rfl, step hb1 hb⟩
    · have hgl : gk ≤ c := by omega
      have hg1 : 1 ≤ gk := by omega
      obtain ⟨g, hg⟩ : ∃ g, gk = g + 1 := ⟨gk - 1, by omega⟩
      obtain ⟨p, hp⟩ : ∃ p : Nat, (a : Int) + ((gk : Int) - 1) = (p : Int) := ⟨a + gk - 1, by omega⟩
      have hpe : p = a + g := by omega
      have hp63 : p ≤ 63 := by omega
      have hst := get_step x (a + g) k
      have hol : o < 2 ^ k := by rw [ho.out]; exact Pl.get_lt _ _ _
      have hpk := Pl.pow_mono (a := k) (b := 63) (by omega)
      have ho63 : o < 9223372036854775808 := by omega
      obtain ⟨b, hb'⟩ : ∃ b, Pl.bit x p = b := ⟨_, rfl⟩
      have hb01 := bit_le x p
      rw [hb'] at hb01
      have hst2 : 2 * o + b = Pl.get x (a + g) (k + 1) := by rw [hst, ← hb', hpe, ho.out, hg, Nat.add_assoc]
      have HS := hid hst2
      have HB := hid hb'
      have HG := hid hg
      have hd0 := HC.out wr 0 _ hb rfl
      clear hst hst2 hb' ho hk h0 hg hpe hol hpk
      go_wp2_with fail
      refine (Bit_any x p _ hx hp63).mono ?_
      rintro e w2 ⟨rfl, hb2⟩
      rw [HB.out]
      have h2o : ((2 * o + b : Nat) : Int) < 18446744073709551616 := by omega
      go_wp2
      go_roundg (gk - 1)
      case measure => omega
      case rel => exact ⟨k + 1, 2 * o + b, by have := HK.out; omega, by go_num, by go_num, hid (by have := HG.out; rw [HS.out, this]; rfl), step hb hb2⟩

def setGo (x a v : Nat) : Nat → Nat
  | 0 => x
  | k + 1 => setGo x a v k - Pl.bit x (a + k) * 2 ^ (a + k) + Pl.bit v k * 2 ^ (a + k)
theorem setGo_bit (x a v : Nat) : ∀ k i, (setGo x a v k).testBit i = if a ≤ i ∧ i < a + k then v.testBit (i - a) else x.testBit i
  | 0, i => by rw [if_neg (by omega)]; rfl
  | k + 1, i => by
    have ih := setGo_bit x a v k
    have e : Pl.bit x (a + k) = Pl.bit (setGo x a v k) (a + k) := by rw [Pl.bit_eq, Pl.bit_eq, ih, if_neg (by omega)]
    rw [setGo, e, Pl.bit_eq v, Pl.rebit_bit, ih]
    by_cases h : i = a + k
    · subst h
      rw [if_pos rfl, if_pos (by omega)]
      congr 1
      omega
    · rw [if_neg h]
      by_cases h2 : a ≤ i ∧ i < a + k
      · rw [if_pos h2, if_pos (by omega)]
      · rw [if_neg h2, if_neg (by omega)]
theorem setGo_end (x a c v : Nat) (h : a + c ≤ 64) (hx : x < 18446744073709551616) (hv : v < 2 ^ c) : setGo x a v c = Pl.set x a c v := by
  apply Nat.eq_of_testBit_eq
  intro i
  rw [setGo_bit, Pl.set_bit x a c v i h hx hv]
theorem setGo_lt (x a v k : Nat) (h : a + k ≤ 64) (hx : x < 18446744073709551616) : setGo x a v k < 18446744073709551616 := by
  apply Pl.lt_of_bits
  intro i hi
  rw [setGo_bit, if_neg (by omega)]
  exact Pl.bits_hi hx hi
theorem setGo_ge (x a v k : Nat) : Pl.bit x (a + k) * 2 ^ (a + k) ≤ setGo x a v k := by
  have e : Pl.bit x (a + k) = Pl.bit (setGo x a v k) (a + k) := by rw [Pl.bit_eq, Pl.bit_eq, setGo_bit, if_neg (by omega)]
  rw [e, Pl.bit_eq]
  cases h : (setGo x a v k).testBit (a + k) with
  | false => simp
  | true => simpa using Nat.ge_two_pow_of_testBit h

set_option maxHeartbeats 1000000 in
theorem rSet_any (x v a c : Nat) (w : World) (hx : x < 18446744073709551616) (h1 : 1 ≤ c) (h2 : a + c ≤ 64) (hv : v < 2 ^ c) :
    Calls Try.prog 38 #[.int .u64 (x : Nat), .agg #[.int .i64 (a : Nat), .int .i64 (c : Nat)], .int .u64 (v : Nat)] w (Ret (.int .u64 ((Pl.set x a c v : Nat) : Int)) w) := by
  obtain ⟨w1, hw1, hb1, hs1, hcc⟩ := boxed w #[Value.int IntKind.i64 (a : Nat), Value.int IntKind.i64 (c : Nat)] 53
  have hc0 := hcc w1 0 _ (Below.refl _ _) rfl
  have hc1 := hcc w1 1 _ (Below.refl _ _) rfl
  have HC := hid hcc
  have E := hid (setGo_end x a c v h2 hx hv)
  have hv64 : v < 18446744073709551616 := Nat.lt_of_lt_of_le hv (Pl.pow_mono (b := 64) (by omega))
  clear hcc hs1 hv
  go_enter Try.func38, Try.ntmps38
  go_wp2
  go_loopg [7, 12] c (fun g o i wr => ∃ k m : Nat, g + k = c ∧ i = .int .i64 (k : Nat) ∧ o = .int .u64 (m : Nat) ∧ Hid (m = setGo x a v k) ∧ Below w1.heap.size w1 wr)
  case atStart => exact ⟨0, x, rfl, rfl, rfl, rfl, Below.refl _ _⟩
  case round =>
    obtain ⟨k, m, hk, rfl, rfl, hm, hb⟩ := hrel
    have HK := hid hk
    clear hk
    by_cases hlt : k < c
    · obtain ⟨p, hp⟩ : ∃ p : Nat, (a : Int) + (k : Int) = (p : Int) := ⟨a + k, rfl⟩
      have hpe : p = a + k := by omega
      have hp63 : p ≤ 63 := by omega
      have hk63 : k ≤ 63 := by omega
      have hpp := pw_pos p
      have hpp2 := pw_63 hp63
      have hml := setGo_lt x a v k (by omega) hx
      have hnl := setGo_lt x a v (k + 1) (by omega) hx
      have hge := setGo_ge x a v k
      have hst : setGo x a v (k + 1) = setGo x a v k - Pl.bit x (a + k) * 2 ^ (a + k) + Pl.bit v k * 2 ^ (a + k) := rfl
      rw [← hm.out] at hml hge hst
      rw [hst] at hnl
      rw [← hpe] at hst hnl hge
      change _ = m - Pl.bit x p * pw p + Pl.bit v k * pw p at hst
      change m - Pl.bit x p * pw p + Pl.bit v k * pw p < _ at hnl
      change Pl.bit x p * pw p ≤ m at hge
      obtain ⟨b, hbb⟩ : ∃ b, Pl.bit x p = b := ⟨_, rfl⟩
      obtain ⟨d, hbd⟩ : ∃ d, Pl.bit v k = d := ⟨_, rfl⟩
      have hb01 := bit_le x p
      have hd01 := bit_le v k
      rw [hbb] at hb01 hst hnl hge
      rw [hbd] at hd01 hst hnl
      have HS := hid hst
      have hd0 := fun y : Ext wr => HC.out y.v 0 _ (step hb y.b) rfl
      clear hst hpe hm
      go_upto_region 5 with (fail)
      refine wp_region_ext (by kernel_rfl) (by kernel_rfl) ?_
      rcases hb01 with rfl | rfl <;> rcases hd01 with rfl | rfl
      all_goals
        repeat (go_big_quiet_step (first | (go_at_call 41; exact ext_of (Bit_any _ _ _ (by assumption) (by assumption))) | (go_at_call 42; exact ext_of (Power_any p _ hp63))))
        refine wpQuiet_nil ?_
        rintro _ ⟨⟨w2, hb2⟩, rfl⟩
        go_wp2
        go_roundg (gk - 1)
        case measure => have := HK.out; omega
        case rel => exact ⟨k + 1, _, by have := HK.out; omega, by go_num, by rw [HS.out]; go_num, rfl, step hb hb2⟩
    · obtain rfl : k = c := by have := HK.out; omega
      have E2 := hid (hm.out.trans E.out)
      clear hm
      go_wp2
      go_ret
      exact ⟨by rw [E2.out]; rfl, step hb1 hb⟩
end Go.Proofs.Ytgigjfdgejajbaa
