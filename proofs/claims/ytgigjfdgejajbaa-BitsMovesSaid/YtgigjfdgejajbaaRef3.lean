/- The walks of the document's answer for layer 1: words that are moved, and turned; the highest bit. -/
import Derived.Test.YtgigjfdgejajbaaRef2
namespace Go.Proofs.Ytgigjfdgejajbaa
open Go.RowKit
open Go.Proofs
set_option linter.unusedVariables false

def rLeftV (x n : Nat) : Value := if x * pw n < 18446744073709551616 then .tuple #[.int .u64 ((x * pw n : Nat) : Int), .bool true] else .tuple #[.int .u64 0, .bool false]
theorem pw63_lt (y : Nat) : y < pw 63 ↔ y < 9223372036854775808 := Iff.rfl
theorem rLeft_any (x n : Nat) (w : World) (hx : x < 18446744073709551616) (hn : n ≤ 100) : Calls Try.prog 22 #[.int .u64 (x : Nat), .int .i64 (n : Nat)] w (Ret (rLeftV x n) w) := by
  go_enter Try.func22, Try.ntmps22
  go_wp2
  go_loopg [0, 7] n (fun g v i wr => ∃ k y : Nat, g + k = n ∧ i = .int .i64 (k : Nat) ∧ v = .int .u64 (y : Nat) ∧ y < 18446744073709551616 ∧ Hid (y = x * pw k) ∧ Below w.heap.size w wr)
  case atStart => exact ⟨0, x, rfl, rfl, rfl, hx, hid (by simp [pw]), Below.refl _ _⟩
  case round =>
    obtain ⟨k, y, hk, rfl, rfl, hy, hyk, hb⟩ := hrel
    have HK := hid hk
    clear hk
    by_cases hlt : k < n
    · have hpn : pw n = pw k * pw (n - k) := by unfold pw; rw [← Nat.pow_add]; congr 1; omega
      have hprod : x * pw n = y * pw (n - k) := by rw [hpn, ← Nat.mul_assoc, ← hyk.out]
      have hp2 : 2 ≤ pw (n - k) := pw_le (a := 1) (by omega)
      by_cases h0 : y = 0
      · subst h0
        have e : rLeftV x n = .tuple #[.int .u64 0, .bool true] := by unfold rLeftV; rw [hprod]; simp
        have E := hid e
        clear e hprod hpn hp2
        go_wp2
        go_ret2
        exact ⟨by rw [E.out]; rfl, hb⟩
      · have hne : (((y : Nat) : Int) == 0) = false := by simp; omega
        by_cases hg : y < 9223372036854775808
        · have hs : 2 * y = x * pw (k + 1) := by rw [pw_succ, hyk.out, ← Nat.mul_assoc, Nat.mul_comm 2 x, Nat.mul_assoc]
          have HS := hid hs
          have h2y : 2 * y < 18446744073709551616 := by omega
          have hg1 := (pw63_lt y).2 hg
          clear hs hprod hpn hp2 hyk h0 hg
          go_wp2_with fail
          refine (Power_any 63 _ (by decide)).mono ?_
          rintro e w1 ⟨rfl, hb1⟩
          go_wp2
          go_roundg (gk - 1)
          case measure => have := HK.out; omega
          case rel => exact ⟨k + 1, 2 * y, by have := HK.out; omega, by go_num, by go_num, h2y, HS, step hb hb1⟩
        · have e : rLeftV x n = .tuple #[.int .u64 0, .bool false] := by
            unfold rLeftV
            have : y * 2 ≤ y * pw (n - k) := Nat.mul_le_mul_left _ hp2
            rw [hprod, if_neg (by omega)]
          have E := hid e
          have hg' : pw 63 ≤ y := Nat.not_lt.1 (fun h => hg ((pw63_lt y).1 h))
          clear e hprod hpn hp2 hyk h0 hg
          go_wp2_with fail
          refine (Power_any 63 _ (by decide)).mono ?_
          rintro e w1 ⟨rfl, hb1⟩
          go_wp2
          go_ret2
          exact ⟨by rw [E.out]; rfl, step hb hb1⟩
    · have e : k = n := by have := HK.out; omega
      have e2 : rLeftV x n = .tuple #[.int .u64 (y : Nat), .bool true] := by unfold rLeftV; rw [← e, ← hyk.out, if_pos hy]
      have E := hid e2
      clear e2 hyk
      go_wp2
      go_ret2
      exact ⟨by rw [E.out]; rfl, hb⟩

theorem shr_succ (x k : Nat) : Pl.shr x (k + 1) = Pl.shr x k / 2 := by unfold Pl.shr; rw [Nat.pow_succ, Nat.div_div_eq_div_mul]
theorem shr_zero (x k n : Nat) (h : Pl.shr x k = 0) (hkn : k ≤ n) : Pl.shr x n = 0 := by
  unfold Pl.shr at *
  have h1 : x / 2 ^ n ≤ x / 2 ^ k := Nat.div_le_div_left (Pl.pow_mono hkn) (Pl.pow_pos k)
  rw [h] at h1
  exact Nat.eq_zero_of_le_zero h1
theorem rRight_any (x n : Nat) (w : World) (hx : x < 18446744073709551616) (hn : n ≤ 9223372036854775807) : Calls Try.prog 27 #[.int .u64 (x : Nat), .int .i64 (n : Nat)] w (Ret (.int .u64 ((Pl.shr x n : Nat) : Int)) w) := by
  go_enter Try.func27, Try.ntmps27
  go_wp2
  go_loopg [0, 5] n (fun g v i wr => ∃ k y : Nat, g + k = n ∧ i = .int .i64 (k : Nat) ∧ v = .int .u64 (y : Nat) ∧ y < 18446744073709551616 ∧ Hid (y = Pl.shr x k) ∧ w = wr)
  case atStart => exact ⟨0, x, rfl, rfl, rfl, hx, hid (by simp [Pl.shr]), rfl⟩
  case round =>
    obtain ⟨k, y, hk, rfl, rfl, hy, hyk, rfl⟩ := hrel
    have HK := hid hk
    clear hk
    by_cases hlt : k < n
    · by_cases h0 : y = 0
      · subst h0
        have e : Pl.shr x n = 0 := shr_zero x k n hyk.out.symm (by omega)
        have E := hid e
        clear e hyk
        go_wp2
        go_ret
        exact ⟨by rw [E.out]; rfl, Below.refl _ _⟩
      · obtain ⟨q, hq⟩ : ∃ q, y / 2 = q := ⟨_, rfl⟩
        have hq2 : ((y : Nat) : Int) / 2 = (q : Int) := by omega
        have hs : q = Pl.shr x (k + 1) := by rw [shr_succ, ← hyk.out, hq]
        have HS := hid hs
        have hy0 : 0 < y := by omega
        have hql : q < 18446744073709551616 := by omega
        clear hs hyk h0 hq
        go_wp2
        go_roundg (gk - 1)
        case measure => have := HK.out; omega
        case rel => exact ⟨k + 1, q, by have := HK.out; omega, by go_num, rfl, hql, HS, rfl⟩
    · have e : k = n := by have := HK.out; omega
      subst e
      have E := hid hyk.out
      clear hyk
      go_wp2
      all_goals go_ret
      all_goals exact ⟨by rw [← E.out]; rfl, Below.refl _ _⟩

theorem bitLen_half (y : Nat) (h : y < 18446744073709551616) (h0 : 0 < y) : Lib.bitLen y = 1 + Lib.bitLen (y / 2) := by
  have h2 : y / 2 < 18446744073709551616 := by omega
  have a := fun k => bitLen_le y k h
  have b := fun k => bitLen_le (y / 2) k h2
  have a0 := a 0
  have a1 := (a (1 + Lib.bitLen (y / 2))).2 (by have := (b (Lib.bitLen (y / 2))).1 (Nat.le_refl _); rw [Nat.add_comm, Nat.pow_succ]; omega)
  have b1 := (b (Lib.bitLen y - 1)).2 (by
    have h3 := (a (Lib.bitLen y)).1 (Nat.le_refl _)
    have h4 : 1 ≤ Lib.bitLen y := by simp at a0; omega
    rw [show Lib.bitLen y = (Lib.bitLen y - 1) + 1 by omega, Nat.pow_succ] at h3
    omega)
  simp at a0
  omega
theorem rLog_any (x : Nat) (w : World) (hx : x < 18446744073709551616) : Calls Try.prog 20 #[.int .u64 (x : Nat)] w (Ret (.int .i64 (logI x)) w) := by
  go_enter Try.func20, Try.ntmps20
  go_wp2
  go_loopg [0, 3] (Lib.bitLen x) (fun g v o wr => ∃ y j : Nat, v = .int .u64 (y : Nat) ∧ y < 18446744073709551616 ∧ o = .int .i64 ((j : Int) - 1) ∧ j ≤ 64 ∧ Hid (g = Lib.bitLen y) ∧ Hid (g + j = Lib.bitLen x) ∧ w = wr)
  case atStart => exact ⟨x, 0, rfl, hx, rfl, by decide, rfl, rfl, rfl⟩
  case round =>
    obtain ⟨y, j, rfl, hy, rfl, hj, hg, hgj, rfl⟩ := hrel
    by_cases h0 : y = 0
    · subst h0
      have e : logI x = (j : Int) - 1 := by
        unfold logI
        have h1 := hg.out
        have h2 := hgj.out
        have : Lib.bitLen 0 = 0 := rfl
        omega
      have E := hid e
      clear e
      go_wp2
      go_ret
      exact ⟨by rw [E.out]; rfl, Below.refl _ _⟩
    · obtain ⟨q, hq⟩ : ∃ q, y / 2 = q := ⟨_, rfl⟩
      have hq2 : ((y : Nat) : Int) / 2 = (q : Int) := by omega
      have hy0 : 0 < y := by omega
      have hh := bitLen_half y hy hy0
      have h64 := (bitLen_le x 64 hx).2 hx
      rw [hq] at hh
      have h1 : gk - 1 = Lib.bitLen q := by have := hg.out; omega
      have h2 : gk - 1 + (j + 1) = Lib.bitLen x := by have := hg.out; have := hgj.out; omega
      have h3 : gk - 1 < gk := by have := hg.out; omega
      have hql : q < 18446744073709551616 := by omega
      have hj63 : j + 1 ≤ 64 := by omega
      have H1 := hid h1
      have H2 := hid h2
      clear h1 h2 hh h64 hg hgj h0 hq
      go_wp2
      go_roundg (gk - 1)
      case measure => exact h3
      case rel => exact ⟨q, j + 1, rfl, hql, by go_num, hj63, H1, H2, rfl⟩

theorem turn_step (x k n : Nat) (hk : k < n) : turnL (bitsB x (k + 1)) * pw (n - (k + 1)) = turnL (bitsB x k) * pw (n - k) + Pl.bit x k * pw (n - 1 - k) := by
  rw [bitsB_succ, turnL_snoc, Pl.bit_eq]
  have e1 : pw (n - k) = 2 * pw (n - (k + 1)) := by rw [← pw_succ]; congr 1; omega
  have e2 : n - 1 - k = n - (k + 1) := by omega
  rw [e1, e2, Nat.add_mul]
  congr 1
  rw [Nat.mul_comm 2, Nat.mul_assoc]
theorem turn_lt (x k n : Nat) (hk : k ≤ n) (hn : n ≤ 64) : turnL (bitsB x k) * pw (n - k) < 18446744073709551616 := by
  have h1 := turnL_lt (bitsB x k)
  have h2 : (bitsB x k).length = k := by simp [bitsB]
  rw [h2] at h1
  have h3 : turnL (bitsB x k) * pw (n - k) < 2 ^ k * pw (n - k) := Nat.mul_lt_mul_of_pos_right h1 (by have := pw_pos (n - k); omega)
  have h4 : 2 ^ k * pw (n - k) = pw n := by unfold pw; rw [← Nat.pow_add]; congr 1; omega
  have h5 := pw_le hn
  have h6 : pw 64 = 18446744073709551616 := rfl
  omega
theorem rTurn_any (x n : Nat) (w : World) (hx : x < 18446744073709551616) (hn : n ≤ 64) : Calls Try.prog 25 #[.int .u64 (x : Nat), .int .i64 (n : Nat)] w (Ret (.int .u64 ((turnL (bitsB x n) : Nat) : Int)) w) := by
  go_enter Try.func25, Try.ntmps25
  go_wp2
  go_loopg [5, 8] n (fun g o i wr => ∃ k m : Nat, g + k = n ∧ i = .int .i64 (k : Nat) ∧ o = .int .u64 (m : Nat) ∧ Hid (m = turnL (bitsB x k) * pw (n - k)) ∧ Below w.heap.size w wr)
  case atStart => exact ⟨0, 0, rfl, rfl, rfl, hid (by simp [bitsB, turnL]), Below.refl _ _⟩
  case round =>
    obtain ⟨k, m, hk, rfl, rfl, hm, hb⟩ := hrel
    have HK := hid hk
    clear hk
    by_cases hlt : k < n
    · have hs := turn_step x k n hlt
      have hl := turn_lt x (k + 1) n hlt hn
      have hp := pw_63 (n := n - 1 - k) (by omega)
      rw [← hm.out] at hs
      rw [hs] at hl
      obtain ⟨q, hq⟩ : ∃ q, n - 1 - k = q := ⟨_, rfl⟩
      have hq2 : (n : Int) - 1 - (k : Int) = (q : Int) := by omega
      have hq63 : q ≤ 63 := by omega
      have hk63 : k ≤ 63 := by omega
      rw [hq] at hs hl hp
      rcases bit_le x k with hbit | hbit
      · rw [hbit, Nat.zero_mul, Nat.add_zero] at hs hl
        have HS := hid hs.symm
        have HB := hid hbit
        clear hs hbit hm hq
        go_wp2_with fail
        refine (Bit_any x k _ hx hk63).mono ?_
        rw [HB.out]
        rintro e w1 ⟨rfl, hb1⟩
        go_wp2_with fail
        refine (Power_any q _ hq63).mono ?_
        rintro e w2 ⟨rfl, hb2⟩
        go_wp2
        go_roundg (gk - 1)
        case measure => have := HK.out; omega
        case rel => exact ⟨k + 1, m, by have := HK.out; omega, by go_num, by go_num, HS, step (step hb hb1) hb2⟩
      · rw [hbit, Nat.one_mul] at hs hl
        have HS := hid hs.symm
        have HB := hid hbit
        clear hs hbit hm hq
        go_wp2_with fail
        refine (Bit_any x k _ hx hk63).mono ?_
        rw [HB.out]
        rintro e w1 ⟨rfl, hb1⟩
        go_wp2_with fail
        refine (Power_any q _ hq63).mono ?_
        rintro e w2 ⟨rfl, hb2⟩
        go_wp2
        go_roundg (gk - 1)
        case measure => have := HK.out; omega
        case rel => exact ⟨k + 1, m + pw q, by have := HK.out; omega, by go_num, by go_num, HS, step (step hb hb1) hb2⟩
    · have e : k = n := by have := HK.out; omega
      subst e
      have hm' : m = turnL (bitsB x k) := by rw [hm.out]; simp [pw]
      have HM := hid hm'
      clear hm hm'
      go_wp2
      go_ret
      exact ⟨by rw [← HM.out]; rfl, hb⟩
end Go.Proofs.Ytgigjfdgejajbaa
