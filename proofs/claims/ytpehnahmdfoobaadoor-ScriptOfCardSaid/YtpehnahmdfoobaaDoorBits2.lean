/- The walks of package bits: what words have in fields. -/
import Derived.Test.YtpehnahmdfoobaaDoorBits1
import Derived.Test.YtpehnahmdfoobaaDoorPlain1
namespace Go.Proofs.YtpehnahmdfoobaaDoor
open Go.RowKit
open Go.Proofs
set_option linter.unusedVariables false

theorem onesI_nat (c : Nat) : onesI (c : Int) = ((2 ^ c - 1 : Nat) : Int) := by
  unfold onesI
  have := Pl.pow_pos c
  rw [Int.toNat_natCast, Int.natCast_sub this, Int.natCast_pow]; rfl
theorem maskI_nat (a c : Nat) : maskI (a : Int) (c : Int) = ((Pl.mask a c : Nat) : Int) := by
  unfold maskI Pl.mask
  rw [onesI_nat, Int.natCast_mul, Int.toNat_natCast, Int.natCast_pow]; rfl
theorem u64_div_pow (x n : Nat) : ((x : Int) / 2 ^ ((n : Int).toNat)) = ((x / 2 ^ n : Nat) : Int) := by
  rw [Int.toNat_natCast, Int.natCast_ediv, Int.natCast_pow]; rfl

theorem div_pow (x n : Nat) : ((x : Int) / 2 ^ n) = ((x / 2 ^ n : Nat) : Int) := by
  rw [Int.natCast_ediv, Int.natCast_pow]; rfl

theorem get_any (a c x : Nat) (w : World) (hc : 1 ≤ c) (h : a + c ≤ 64) (hx : x < 18446744073709551616) :
    Calls Tryd.prog 50 #[.agg #[.int .i64 (a : Nat), .int .i64 (c : Nat)], .int .u64 (x : Nat)] w (Ret (.int .u64 ((Pl.get x a c : Nat) : Int)) w) := by
  have h3 : (a : Int) < 64 := by omega
  have E := hid (bits_and_u64_nat x (Pl.mask a c) hx (Pl.mask_lt a c h))
  go_enter Tryd.func50, Tryd.ntmps50
  go_wp2
  obtain ⟨w1, hw1, hb, hs, hcc⟩ := boxed w #[Value.int IntKind.i64 (a : Nat), Value.int IntKind.i64 (c : Nat)] 92
  have hd := fun x : Ext w1 => hcc x.v 0 _ x.b rfl
  have hd1 := fun x : Ext w1 => hcc x.v 1 _ x.b rfl
  rw [hw1]; clear hw1 hcc
  refine wp_region_ext (by kernel_rfl) (by kernel_rfl) ?_
  repeat (go_big_quiet_step ((go_at_call 53; exact ext_of (mask_any _ _ _ (by omega) (by omega) (by omega)))))
  refine wpQuiet_nil ?_
  rintro _ ⟨⟨w2, hb2⟩, rfl⟩
  go_wp2
  go_ret
  refine ⟨?_, step hb hb2⟩
  show Ending.returned (.int .u64 (bits BinOp.and IntKind.u64 (↑x) (maskI ↑a ↑c) / 2 ^ a)) = _
  rw [maskI_nat, E.out, div_pow, Pl.and_mask]

/-- Get, of whatever field. -/
def getV (x : Nat) (fa fc : Int) : Value := if isF fa fc then .tuple #[.int .u64 ((Pl.get x fa.toNat fc.toNat : Nat) : Int), .int .i64 0] else .tuple #[.int .u64 0, .int .i64 110]
theorem check_one (fa fc : Int) : checkGo 0 [(fa, fc)] = isF fa fc := by
  have : bits .and .u64 0 (maskI fa fc) = 0 := by simp [bits, IntKind.wrap_u64]
  simp [checkGo, this]
theorem isF_nat {fa fc : Int} (h : isF fa fc = true) : ∃ a c : Nat, fa = a ∧ fc = c ∧ 1 ≤ c ∧ a + c ≤ 64 := by
  simp [isF] at h
  exact ⟨fa.toNat, fc.toNat, by omega, by omega, by omega, by omega⟩

theorem Get_any (x : Nat) (fa fc : Int) (w : World) (hx : x < 18446744073709551616) (hf : fok [(fa, fc)]) :
    Calls Tryd.prog 43 #[.int .u64 (x : Nat), .agg #[.int .i64 fa, .int .i64 fc]] w (Ret (getV x fa fc) w) := by
  obtain ⟨w1, hw1, hb1, hs1, hcc⟩ := boxed w #[Value.int IntKind.i64 fa, Value.int IntKind.i64 fc] 65
  have hc0 := hcc w1 0 _ (Below.refl _ _) rfl
  have hc1 := hcc w1 1 _ (Below.refl _ _) rfl
  have HC := hid hcc
  have HS := hid hs1
  obtain ⟨w2, hw2, hb2, hs2, hl⟩ := made w1 #[Value.int IntKind.i64 fa, Value.int IntKind.i64 fc] 65 1 (fcells [(fa, fc)]) (by decide) (fun i v h => by simpa [fcells] using h)
  have HL := hid hl
  clear hl hcc hs1
  cases hif : isF fa fc with
  | true =>
    obtain ⟨a, c, rfl, rfl, h1, h2⟩ := isF_nat hif
    have e : getV x a c = .tuple #[.int .u64 ((Pl.get x a c : Nat) : Int), .int .i64 0] := by simp [getV, hif]
    rw [e]
    clear e
    go_enter Tryd.func43, Tryd.ntmps43
    go_wp2_with fail
    refine (check_any _ _ _ _ HL.out hf (by simp)).mono ?_
    rw [check_one, hif]
    rintro e w3 ⟨rfl, hb3⟩
    have hd0 := HC.out w3 0 _ (step hb2 hb3) rfl
    have hd1 := HC.out w3 1 _ (step hb2 hb3) rfl
    go_wp2_with fail
    refine (get_any a c x _ h1 h2 hx).mono ?_
    rintro e w4 ⟨rfl, hb4⟩
    go_wp2
    go_ret2
    exact ⟨rfl, step (step (step hb1 hb2) hb3) hb4⟩
  | false =>
    have e : getV x fa fc = .tuple #[.int .u64 0, .int .i64 110] := by simp [getV, hif]
    rw [e]
    clear e
    go_enter Tryd.func43, Tryd.ntmps43
    go_wp2_with fail
    refine (check_any _ _ _ _ HL.out hf (by simp)).mono ?_
    rw [check_one, hif]
    rintro e w3 ⟨rfl, hb3⟩
    go_wp2
    go_ret2
    exact ⟨rfl, step (step hb1 hb2) hb3⟩
/-- Set, of whatever field. -/
def setV (x : Nat) (fa fc : Int) (v : Nat) : Value :=
  if isF fa fc then (if v < 2 ^ fc.toNat then .tuple #[.int .u64 ((Pl.set x fa.toNat fc.toNat v : Nat) : Int), .int .i64 0] else .tuple #[.int .u64 0, .int .i64 111]) else .tuple #[.int .u64 0, .int .i64 110]
theorem shl_in (v a c : Nat) (hv : v < 2 ^ c) (h : a + c ≤ 64) : v * 2 ^ a < 18446744073709551616 := by
  have h1 : v * 2 ^ a < 2 ^ c * 2 ^ a := Nat.mul_lt_mul_of_pos_right hv (Nat.pow_pos (by decide))
  rw [← Nat.pow_add] at h1
  have h2 := Pl.pow_mono (a := c + a) (b := 64) (by omega)
  omega
theorem set_walk (x a c v : Nat) (hx : x < 18446744073709551616) (hv : v < 2 ^ c) (h : a + c ≤ 64) :
    bits BinOp.or IntKind.u64 (bits BinOp.andNot IntKind.u64 (x : Int) (maskI (a : Int) (c : Int))) (IntKind.u64.wrap ((v : Int) * 2 ^ a)) = ((Pl.set x a c v : Nat) : Int) := by
  have h1 := shl_in v a c hv h
  have e : IntKind.u64.wrap ((v : Int) * 2 ^ a) = ((v * 2 ^ a : Nat) : Int) := by
    have e1 : (v : Int) * 2 ^ a = ((v * 2 ^ a : Nat) : Int) := by rw [Int.natCast_mul, Int.natCast_pow]; rfl
    rw [e1, IntKind.wrap_u64]; omega
  rw [e, maskI_nat, u64_andNot_nat _ _ hx (Pl.mask_lt a c h), u64_or_nat _ _ (Nat.lt_of_le_of_lt Nat.and_le_left hx) h1]
  rfl

theorem Set_any (x v : Nat) (fa fc : Int) (w : World) (hx : x < 18446744073709551616) (hf : fok [(fa, fc)]) :
    Calls Tryd.prog 51 #[.int .u64 (x : Nat), .agg #[.int .i64 fa, .int .i64 fc], .int .u64 (v : Nat)] w (Ret (setV x fa fc v) w) := by
  obtain ⟨w1, hw1, hb1, hs1, hcc⟩ := boxed w #[Value.int IntKind.i64 fa, Value.int IntKind.i64 fc] 65
  have hc0 := hcc w1 0 _ (Below.refl _ _) rfl
  have hc1 := hcc w1 1 _ (Below.refl _ _) rfl
  have HC := hid hcc
  obtain ⟨w2, hw2, hb2, hs2, hl⟩ := made w1 #[Value.int IntKind.i64 fa, Value.int IntKind.i64 fc] 65 1 (fcells [(fa, fc)]) (by decide) (fun i v h => by simpa [fcells] using h)
  have HL := hid hl
  clear hl hcc hs1
  cases hif : isF fa fc with
  | true =>
    obtain ⟨a, c, rfl, rfl, h1, h2⟩ := isF_nat hif
    by_cases hv : v < 2 ^ c
    · have e : setV x a c v = .tuple #[.int .u64 ((Pl.set x a c v : Nat) : Int), .int .i64 0] := by simp [setV, hif, hv]
      rw [e]
      clear e
      have h3 : (a : Int) < 64 := by omega
      have hle : (v : Int) ≤ onesI c := by rw [onesI_nat]; omega
      have E := hid (set_walk x a c v hx hv h2)
      clear hv
      go_enter Tryd.func51, Tryd.ntmps51
      go_wp2_with fail
      refine (check_any _ _ _ _ HL.out hf (by simp)).mono ?_
      rw [check_one, hif]
      rintro e w3 ⟨rfl, hb3⟩
      have hd0 := HC.out w3 0 _ (step hb2 hb3) rfl
      have hd1 := HC.out w3 1 _ (step hb2 hb3) rfl
      go_wp2_with fail
      refine (ones_any c _ (by omega) (by omega)).mono ?_
      rintro e w4 ⟨rfl, hb4⟩
      have hdd := fun x : Ext w4 => HC.out x.v 0 _ (step (step (step hb2 hb3) hb4) x.b) rfl
      have hdd1 := fun x : Ext w4 => HC.out x.v 1 _ (step (step (step hb2 hb3) hb4) x.b) rfl
      go_wp2_with fail
      refine wp_region_ext (by kernel_rfl) (by kernel_rfl) ?_
      repeat (go_big_quiet_step ((go_at_call 53; exact ext_of (mask_any _ _ _ (by omega) (by omega) (by omega)))))
      refine wpQuiet_nil ?_
      rintro _ ⟨⟨w5, hb5⟩, rfl⟩
      go_wp2
      go_ret2
      exact ⟨congrArg (fun q => Ending.returned (.tuple #[.int .u64 q, .int .i64 0])) E.out, step (step (step (step hb1 hb2) hb3) hb4) hb5⟩
    · have e : setV x a c v = .tuple #[.int .u64 0, .int .i64 111] := by simp [setV, hif, hv]
      rw [e]
      clear e
      have hle : onesI c < (v : Int) := by rw [onesI_nat]; have := Pl.pow_pos c; omega
      clear hv
      go_enter Tryd.func51, Tryd.ntmps51
      go_wp2_with fail
      refine (check_any _ _ _ _ HL.out hf (by simp)).mono ?_
      rw [check_one, hif]
      rintro e w3 ⟨rfl, hb3⟩
      have hd0 := HC.out w3 0 _ (step hb2 hb3) rfl
      have hd1 := HC.out w3 1 _ (step hb2 hb3) rfl
      go_wp2_with fail
      refine (ones_any c _ (by omega) (by omega)).mono ?_
      rintro e w4 ⟨rfl, hb4⟩
      go_wp2
      go_ret2
      exact ⟨rfl, step (step (step hb1 hb2) hb3) hb4⟩
  | false =>
    have e : setV x fa fc v = .tuple #[.int .u64 0, .int .i64 110] := by simp [setV, hif]
    rw [e]
    clear e
    go_enter Tryd.func51, Tryd.ntmps51
    go_wp2_with fail
    refine (check_any _ _ _ _ HL.out hf (by simp)).mono ?_
    rw [check_one, hif]
    rintro e w3 ⟨rfl, hb3⟩
    go_wp2
    go_ret2
    exact ⟨rfl, step (step hb1 hb2) hb3⟩
end Go.Proofs.YtpehnahmdfoobaaDoor
