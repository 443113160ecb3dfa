/- Several texts in one. -/
import Derived.Test.YtahicokokfcieaaDoorTgAg
import Derived.Test.YtahicokokfcieaaDoorTgAd
import Derived.Deep.WholeRow
import Derived.BigQuiet
import Derived.Test.YtahicokokfcieaaDoorTgAb
import Derived.Test.YtahicokokfcieaaDoorTgAf
namespace Go.Proofs.YtahicokokfcieaaDoor
open Go.RowKit
open Go.Proofs
set_option linter.unusedVariables false
attribute [local go_sem] Oper.semAt_some
theorem rot_low {x d : Nat} (hd : d ≤ 64) (hx : x < 2 ^ 64) : (x * 2 ^ d % 2 ^ 64 ||| x / 2 ^ (64 - d)) &&& (2 ^ d - 1) = x / 2 ^ (64 - d) := by
  have e1 : x * 2 ^ d % 2 ^ 64 = 2 ^ d * (x % 2 ^ (64 - d)) := by
    rw [Nat.mul_comm, show (2 : Nat) ^ 64 = 2 ^ d * 2 ^ (64 - d) by rw [← Nat.pow_add]; congr 1; omega, Nat.mul_mod_mul_left]
  have h2 : x / 2 ^ (64 - d) < 2 ^ d := by
    rw [Nat.div_lt_iff_lt_mul (Nat.two_pow_pos _), ← Nat.pow_add, show d + (64 - d) = 64 by omega]
    exact hx
  rw [e1, ← Nat.two_pow_add_eq_or_of_lt h2, Nat.and_two_pow_sub_one_eq_mod, Nat.mul_add_mod, Nat.mod_eq_of_lt h2]
theorem Rot2_any (x : Nat) (V : World) (hx : x < 18446744073709551616) : Calls Tryd.prog 70 #[.int .u64 ((x : Nat) : Int), .int .i64 2] V (Ret (.int .u64 ((((x * 4 % 18446744073709551616) ||| (x / 4611686018427387904) : Nat)) : Int)) V) := by
  have hb : bits BinOp.and IntKind.u64 2 63 = 2 := by rfl
  have e : bits BinOp.or IntKind.u64 (IntKind.u64.wrap (((x : Nat) : Int) * 4)) (((x : Nat) : Int) / 4611686018427387904) = ((((x * 4 % 18446744073709551616) ||| (x / 4611686018427387904) : Nat)) : Int) := by
    rw [IntKind.wrap_u64, show ((x : Nat) : Int) * 4 % 18446744073709551616 = ((x * 4 % 18446744073709551616 : Nat) : Int) by omega, show ((x : Nat) : Int) / 4611686018427387904 = ((x / 4611686018427387904 : Nat) : Int) by omega]
    exact u64_or_nat _ _ (Nat.mod_lt _ (by decide)) (by omega)
  go_enter Tryd.func70, Tryd.ntmps70
  go_wp2
  go_ret
  exact ⟨rfl, Below.refl _ _⟩
theorem at2_any (x : Nat) (V : World) (hx : x < 18446744073709551616) : Calls Tryd.prog 43 #[.int .u64 ((x : Nat) : Int), .int .i64 2] V (Ret (.int .i64 (((x / 4611686018427387904 : Nat)) : Int)) V) := by
  obtain ⟨r, hr⟩ : ∃ r, ((x * 4 % 18446744073709551616) ||| (x / 4611686018427387904)) = r := ⟨_, rfl⟩
  have HR := hid (fun W => Rot2_any x W hx)
  rw [hr] at HR
  have hq : x / 4611686018427387904 < 4 := by omega
  have e : bits BinOp.and IntKind.u64 ((r : Nat) : Int) 3 = (((x / 4611686018427387904 : Nat)) : Int) := by
    rw [show (3 : Int) = ((3 : Nat) : Int) from rfl, u64_and_nat _ _ (by rw [← hr]; exact Nat.or_lt_two_pow (n := 64) (Nat.mod_lt _ (by decide)) (by omega)) (by decide), ← hr]
    have := rot_low (x := x) (d := 2) (by decide) (by exact hx)
    rw [show (2 : Nat) ^ 2 = 4 from rfl, show (2 : Nat) ^ 64 = 18446744073709551616 from rfl, show (2 : Nat) ^ (64 - 2) = 4611686018427387904 from rfl] at this
    exact congrArg (fun n : Nat => (n : Int)) this
  obtain ⟨b, hb⟩ : ∃ b, x / 4611686018427387904 = b := ⟨_, rfl⟩
  rw [hb] at e hq ⊢
  clear hr hb
  go_enter Tryd.func43, Tryd.ntmps43
  go_upto_region 1 with (fail)
  refine wp_region_ext (by kernel_rfl) (by kernel_rfl) ?_
  repeat (go_big_quiet_step (exact ext_of (HR.out _)))
  refine wpQuiet_nil ?_
  rintro w8 ⟨x8, e8⟩
  have hb8 := hid x8.b
  rw [← e8] at hb8
  clear e8 x8
  go_wp2
  go_ret
  exact ⟨rfl, hb8.out⟩
theorem Rot3_any (x : Nat) (V : World) (hx : x < 18446744073709551616) : Calls Tryd.prog 70 #[.int .u64 ((x : Nat) : Int), .int .i64 3] V (Ret (.int .u64 ((((x * 8 % 18446744073709551616) ||| (x / 2305843009213693952) : Nat)) : Int)) V) := by
  have hb : bits BinOp.and IntKind.u64 3 63 = 3 := by rfl
  have e : bits BinOp.or IntKind.u64 (IntKind.u64.wrap (((x : Nat) : Int) * 8)) (((x : Nat) : Int) / 2305843009213693952) = ((((x * 8 % 18446744073709551616) ||| (x / 2305843009213693952) : Nat)) : Int) := by
    rw [IntKind.wrap_u64, show ((x : Nat) : Int) * 8 % 18446744073709551616 = ((x * 8 % 18446744073709551616 : Nat) : Int) by omega, show ((x : Nat) : Int) / 2305843009213693952 = ((x / 2305843009213693952 : Nat) : Int) by omega]
    exact u64_or_nat _ _ (Nat.mod_lt _ (by decide)) (by omega)
  go_enter Tryd.func70, Tryd.ntmps70
  go_wp2
  go_ret
  exact ⟨rfl, Below.refl _ _⟩
theorem at3_any (x : Nat) (V : World) (hx : x < 18446744073709551616) : Calls Tryd.prog 43 #[.int .u64 ((x : Nat) : Int), .int .i64 3] V (Ret (.int .i64 (((x / 2305843009213693952 : Nat)) : Int)) V) := by
  obtain ⟨r, hr⟩ : ∃ r, ((x * 8 % 18446744073709551616) ||| (x / 2305843009213693952)) = r := ⟨_, rfl⟩
  have HR := hid (fun W => Rot3_any x W hx)
  rw [hr] at HR
  have hq : x / 2305843009213693952 < 8 := by omega
  have e : bits BinOp.and IntKind.u64 ((r : Nat) : Int) 7 = (((x / 2305843009213693952 : Nat)) : Int) := by
    rw [show (7 : Int) = ((7 : Nat) : Int) from rfl, u64_and_nat _ _ (by rw [← hr]; exact Nat.or_lt_two_pow (n := 64) (Nat.mod_lt _ (by decide)) (by omega)) (by decide), ← hr]
    have := rot_low (x := x) (d := 3) (by decide) (by exact hx)
    rw [show (2 : Nat) ^ 3 = 8 from rfl, show (2 : Nat) ^ 64 = 18446744073709551616 from rfl, show (2 : Nat) ^ (64 - 3) = 2305843009213693952 from rfl] at this
    exact congrArg (fun n : Nat => (n : Int)) this
  obtain ⟨b, hb⟩ : ∃ b, x / 2305843009213693952 = b := ⟨_, rfl⟩
  rw [hb] at e hq ⊢
  clear hr hb
  go_enter Tryd.func43, Tryd.ntmps43
  go_upto_region 1 with (fail)
  refine wp_region_ext (by kernel_rfl) (by kernel_rfl) ?_
  repeat (go_big_quiet_step (exact ext_of (HR.out _)))
  refine wpQuiet_nil ?_
  rintro w8 ⟨x8, e8⟩
  have hb8 := hid x8.b
  rw [← e8] at hb8
  clear e8 x8
  go_wp2
  go_ret
  exact ⟨rfl, hb8.out⟩
theorem Rot4_any (x : Nat) (V : World) (hx : x < 18446744073709551616) : Calls Tryd.prog 70 #[.int .u64 ((x : Nat) : Int), .int .i64 4] V (Ret (.int .u64 ((((x * 16 % 18446744073709551616) ||| (x / 1152921504606846976) : Nat)) : Int)) V) := by
  have hb : bits BinOp.and IntKind.u64 4 63 = 4 := by rfl
  have e : bits BinOp.or IntKind.u64 (IntKind.u64.wrap (((x : Nat) : Int) * 16)) (((x : Nat) : Int) / 1152921504606846976) = ((((x * 16 % 18446744073709551616) ||| (x / 1152921504606846976) : Nat)) : Int) := by
    rw [IntKind.wrap_u64, show ((x : Nat) : Int) * 16 % 18446744073709551616 = ((x * 16 % 18446744073709551616 : Nat) : Int) by omega, show ((x : Nat) : Int) / 1152921504606846976 = ((x / 1152921504606846976 : Nat) : Int) by omega]
    exact u64_or_nat _ _ (Nat.mod_lt _ (by decide)) (by omega)
  go_enter Tryd.func70, Tryd.ntmps70
  go_wp2
  go_ret
  exact ⟨rfl, Below.refl _ _⟩
theorem at4_any (x : Nat) (V : World) (hx : x < 18446744073709551616) : Calls Tryd.prog 43 #[.int .u64 ((x : Nat) : Int), .int .i64 4] V (Ret (.int .i64 (((x / 1152921504606846976 : Nat)) : Int)) V) := by
  obtain ⟨r, hr⟩ : ∃ r, ((x * 16 % 18446744073709551616) ||| (x / 1152921504606846976)) = r := ⟨_, rfl⟩
  have HR := hid (fun W => Rot4_any x W hx)
  rw [hr] at HR
  have hq : x / 1152921504606846976 < 16 := by omega
  have e : bits BinOp.and IntKind.u64 ((r : Nat) : Int) 15 = (((x / 1152921504606846976 : Nat)) : Int) := by
    rw [show (15 : Int) = ((15 : Nat) : Int) from rfl, u64_and_nat _ _ (by rw [← hr]; exact Nat.or_lt_two_pow (n := 64) (Nat.mod_lt _ (by decide)) (by omega)) (by decide), ← hr]
    have := rot_low (x := x) (d := 4) (by decide) (by exact hx)
    rw [show (2 : Nat) ^ 4 = 16 from rfl, show (2 : Nat) ^ 64 = 18446744073709551616 from rfl, show (2 : Nat) ^ (64 - 4) = 1152921504606846976 from rfl] at this
    exact congrArg (fun n : Nat => (n : Int)) this
  obtain ⟨b, hb⟩ : ∃ b, x / 1152921504606846976 = b := ⟨_, rfl⟩
  rw [hb] at e hq ⊢
  clear hr hb
  go_enter Tryd.func43, Tryd.ntmps43
  go_upto_region 1 with (fail)
  refine wp_region_ext (by kernel_rfl) (by kernel_rfl) ?_
  repeat (go_big_quiet_step (exact ext_of (HR.out _)))
  refine wpQuiet_nil ?_
  rintro w8 ⟨x8, e8⟩
  have hb8 := hid x8.b
  rw [← e8] at hb8
  clear e8 x8
  go_wp2
  go_ret
  exact ⟨rfl, hb8.out⟩
/-- A key's bucket. -/
def ofN (key : Nat) (d : Nat) : Nat := hashN key / 2 ^ (64 - d)
theorem ofN_lt {key d : Nat} (hd : d ≤ 64) : ofN key d < 2 ^ d := by
  unfold ofN
  rw [Nat.div_lt_iff_lt_mul (Nat.two_pow_pos _), ← Nat.pow_add, show d + (64 - d) = 64 by omega]
  exact hashN_lt key
def ofV (key : Nat) (b : Int) : Value := match depZ b with
  | none => .tuple #[.int .i64 0, .int .i64 2]
  | some d => .tuple #[.int .i64 ((ofN key d : Nat) : Int), .int .i64 0]
theorem bat_any (x d : Nat) (V : World) (hx : x < 18446744073709551616) (h2 : 2 ≤ d) (h4 : d ≤ 4) : Calls Tryd.prog 43 #[.int .u64 ((x : Nat) : Int), .int .i64 ((d : Nat) : Int)] V (Ret (.int .i64 (((x / 2 ^ (64 - d) : Nat)) : Int)) V) := by
  rcases (by omega : d = 2 ∨ d = 3 ∨ d = 4) with rfl | rfl | rfl
  · exact at2_any x V hx
  · exact at3_any x V hx
  · exact at4_any x V hx
theorem Of_none (key : Nat) (b : Int) (V : World) (hb : -9223372036854775808 ≤ b ∧ b ≤ 9223372036854775807) (hd : depZ b = none) : Calls Tryd.prog 16 #[.int .u64 ((key : Nat) : Int), .int .i64 b] V (Ret (.tuple #[.int .i64 0, .int .i64 2]) V) := by
  have HD := hid (fun W => depths_any W)
  have hz : hasZ deps b = false := by rw [hasZ_deps, hd]; rfl
  obtain ⟨z, hzz⟩ : ∃ z, atZ deps b = z := ⟨_, rfl⟩
  clear hd
  go_enter Tryd.func16, Tryd.ntmps16
  go_wp2_with fail
  refine (HD.out V).mono ?_
  rintro e w2 ⟨m, rfl, hm, hb2⟩
  have HM := hid hm
  have HB := hid hb2
  clear hm hb2 HD
  go_wp2_with (refine wp_lookZ rfl (.tmp 9) (.tmp 10) 98 rfl Tryd.underlying98 m b deps rfl HM.out rfl hb ?_; rw [hz, hzz]; clear hz hzz)
  go_ret2
  exact ⟨rfl, HB.out⟩
theorem Of_some (key : Nat) (b : Int) (d : Nat) (V : World) (hb : -9223372036854775808 ≤ b ∧ b ≤ 9223372036854775807) (hd : depZ b = some d) : Calls Tryd.prog 16 #[.int .u64 ((key : Nat) : Int), .int .i64 b] V (Ret (.tuple #[.int .i64 ((ofN key d : Nat) : Int), .int .i64 0]) V) := by
  have HD := hid (fun W => depths_any W)
  have HH := hid (fun W => Hash_any key W)
  have hz : hasZ deps b = true := by rw [hasZ_deps, hd]; rfl
  obtain ⟨h1, h2, h3, -⟩ := atZ_deps hd
  have HA := hid (fun W => bat_any (hashN key) d W (hashN_lt _) h2 h3)
  clear hd
  have hf : hashN key / 2 ^ (64 - d) = ofN key d := rfl
  rw [hf] at HA
  clear hf
  go_enter Tryd.func16, Tryd.ntmps16
  go_wp2_with fail
  refine (HD.out V).mono ?_
  rintro e w2 ⟨m, rfl, hm, hb2⟩
  have HM := hid hm
  have HB := hid hb2
  clear hm hb2 HD
  go_wp2_with (refine wp_lookZ rfl (.tmp 9) (.tmp 10) 98 rfl Tryd.underlying98 m b deps rfl HM.out rfl hb ?_; rw [hz, h1]; clear hz h1)
  refine (HH.out w2).mono ?_
  rintro e w3 ⟨rfl, hb3⟩
  have HB3 := hid (HB.out.trans (hb3.mono HB.out.size))
  clear hb3
  go_wp2_with fail
  refine (HA.out w3).mono ?_
  rintro e w4 ⟨rfl, hb4⟩
  have HB4 := hid (HB3.out.trans (hb4.mono HB3.out.size))
  clear hb4
  go_wp2
  go_ret2
  exact ⟨rfl, HB4.out⟩
theorem Of_any (key : Nat) (b : Int) (V : World) (hb : -9223372036854775808 ≤ b ∧ b ≤ 9223372036854775807) : Calls Tryd.prog 16 #[.int .u64 ((key : Nat) : Int), .int .i64 b] V (Ret (ofV key b) V) := by
  cases hd : depZ b with
  | none => simp only [ofV, hd]; exact Of_none key b V hb hd
  | some d => simp only [ofV, hd]; exact Of_some key b d V hb hd
theorem may_any (b : Int) (V : World) (hb : -9223372036854775808 ≤ b ∧ b ≤ 9223372036854775807) : Calls Tryd.prog 31 #[.int .i64 b] V (Ret (.bool (depZ b).isSome) V) := by
  cases hd : depZ b with
  | none =>
    have HO := hid (Of_none 0 b V hb hd)
    clear hd
    show Calls _ _ _ _ (Ret (.bool false) V)
    go_enter Tryd.func31, Tryd.ntmps31
    go_wp2_with fail
    refine HO.out.mono ?_
    rintro e w2 ⟨rfl, hb2⟩
    have HB := hid hb2
    clear hb2 HO
    go_wp2
    go_ret
    exact ⟨rfl, HB.out⟩
  | some d =>
    have HO := hid (Of_some 0 b d V hb hd)
    clear hd
    show Calls _ _ _ _ (Ret (.bool true) V)
    go_enter Tryd.func31, Tryd.ntmps31
    go_wp2_with fail
    refine HO.out.mono ?_
    rintro e w2 ⟨rfl, hb2⟩
    have HB := hid hb2
    clear hb2 HO
    go_wp2
    go_ret
    exact ⟨rfl, HB.out⟩
end Go.Proofs.YtahicokokfcieaaDoor
namespace Go.Proofs.YtahicokokfcieaaDoor
open Go.RowKit
open Go.Proofs
set_option linter.unusedVariables false
def ap (f g : FieldI) : Bool := decide (g.1 + g.2 ≤ f.1 ∨ f.1 + f.2 ≤ g.1)
def apGo (done : List FieldI) : List FieldI → Bool
  | [] => true
  | f :: r => isF f.1 f.2 && done.all (ap f) && apGo (done ++ [f]) r
theorem isF_in {a c : Int} (h : isF a c = true) : 0 ≤ a ∧ 1 ≤ c ∧ a ≤ 64 ∧ c ≤ 64 ∧ a + c ≤ 64 := by simpa [isF] using h

/-- Check's own answer is that the fields lie apart. -/
theorem check_apGo : ∀ (fs done : List FieldI) (T : Nat), T < 18446744073709551616 → (∀ g ∈ done, isF g.1 g.2 = true) →
    (∀ i : Nat, T.testBit i = true ↔ ∃ g ∈ done, g.1 ≤ (i : Int) ∧ (i : Int) < g.1 + g.2) → checkGo (T : Int) fs = apGo done fs
  | [], done, T, _, _, _ => rfl
  | (fa, fc) :: r, done, T, hT, hd, hb => by
    unfold checkGo apGo
    dsimp only
    cases hif : isF fa fc with
    | false => rfl
    | true =>
      obtain ⟨a, c, rfl, rfl, h1, h2⟩ := isF_nat hif
      have hm := Pl.mask_lt a c h2
      have e1 : bits BinOp.and IntKind.u64 (T : Int) (maskI (a : Int) (c : Int)) = ((T &&& Pl.mask a c : Nat) : Int) := by rw [maskI_nat, u64_and_nat _ _ hT hm]
      have e2 : bits BinOp.or IntKind.u64 (T : Int) (maskI (a : Int) (c : Int)) = ((T ||| Pl.mask a c : Nat) : Int) := by rw [maskI_nat, u64_or_nat _ _ hT hm]
      rw [e1, e2]
      have hz : decide (((T &&& Pl.mask a c : Nat) : Int) = 0) = done.all (ap ((a : Int), (c : Int))) := by
        rw [Bool.eq_iff_iff, decide_eq_true_iff, List.all_eq_true]
        constructor
        · intro h g hg
          have h0 : T &&& Pl.mask a c = 0 := by omega
          obtain ⟨k1, k2, k3, k4, k5⟩ := isF_in (hd g hg)
          unfold ap
          refine decide_eq_true (Classical.not_not.1 fun hn => ?_)
          dsimp only at hn
          have hlt : ∃ i : Nat, (g.1 ≤ (i : Int) ∧ (i : Int) < g.1 + g.2) ∧ a ≤ i ∧ i < a + c := by
            rcases Classical.em (g.1 ≤ (a : Int)) with h | h
            · exact ⟨a, by omega, by omega, by omega⟩
            · exact ⟨g.1.toNat, by omega, by omega, by omega⟩
          obtain ⟨i, hi, hi2⟩ := hlt
          have hbit : (T &&& Pl.mask a c).testBit i = true := by
            rw [Nat.testBit_and, (hb i).2 ⟨g, hg, hi⟩, Pl.mask_bit, decide_eq_true hi2]; rfl
          rw [h0] at hbit
          simp at hbit
        · intro h
          have : T &&& Pl.mask a c = 0 := by
            apply Nat.eq_of_testBit_eq
            intro i
            rw [Nat.testBit_and, Pl.mask_bit, Nat.zero_testBit]
            cases ht : T.testBit i with
            | false => rfl
            | true =>
              obtain ⟨g, hg, hi⟩ := (hb i).1 ht
              have hh := of_decide_eq_true (h g hg)
              dsimp only at hh
              rw [Bool.true_and]
              exact decide_eq_false (by omega)
          omega
      rw [hz, check_apGo r (done ++ [((a : Int), (c : Int))]) (T ||| Pl.mask a c)]
      · exact Nat.or_lt_two_pow (n := 64) hT hm
      · intro g hg
        rw [List.mem_append] at hg
        rcases hg with hg | hg
        · exact hd g hg
        · simp at hg; subst hg; exact hif
      · intro i
        rw [Nat.testBit_or, Pl.mask_bit, Bool.or_eq_true, hb i, decide_eq_true_iff]
        constructor
        · rintro (⟨g, hg, h⟩ | h)
          · exact ⟨g, List.mem_append_left _ hg, h⟩
          · exact ⟨((a : Int), (c : Int)), by simp, by dsimp only; omega⟩
        · rintro ⟨g, hg, h⟩
          rw [List.mem_append] at hg
          rcases hg with hg | hg
          · exact .inl ⟨g, hg, h⟩
          · simp at hg; subst hg; exact .inr (by dsimp only at h; omega)
theorem check_is (fs : List FieldI) : checkGo 0 fs = apGo [] fs := check_apGo fs [] 0 (by decide) (fun g hg => by cases hg) (fun i => by simp)
theorem apGo_isF : ∀ (fs done : List FieldI), apGo done fs = true → ∀ f ∈ fs, isF f.1 f.2 = true
  | [], _, _, f, hf => by cases hf
  | g :: r, done, h, f, hf => by
    unfold apGo at h
    rw [Bool.and_eq_true, Bool.and_eq_true] at h
    rcases List.mem_cons.1 hf with rfl | hf
    · exact h.1.1
    · exact apGo_isF r _ h.2 f hf

/-- What a word has in fields. -/
def gets (x : Nat) (fs : List FieldI) : List Nat := fs.map fun f => Pl.get x f.1.toNat f.2.toNat
/-- A word with numbers in its fields; none: one of them does not fit. -/
def packGo (x : Nat) : List (FieldI × Nat) → Option Nat
  | [] => some x
  | (f, v) :: r => if v < 2 ^ f.2.toNat then packGo (Pl.set x f.1.toNat f.2.toNat v) r else none
def packV (fs : List FieldI) (vs : List Nat) : Value :=
  if apGo [] fs then (if vs.length = fs.length then (match packGo 0 (fs.zip vs) with | some p => .tuple #[.int .u64 (p : Int), .int .i64 0] | none => .tuple #[.int .u64 0, .int .i64 111]) else .tuple #[.int .u64 0, .int .i64 2]) else .tuple #[.int .u64 0, .int .i64 110]

theorem Split_no (x : Nat) (fs : List FieldI) (a : Option Addr) (cap : Nat) (w : World) (hl : Leads w a fs.length cap (fcells fs)) (hf : fok fs) (hn : fs.length ≤ 1000) (hno : apGo [] fs = false) :
    Calls Tryd.prog 29 #[.int .u64 (x : Nat), .slice a fs.length cap] w (Ret (.tuple #[.slice none 0 0, .int .i64 110]) w) := by
  obtain ⟨n, en⟩ : ∃ n, fs.length = n := ⟨_, rfl⟩
  have hC := fun y : World => fun h => check_any fs a cap y h hf hn
  rw [check_is, hno] at hC
  rw [en] at hl ⊢
  rw [en] at hC
  have HC := hid hC
  have HL := hid hl
  clear en hl hC hf hn hno
  go_enter Tryd.func29, Tryd.ntmps29
  go_wp2_with fail
  refine (HC.out _ HL.out).mono ?_
  rintro e w1 ⟨rfl, hb1⟩
  rw [show errOf false 110 = 110 from rfl]
  go_wp2
  go_ret2
  exact ⟨rfl, hb1⟩

set_option maxHeartbeats 1000000 in
theorem Split_ok (x : Nat) (fs : List FieldI) (a : Option Addr) (cap : Nat) (w : World) (hx : x < 18446744073709551616) (hl : Leads w a fs.length cap (fcells fs)) (hf : fok fs) (hn : fs.length ≤ 1000) (hyes : apGo [] fs = true) :
    Calls Tryd.prog 29 #[.int .u64 (x : Nat), .slice a fs.length cap] w (fun e w' => ∃ v, e = .returned (.tuple #[v, .int .i64 0]) ∧ w'.ownsRow w.heap.size 25 1 v fs.length (wcells (gets x fs)) ∧ Below w.heap.size w w') := by
  obtain ⟨n, en⟩ : ∃ n, fs.length = n := ⟨_, rfl⟩
  have hC := fun y : World => fun h => check_any fs a cap y h hf hn
  have hisf := apGo_isF fs [] hyes
  rw [check_is, hyes] at hC
  rw [en] at hl hn ⊢
  rw [en] at hC
  have HC := hid hC
  have H := hid hl
  have HISF := hid hisf
  have En := hid en
  have hnc := hl.1
  have hl2 := hl.len
  obtain ⟨hn1, hn2⟩ := hl2
  clear en hl hC hf hyes hisf
  go_enter Tryd.func29, Tryd.ntmps29
  go_wp2_with fail
  refine (HC.out _ H.out).mono ?_
  rintro e w1 ⟨rfl, hb1⟩
  rw [show errOf true 110 = 0 from rfl]
  go_wp2
  go_loopg [7, 17] n (fun g v i wr => ∃ k : Nat, g + k = n ∧ i = .int .i64 (k : Nat) ∧ wr.ownsRow w.heap.size 25 1 v k (wcells (gets x (fs.take k))) ∧ Below w.heap.size w wr)
  case atStart => exact ⟨0, rfl, rfl, World.ownsRow_nil _ _ _ _, hb1⟩
  case round =>
    obtain ⟨k, hk, rfl, hown, hb⟩ := hrel
    have HK := hid hk
    clear hk
    have hs := hb.size
    by_cases hlt : k < n
    · obtain ⟨_, _, ⟨h, _⟩ | ⟨b, off, rfl, h3, h4⟩⟩ := H.out
      · omega
      obtain ⟨⟨fa, fc⟩, hfk⟩ : ∃ f, fs[k]? = some f := ⟨_, List.getElem?_eq_getElem (by rw [En.out]; exact hlt)⟩
      have hif := HISF.out _ (List.mem_of_getElem? hfk)
      obtain ⟨p, c, rfl, rfl, hp1, hp2⟩ := isF_nat hif
      have hc0 : wr.cell? ⟨b, off + k * 2, none⟩ = some (.int .i64 (p : Nat)) := (hb.cell (by exact h3)).trans (h4 (k * 2) _ (flat_at _ 2 (fun _ => rfl) fs k 0 _ hfk (by omega)))
      have hc1 : wr.cell? ⟨b, off + k * 2 + 1, none⟩ = some (.int .i64 (c : Nat)) := (hb.cell (by exact h3)).trans (h4 (k * 2 + 1) _ (flat_at _ 2 (fun _ => rfl) fs k 1 _ hfk (by omega)))
      obtain ⟨wb, hwb, hbb, hsb, hcb⟩ := boxed wr #[Value.int IntKind.i64 (p : Nat), Value.int IntKind.i64 (c : Nat)] 78
      have hx0 := hcb wb 0 _ (Below.refl _ _) rfl
      have hx1 := hcb wb 1 _ (Below.refl _ _) rfl
      have hgets : wcells (gets x (fs.take k)) ++ [.int .u64 ((Pl.get x p c : Nat) : Int)] = wcells (gets x (fs.take (k + 1))) := by
        rw [take_snoc hfk]; simp [wcells, gets]
      have HG := hid hgets
      have HW := hid hown
      have H4 := hid h4
      clear hcb hfk hgets hown h4 hif hsb
      go_wp2_with fail
      refine (get_any p c x _ hp1 hp2 hx).mono ?_
      rintro e w2 ⟨rfl, hb2⟩
      obtain ⟨w3, hw3, hb3, hs3, hc3⟩ := boxed w2 #[.int .u64 ((Pl.get x p c : Nat) : Int)] 25
      have HC3 := hid hc3
      have hb5 := step (step hbb hb2) hb3
      have hs5 := hb5.size
      have hs4 : w.heap.size ≤ w3.heap.size := by omega
      clear hc3 hs3
      go_wp2_with ((with_reducible show wpList _ _ _ _ _ _); refine wp_append1 elemWords rfl (.tmp 21) (.tmp 26) rfl w.heap.size u7 k _ rfl (own_grow HW.out hb5) w2.heap.size [.int .u64 ((Pl.get x p c : Nat) : Int)] rfl rfl ?c1 ?c2 ?c3 ?c4 ?c5)
      case c1 =>
        intro j u hj
        exact HC3.out _ j u (Below.refl _ _) (by simpa using hj)
      case c2 => intro u hu; simp at hu; subst hu; rfl
      case c3 => omega
      case c4 => exact hs4
      case c5 =>
        intro v' w4 hown' hb4 hs6
        rw [HG.out] at hown'
        have HW' := hid hown'
        clear hown'
        go_wp2
        go_roundg (gk - 1)
        case measure => have := HK.out; omega
        case rel => exact ⟨k + 1, by have := HK.out; omega, by go_num, HW'.out, (step hb hb5).trans hb4⟩
    · obtain rfl : k = n := by have := HK.out; omega
      have e2 : fs.take k = fs := by rw [← En.out, List.take_length]
      rw [e2] at hown
      have HW := hid hown
      clear hown e2
      go_wp2
      go_ret2
      exact ⟨_, rfl, HW.out, hb⟩

/-- Numbers are put into fields, one behind the other. -/
theorem zip_drop (fs : List FieldI) (vs : List Nat) (k : Nat) (f : FieldI) (v : Nat) (hf : fs[k]? = some f) (hv : vs[k]? = some v) : (fs.zip vs).drop k = (f, v) :: (fs.zip vs).drop (k + 1) :=
  drop_at _ _ _ (by rw [List.getElem?_zip_eq_some]; exact ⟨hf, hv⟩)
theorem setV_yes (x a c v : Nat) (h1 : 1 ≤ c) (h2 : a + c ≤ 64) (hv : v < 2 ^ c) : setV x a c v = .tuple #[.int .u64 ((Pl.set x a c v : Nat) : Int), .int .i64 0] := by
  unfold setV isF
  rw [decide_eq_true (by omega), if_pos rfl]
  exact if_pos hv
theorem setV_big (x a c v : Nat) (h1 : 1 ≤ c) (h2 : a + c ≤ 64) (hv : ¬ v < 2 ^ c) : setV x a c v = .tuple #[.int .u64 0, .int .i64 111] := by
  unfold setV isF
  rw [decide_eq_true (by omega), if_pos rfl]
  exact if_neg hv
theorem setV_none (x : Nat) (a c : Int) (v : Nat) (h : isF a c = false) : setV x a c v = .tuple #[.int .u64 0, .int .i64 110] := by
  unfold setV; rw [h]; rfl

set_option maxHeartbeats 1000000 in
theorem Pack_any (fs : List FieldI) (vs : List Nat) (a : Option Addr) (cap : Nat) (a' : Option Addr) (cap' : Nat) (w : World) (hl : Leads w a fs.length cap (fcells fs)) (hf : fok fs) (hn : fs.length ≤ 1000) (hl' : Leads w a' vs.length cap' (wcells vs)) (hv : wok vs) :
    Calls Tryd.prog 30 #[.slice a fs.length cap, .slice a' vs.length cap'] w (Ret (packV fs vs) w) := by
  obtain ⟨n, en⟩ : ∃ n, fs.length = n := ⟨_, rfl⟩
  obtain ⟨m, em⟩ : ∃ m, vs.length = m := ⟨_, rfl⟩
  have hC := fun y : World => fun h => check_any fs a cap y h hf hn
  rw [check_is] at hC
  rw [en] at hl hn ⊢
  rw [en] at hC
  rw [em] at hl' ⊢
  have hl2 := hl.len
  obtain ⟨hn1, hn2⟩ := hl2
  have hm1 := hl'.len.1
  have H := hid hl
  have H' := hid hl'
  have HF := hid hf
  have HV := hid hv
  have En := hid en
  have Em := hid em
  cases hap : apGo [] fs with
  | false =>
    have e : packV fs vs = .tuple #[.int .u64 0, .int .i64 110] := by unfold packV; rw [hap]; rfl
    rw [e]
    rw [hap] at hC
    have HC := hid hC
    clear e en em hl hl' hC hf hv hap
    go_enter Tryd.func30, Tryd.ntmps30
    go_wp2_with fail
    refine (HC.out _ H.out).mono ?_
    rintro e w1 ⟨rfl, hb1⟩
    rw [show errOf false 110 = 110 from rfl]
    go_wp2
    go_ret2
    exact ⟨rfl, hb1⟩
  | true =>
    have hisf := apGo_isF fs [] hap
    have HISF := hid hisf
    rw [hap] at hC
    have HC := hid hC
    by_cases hmn : m = n
    · subst hmn
      have e : packV fs vs = match packGo 0 (fs.zip vs) with | some p => .tuple #[.int .u64 (p : Int), .int .i64 0] | none => .tuple #[.int .u64 0, .int .i64 111] := by unfold packV; rw [hap, en, em, if_pos rfl, if_pos rfl]
      have HE := hid e
      clear e en em hl hl' hC hf hv hap hisf
      go_enter Tryd.func30, Tryd.ntmps30
      go_wp2_with fail
      refine (HC.out _ H.out).mono ?_
      rintro e w1 ⟨rfl, hb1⟩
      rw [show errOf true 110 = 0 from rfl]
      go_wp2
      go_loopg [7, 24] m (fun g o i wr => ∃ k x : Nat, g + k = m ∧ i = .int .i64 (k : Nat) ∧ o = .int .u64 (x : Nat) ∧ x < 18446744073709551616 ∧ Hid (packGo 0 (fs.zip vs) = packGo x ((fs.zip vs).drop k)) ∧ Below w.heap.size w wr)
      case atStart => exact ⟨0, 0, rfl, rfl, rfl, by decide, rfl, hb1⟩
      case round =>
        obtain ⟨k, x, hk, rfl, rfl, hx, hpk, hb⟩ := hrel
        have HK := hid hk
        clear hk
        by_cases hlt : k < m
        · obtain ⟨_, _, ⟨h, _⟩ | ⟨b, off, rfl, h3, h4⟩⟩ := H.out
          · omega
          obtain ⟨_, _, ⟨h, _⟩ | ⟨b', off', rfl, h3', h4'⟩⟩ := H'.out
          · omega
          obtain ⟨⟨fa, fc⟩, hfk⟩ : ∃ f, fs[k]? = some f := ⟨_, List.getElem?_eq_getElem (by rw [En.out]; exact hlt)⟩
          obtain ⟨v, hvk⟩ : ∃ v, vs[k]? = some v := ⟨_, List.getElem?_eq_getElem (by rw [Em.out]; exact hlt)⟩
          have hif := HISF.out _ (List.mem_of_getElem? hfk)
          have hfb := HF.out _ (List.mem_of_getElem? hfk)
          have hvb := HV.out _ (List.mem_of_getElem? hvk)
          obtain ⟨p, c, rfl, rfl, hp1, hp2⟩ := isF_nat hif
          have hz := zip_drop fs vs k _ _ hfk hvk
          rw [hz] at hpk
          have hc0 : wr.cell? ⟨b, off + k * 2, none⟩ = some (.int .i64 (p : Nat)) := (hb.cell (by exact h3)).trans (h4 (k * 2) _ (flat_at _ 2 (fun _ => rfl) fs k 0 _ hfk (by omega)))
          have hc1 : wr.cell? ⟨b, off + k * 2 + 1, none⟩ = some (.int .i64 (c : Nat)) := (hb.cell (by exact h3)).trans (h4 (k * 2 + 1) _ (flat_at _ 2 (fun _ => rfl) fs k 1 _ hfk (by omega)))
          obtain ⟨wb, hwb, hbb, hsb, hcb⟩ := boxed wr #[Value.int IntKind.i64 (p : Nat), Value.int IntKind.i64 (c : Nat)] 78
          have hy := step hb hbb
          have hd0 := fun y : Ext wb => hcb y.v 0 _ y.b rfl
          have hd1 := fun y : Ext wb => hcb y.v 1 _ y.b rfl
          have hd2 : ∀ y : Ext wb, y.v.cell? ⟨b', off' + k, none⟩ = some (.int .u64 (v : Nat)) := fun y => ((step hy y.b).cell (by exact h3')).trans (h4' k _ (by unfold wcells; rw [List.getElem?_map, hvk]; rfl))
          have hfo : fok [((p : Int), (c : Int))] := by
            intro f hf
            simp at hf
            subst hf
            exact hfb
          have HFO := hid hfo
          have H4 := hid h4
          have H4' := hid h4'
          clear hcb hfk hvk h4 h4' hif hsb hz hfb hfo
          go_upto_region 10 with (fail)
          by_cases hvf : v < 2 ^ c
          · have hsv := setV_yes x p c v hp1 hp2 hvf
            have hnx : Pl.set x p c v < 18446744073709551616 := Pl.set_lt x p c v hp2 hx hvf
            have hpk2 : packGo 0 (fs.zip vs) = packGo (Pl.set x p c v) ((fs.zip vs).drop (k + 1)) := by
              rw [hpk.out, packGo]; exact if_pos hvf
            have HPK := hid hpk2
            have HSV := hid hsv
            clear hsv hpk hpk2 hvf
            refine wp_region_ext (by kernel_rfl) (by kernel_rfl) ?_
            repeat (go_big_quiet_step ((go_at_call 57; exact ext_of (HSV.out ▸ Set_any x v (p : Nat) (c : Nat) _ hx HFO.out))))
            refine wpQuiet_nil ?_
            rintro _ ⟨⟨w2, hb2⟩, rfl⟩
            go_wp2
            go_roundg (gk - 1)
            case measure => have := HK.out; omega
            case rel => exact ⟨k + 1, _, by have := HK.out; omega, by go_num, rfl, hnx, HPK, step hy hb2⟩
          · have hsv := setV_big x p c v hp1 hp2 hvf
            have hpk2 : packGo 0 (fs.zip vs) = none := by
              rw [hpk.out, packGo]; exact if_neg hvf
            have hres : packV fs vs = .tuple #[.int .u64 0, .int .i64 111] := by rw [HE.out, hpk2]
            have HRES := hid hres
            have HSV := hid hsv
            clear hsv hpk hpk2 hvf hres
            refine wp_region_ext (by kernel_rfl) (by kernel_rfl) ?_
            repeat (go_big_quiet_step ((go_at_call 57; exact ext_of (HSV.out ▸ Set_any x v (p : Nat) (c : Nat) _ hx HFO.out))))
            refine wpQuiet_nil ?_
            rintro _ ⟨⟨w2, hb2⟩, rfl⟩
            go_wp2
            go_ret2
            exact ⟨by rw [HRES.out]; rfl, step hy hb2⟩
        · obtain rfl : k = m := by have := HK.out; omega
          have hlen : (fs.zip vs).length = k := by rw [List.length_zip, En.out, Em.out]; omega
          have hres : packV fs vs = .tuple #[.int .u64 (x : Int), .int .i64 0] := by rw [HE.out, hpk.out, List.drop_of_length_le (by omega)]; rfl
          have HRES := hid hres
          clear hres hpk hlen
          go_wp2
          go_ret2
          exact ⟨by rw [HRES.out]; rfl, hb⟩
    · have e : packV fs vs = .tuple #[.int .u64 0, .int .i64 2] := by unfold packV; rw [hap, en, em, if_pos rfl, if_neg hmn]
      rw [e]
      have hne : (((m : Nat) : Int) != (n : Nat)) = true := by simp; omega
      clear e en em hl hl' hC hf hv hap hisf
      go_enter Tryd.func30, Tryd.ntmps30
      go_wp2_with fail
      refine (HC.out _ H.out).mono ?_
      rintro e w1 ⟨rfl, hb1⟩
      rw [show errOf true 110 = 0 from rfl]
      go_wp2
      go_ret2
      exact ⟨rfl, hb1⟩
end Go.Proofs.YtahicokokfcieaaDoor
namespace Go.Proofs.YtahicokokfcieaaDoor
open Go.RowKit
set_option linter.unusedVariables false
theorem wp_storeW {P : Program} {w : World} {ops : Array Oper} {rest : List Oper} {o : Oper} {a : Act} {Q : Exit → Act → World → Prop} (hgd : o.guard = none) (T : TypeId) (p x : Operand) (ho : o.op = .store T p x)
    (Y : Nat) (cur vs : Array Value) (hp : a.eval p = .pointer (some ⟨Y, 0, none⟩)) (hx : a.eval x = .agg vs) (e : TypeId) (hY : w.heap[Y]? = some (.cells cur e (0, 0))) (hi : (P.info? T).map (·.size) = some vs.size) (hs : cur.size = vs.size) (h1 : vs.all (·.oneCell') = true)
    (h : ∀ w', w'.heap[Y]? = some (.cells vs e (0, 0)) → (∀ (k : Nat) (o : Obj), k ≠ Y → w.heap[k]? = some o → w'.heap[k]? = some o) → (∀ (B : Nat) (w0 : World), B ≤ Y → Below B w0 w → Below B w0 w') → w.grownBy w' (some Y) → wpList P ops Q rest (a.put o.dst undef) w') : wpList P ops Q (o :: rest) a w := by
  refine wpList_plain hgd fun K hK => ?_
  have hr := run_storeVar_row w Y e T cur vs hY hi hs h1
  unfold Oper.wp
  simp only [execOp, ho, Instr.storeAt, Instr.sureAddr, hp, hx, Sem.run_bind, Sem.run_pure, Result.andThen_ok, hr]
  exact hK _ _ (h _ (setRow_heap w Y _ _ e _ hY) (fun k o hk ho => (setRow_other w Y k _ hk).trans ho) (fun B w0 hB hb => below_setRow hb hB _) ⟨rfl, rfl, rfl, by simp [World.setRow], fun k _ hk => setRow_other w Y k _ (fun e => hk (by rw [e]))⟩)
theorem wp_loadW {P : Program} {w : World} {ops : Array Oper} {rest : List Oper} {o : Oper} {a : Act} {Q : Exit → Act → World → Prop} (hgd : o.guard = none) (T : TypeId) (p : Operand) (ho : o.op = .load T p)
    (Y : Nat) (vs : Array Value) (hp : a.eval p = .pointer (some ⟨Y, 0, none⟩)) (e : TypeId) (hY : w.heap[Y]? = some (.cells vs e (0, 0))) (d : TypeDesc) (hu : P.underlying T = some d) (hd : (match d with | .struct _ | .array _ _ => true | _ => false) = true) (hi : (P.info? T).map (·.size) = some vs.size)
    (h : ∀ v, v = .agg vs → wpList P ops Q rest (a.put o.dst v) w) : wpList P ops Q (o :: rest) a w := by
  refine wpList_plain hgd fun K hK => ?_
  have hr := run_loadVar_row w Y e T vs (0, 0) d hY hu hd hi
  unfold Oper.wp
  simp only [execOp, ho, Instr.loadAt, Instr.sureAddr, hp, Sem.run_bind, Sem.run_pure, Result.andThen_ok, hr]
  exact hK _ _ (h _ rfl)
/-- .. where a guard asks for it. -/
theorem wp_loadG {P : Program} {w : World} {ops : Array Oper} {rest : List Oper} {o : Oper} {a : Act} {Q : Exit → Act → World → Prop} (hw : Region.wanted o (yielded ops a.tmps) = true) (T : TypeId) (p : Operand) (ho : o.op = .load T p)
    (Y : Nat) (vs : Array Value) (hp : a.eval p = .pointer (some ⟨Y, 0, none⟩)) (e : TypeId) (hY : w.heap[Y]? = some (.cells vs e (0, 0))) (d : TypeDesc) (hu : P.underlying T = some d) (hd : (match d with | .struct _ | .array _ _ => true | _ => false) = true) (hi : (P.info? T).map (·.size) = some vs.size)
    (h : ∀ v, v = .agg vs → wpList P ops Q rest (a.put o.dst v) w) : wpList P ops Q (o :: rest) a w := by
  refine wpList_step fun K hK => ?_
  rw [if_pos hw]
  have hr := run_loadVar_row w Y e T vs (0, 0) d hY hu hd hi
  unfold Oper.wp
  simp only [execOp, ho, Instr.loadAt, Instr.sureAddr, hp, Sem.run_bind, Sem.run_pure, Result.andThen_ok, hr]
  exact hK _ _ (h _ rfl)
/-- .. in a region that draws its order: in every world of a class. -/
theorem wpQuiet_loadW {P : Program} {ops : Array Oper} {C : World → Prop} {Q : Act → Prop} {rest : List Oper} {o : Oper} {a : Act} (hgd : o.guard = none) (T : TypeId) (p : Operand) (ho : o.op = .load T p)
    (Y : Nat) (vs : Array Value) (hp : a.eval p = .pointer (some ⟨Y, 0, none⟩)) (e : TypeId) (hY : ∀ w, C w → w.heap[Y]? = some (.cells vs e (0, 0))) (d : TypeDesc) (hu : P.underlying T = some d) (hd : (match d with | .struct _ | .array _ _ => true | _ => false) = true) (hi : (P.info? T).map (·.size) = some vs.size)
    (h : ∀ v, v = .agg vs → wpQuiet P ops C Q rest (a.put o.dst v)) : wpQuiet P ops C Q (o :: rest) a := by
  refine BigFrame.wpQuiet_want (by simp [Region.wanted, hgd]) fun K hK => ⟨.agg vs, fun w hw => ?_, hK _ (h _ rfl)⟩
  have hr := run_loadVar_row w Y e T vs (0, 0) d (hY w hw) hu hd hi
  unfold Oper.quietAt
  simp only [execOp, ho, Instr.loadAt, Instr.sureAddr, hp, Sem.run_bind, Sem.run_pure, Result.andThen_ok, hr]
  exact ⟨rfl, rfl⟩
end Go.Proofs.YtahicokokfcieaaDoor
