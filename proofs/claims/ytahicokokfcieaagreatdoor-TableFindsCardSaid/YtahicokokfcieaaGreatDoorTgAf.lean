/- Several texts in one. -/
import Derived.Test.YtahicokokfcieaaGreatDoorTgAe
import Derived.Test.YtahicokokfcieaaGreatDoorTgAd
import Derived.Test.YtahicokokfcieaaGreatDoorTgAa
import Derived.Deep.DeepCutAuto
import Derived.Test.YtahicokokfcieaaGreatDoorTgAc
import Derived.Deep.WholeRow
import Derived.BigQuiet
import Derived.Test.YtahicokokfcieaaGreatDoorTgAb
namespace Go.Proofs.YtahicokokfcieaaGreatDoor.Pl
theorem pow_pos (n : Nat) : 1 ≤ 2 ^ n := Nat.one_le_two_pow
theorem pow_mono {a b : Nat} (h : a ≤ b) : 2 ^ a ≤ 2 ^ b := Nat.pow_le_pow_right (by decide) h
def mask (a c : Nat) : Nat := (2 ^ c - 1) * 2 ^ a
def get (x a c : Nat) : Nat := x / 2 ^ a % 2 ^ c
def bit (x i : Nat) : Nat := x / 2 ^ i % 2
/-- x with v in the field (a, c). -/
def set (x a c v : Nat) : Nat := (x &&& (18446744073709551615 - mask a c)) ||| (v * 2 ^ a)
theorem mask_bit (a c i : Nat) : (mask a c).testBit i = decide (a ≤ i ∧ i < a + c) := by
  unfold mask
  rw [Nat.testBit_mul_two_pow, Nat.testBit_two_pow_sub_one]
  by_cases h : a ≤ i
  · have : i - a < c ↔ i < a + c := by omega
    simp [h, this]
  · simp [h]
theorem mask_lt (a c : Nat) (h : a + c ≤ 64) : mask a c < 18446744073709551616 := by
  have : mask a c < 2 ^ 64 := Nat.lt_pow_two_of_testBit _ fun i hi => by rw [mask_bit]; simp; omega
  exact this
theorem get_bit (x a c i : Nat) : (get x a c).testBit i = (decide (i < c) && x.testBit (a + i)) := by
  unfold get
  rw [Nat.testBit_mod_two_pow, Nat.testBit_div_two_pow, Nat.add_comm]
theorem and_mask (x a c : Nat) : (x &&& mask a c) / 2 ^ a = get x a c := by
  apply Nat.eq_of_testBit_eq; intro i
  rw [Nat.testBit_div_two_pow, Nat.testBit_and, mask_bit, get_bit, Nat.add_comm a i]
  have e : (a ≤ i + a ∧ i + a < a + c) ↔ i < c := by omega
  simp only [e]; exact Bool.and_comm _ _
theorem lt_of_bits {x : Nat} (h : ∀ i, 64 ≤ i → x.testBit i = false) : x < 18446744073709551616 := Nat.lt_pow_two_of_testBit (n := 64) _ h
theorem bits_hi {x i : Nat} (h : x < 18446744073709551616) (hi : 64 ≤ i) : x.testBit i = false :=
  Nat.testBit_lt_two_pow (Nat.lt_of_lt_of_le h (pow_mono (a := 64) hi))
theorem not_bit (m i : Nat) (h : m < 18446744073709551616) : (18446744073709551615 - m).testBit i = (decide (i < 64) && !m.testBit i) := by
  have := Nat.testBit_two_pow_sub_succ (x := m) (n := 64) h i
  have e : 2 ^ 64 - (m + 1) = 18446744073709551615 - m := by omega
  rw [e] at this; exact this
theorem set_bit (x a c v i : Nat) (h : a + c ≤ 64) (hx : x < 18446744073709551616) (hv : v < 2 ^ c) :
    (set x a c v).testBit i = if a ≤ i ∧ i < a + c then v.testBit (i - a) else x.testBit i := by
  unfold set
  rw [Nat.testBit_or, Nat.testBit_and, not_bit _ _ (mask_lt a c h), mask_bit, Nat.testBit_mul_two_pow]
  by_cases h1 : a ≤ i ∧ i < a + c
  · simp [h1]
  · rw [if_neg h1]
    have h2 : (decide (a ≤ i) && v.testBit (i - a)) = false := by
      by_cases h3 : a ≤ i
      · have : v.testBit (i - a) = false := Nat.testBit_lt_two_pow (Nat.lt_of_lt_of_le hv (pow_mono (by omega)))
        simp [this]
      · simp [h3]
    rw [h2]
    by_cases h4 : i < 64
    · simp [h1, h4]
    · simp [bits_hi hx (by omega : 64 ≤ i)]
theorem set_lt (x a c v : Nat) (h : a + c ≤ 64) (hx : x < 18446744073709551616) (hv : v < 2 ^ c) : set x a c v < 18446744073709551616 :=
  lt_of_bits fun i hi => by rw [set_bit x a c v i h hx hv, if_neg (by omega)]; exact bits_hi hx hi
theorem parts (x p : Nat) : x = 2 ^ (p + 1) * (x / 2 ^ (p + 1)) + (2 ^ p * bit x p + x % 2 ^ p) := by
  have h1 := Nat.div_add_mod x (2 ^ p)
  have h2 := Nat.div_add_mod (x / 2 ^ p) 2
  have h3 : x / 2 ^ p / 2 = x / 2 ^ (p + 1) := by rw [Nat.div_div_eq_div_mul, Nat.pow_succ]
  have h4 : 2 ^ (p + 1) * (x / 2 ^ (p + 1)) = 2 ^ p * (2 * (x / 2 ^ p / 2)) := by rw [← h3, Nat.pow_succ, Nat.mul_assoc]
  unfold bit
  rw [h4, ← Nat.add_assoc, ← Nat.mul_add, h2, h1]
end Go.Proofs.YtahicokokfcieaaGreatDoor.Pl
namespace Go.Proofs.YtahicokokfcieaaGreatDoor
open Go.RowKit
open Go.Proofs
set_option linter.unusedVariables false
theorem onesI_nat (c : Nat) : onesI (c : Int) = ((2 ^ c - 1 : Nat) : Int) := by
  unfold onesI
  have := Pl.pow_pos c
  rw [Int.toNat_natCast, Int.natCast_sub this, Int.natCast_pow]; rfl
theorem maskI_nat (a c : Nat) : maskI (a : Int) (c : Int) = ((Pl.mask a c : Nat) : Int) := by
  unfold maskI Pl.mask
  rw [onesI_nat, Int.natCast_mul, Int.toNat_natCast, Int.natCast_pow]; rfl
theorem div_pow (x n : Nat) : ((x : Int) / 2 ^ n) = ((x / 2 ^ n : Nat) : Int) := by
  rw [Int.natCast_ediv, Int.natCast_pow]; rfl
theorem get_any (a c x : Nat) (w : World) (hc : 1 ≤ c) (h : a + c ≤ 64) (hx : x < 18446744073709551616) :
    Calls Tryz.prog 120 #[.agg #[.int .i64 (a : Nat), .int .i64 (c : Nat)], .int .u64 (x : Nat)] w (Ret (.int .u64 ((Pl.get x a c : Nat) : Int)) w) := by
  have h3 : (a : Int) < 64 := by omega
  have E := hid (bits_and_u64_nat x (Pl.mask a c) hx (Pl.mask_lt a c h))
  go_enter Tryz.func120, Tryz.ntmps120
  go_wp2
  obtain ⟨w1, hw1, hb, hs, hcc⟩ := boxed w #[Value.int IntKind.i64 (a : Nat), Value.int IntKind.i64 (c : Nat)] 208
  have hd := fun x : Ext w1 => hcc x.v 0 _ x.b rfl
  have hd1 := fun x : Ext w1 => hcc x.v 1 _ x.b rfl
  rw [hw1]; clear hw1 hcc
  refine wp_region_ext (by kernel_rfl) (by kernel_rfl) ?_
  repeat (go_big_quiet_step ((go_at_call 115; exact ext_of (mask_any _ _ _ (by omega) (by omega) (by omega)))))
  refine wpQuiet_nil ?_
  rintro _ ⟨⟨w2, hb2⟩, rfl⟩
  go_wp2
  go_ret
  refine ⟨?_, step hb hb2⟩
  show Ending.returned (.int .u64 (bits BinOp.and IntKind.u64 (↑x) (maskI ↑a ↑c) / 2 ^ a)) = _
  rw [maskI_nat, E.out, div_pow, Pl.and_mask]
theorem check_one (fa fc : Int) : checkGo 0 [(fa, fc)] = isF fa fc := by
  have : bits .and .u64 0 (maskI fa fc) = 0 := by simp [bits, IntKind.wrap_u64]
  simp [checkGo, this]
theorem isF_nat {fa fc : Int} (h : isF fa fc = true) : ∃ a c : Nat, fa = a ∧ fc = c ∧ 1 ≤ c ∧ a + c ≤ 64 := by
  simp [isF] at h
  exact ⟨fa.toNat, fc.toNat, by omega, by omega, by omega, by omega⟩
/-- Set, of whatever field. -/
def setV (x : Nat) (fa fc : Int) (v : Nat) : Value :=
  if isF fa fc then (if v < 2 ^ fc.toNat then .tuple #[.int .u64 ((Pl.set x fa.toNat fc.toNat v : Nat) : Int), .int .i64 0] else .tuple #[.int .u64 0, .int .i64 111]) else .tuple #[.int .u64 0, .int .i64 110]
theorem shl_in (v a c : Nat) (hv : v < 2 ^ c) (h : a + c ≤ 64) : v * 2 ^ a < 18446744073709551616 := by
  have h1 : v * 2 ^ a < 2 ^ c * 2 ^ a := Nat.mul_lt_mul_of_pos_right hv (Nat.pow_pos (by decide))
  rw [← Nat.pow_add] at h1
  have h2 := Pl.pow_mono (a := c + a) (b := 64) (by omega)
  omega
theorem set_walk (x a c v : Nat) (hx : x < 18446744073709551616) (hv : v < 2 ^ c) (h : a + c ≤ 64) :
    bits BinOp.or IntKind.u64 (bits BinOp.andNot IntKind.u64 (x : Int) (maskI (a : Int) (c : Int))) (IntKind.u64.wrap ((v : Int) * 2 ^ a)) = ((Pl.set x a c v : Nat) : Int) := by
  have h1 := shl_in v a c hv h
  have e : IntKind.u64.wrap ((v : Int) * 2 ^ a) = ((v * 2 ^ a : Nat) : Int) := by
    have e1 : (v : Int) * 2 ^ a = ((v * 2 ^ a : Nat) : Int) := by rw [Int.natCast_mul, Int.natCast_pow]; rfl
    rw [e1, IntKind.wrap_u64]; omega
  rw [e, maskI_nat, u64_andNot_nat _ _ hx (Pl.mask_lt a c h), u64_or_nat _ _ (Nat.lt_of_le_of_lt Nat.and_le_left hx) h1]
  rfl
theorem Set_any (x v : Nat) (fa fc : Int) (w : World) (hx : x < 18446744073709551616) (hf : fok [(fa, fc)]) :
    Calls Tryz.prog 93 #[.int .u64 (x : Nat), .agg #[.int .i64 fa, .int .i64 fc], .int .u64 (v : Nat)] w (Ret (setV x fa fc v) w) := by
  obtain ⟨w1, hw1, hb1, hs1, hcc⟩ := boxed w #[Value.int IntKind.i64 fa, Value.int IntKind.i64 fc] 142
  have hc0 := hcc w1 0 _ (Below.refl _ _) rfl
  have hc1 := hcc w1 1 _ (Below.refl _ _) rfl
  have HC := hid hcc
  obtain ⟨w2, hw2, hb2, hs2, hl⟩ := made w1 #[Value.int IntKind.i64 fa, Value.int IntKind.i64 fc] 142 1 (fcells [(fa, fc)]) (by decide) (fun i v h => by simpa [fcells] using h)
  have HL := hid hl
  clear hl hcc hs1
  cases hif : isF fa fc with
  | true =>
    obtain ⟨a, c, rfl, rfl, h1, h2⟩ := isF_nat hif
    by_cases hv : v < 2 ^ c
    · have e : setV x a c v = .tuple #[.int .u64 ((Pl.set x a c v : Nat) : Int), .int .i64 0] := by simp [setV, hif, hv]
      rw [e]
      clear e
      have h3 : (a : Int) < 64 := by omega
      have hle : (v : Int) ≤ onesI c := by rw [onesI_nat]; omega
      have E := hid (set_walk x a c v hx hv h2)
      clear hv
      go_enter Tryz.func93, Tryz.ntmps93
      go_wp2_with fail
      refine (check_any _ _ _ _ HL.out hf (by simp)).mono ?_
      rw [check_one, hif]
      rintro e w3 ⟨rfl, hb3⟩
      have hd0 := HC.out w3 0 _ (step hb2 hb3) rfl
      have hd1 := HC.out w3 1 _ (step hb2 hb3) rfl
      go_wp2_with fail
      refine (ones_any c _ (by omega) (by omega)).mono ?_
      rintro e w4 ⟨rfl, hb4⟩
      have hdd := fun x : Ext w4 => HC.out x.v 0 _ (step (step (step hb2 hb3) hb4) x.b) rfl
      have hdd1 := fun x : Ext w4 => HC.out x.v 1 _ (step (step (step hb2 hb3) hb4) x.b) rfl
      go_wp2_with fail
      refine wp_region_ext (by kernel_rfl) (by kernel_rfl) ?_
      repeat (go_big_quiet_step ((go_at_call 115; exact ext_of (mask_any _ _ _ (by omega) (by omega) (by omega)))))
      refine wpQuiet_nil ?_
      rintro _ ⟨⟨w5, hb5⟩, rfl⟩
      go_wp2
      go_ret2
      exact ⟨congrArg (fun q => Ending.returned (.tuple #[.int .u64 q, .int .i64 0])) E.out, step (step (step (step hb1 hb2) hb3) hb4) hb5⟩
    · have e : setV x a c v = .tuple #[.int .u64 0, .int .i64 111] := by simp [setV, hif, hv]
      rw [e]
      clear e
      have hle : onesI c < (v : Int) := by rw [onesI_nat]; have := Pl.pow_pos c; omega
      clear hv
      go_enter Tryz.func93, Tryz.ntmps93
      go_wp2_with fail
      refine (check_any _ _ _ _ HL.out hf (by simp)).mono ?_
      rw [check_one, hif]
      rintro e w3 ⟨rfl, hb3⟩
      have hd0 := HC.out w3 0 _ (step hb2 hb3) rfl
      have hd1 := HC.out w3 1 _ (step hb2 hb3) rfl
      go_wp2_with fail
      refine (ones_any c _ (by omega) (by omega)).mono ?_
      rintro e w4 ⟨rfl, hb4⟩
      go_wp2
      go_ret2
      exact ⟨rfl, step (step (step hb1 hb2) hb3) hb4⟩
  | false =>
    have e : setV x fa fc v = .tuple #[.int .u64 0, .int .i64 110] := by simp [setV, hif]
    rw [e]
    clear e
    go_enter Tryz.func93, Tryz.ntmps93
    go_wp2_with fail
    refine (check_any _ _ _ _ HL.out hf (by simp)).mono ?_
    rw [check_one, hif]
    rintro e w3 ⟨rfl, hb3⟩
    go_wp2
    go_ret2
    exact ⟨rfl, step (step hb1 hb2) hb3⟩
end Go.Proofs.YtahicokokfcieaaGreatDoor
namespace Go.Proofs.YtahicokokfcieaaGreatDoor
open Go.RowKit
open Go.Proofs
open Go.Maps (has size Tidy IsMap)
set_option linter.unusedVariables false
attribute [local go_sem] Oper.semAt_some
/-- What is read at a number, of a map that a call has made. -/
def atZ (l : List (Nat × Nat)) (z : Int) : Int := l.foldl (fun a p => if ((p.1 : Nat) : Int) = z then ((p.2 : Nat) : Int) else a) 0
def hasZ (l : List (Nat × Nat)) (z : Int) : Bool := l.any fun p => decide (((p.1 : Nat) : Int) = z)
theorem key_neZ {a b : Int} (h : a ≠ b) : (Lit.int .i64 a) ≠ (Lit.int .i64 b) := by
  intro e
  simp only [Lit.int.injEq, true_and] at e
  exact h e
theorem mapD_hasZ (l : List (Nat × Nat)) (z : Int) : has (mapDJ l) (.int .i64 z) = hasZ l z := by
  refine snocRec (p := fun l => has (mapDJ l) (.int .i64 z) = hasZ l z) rfl (fun l p h => ?_) l
  rw [mapD_snocJ]
  by_cases e : ((p.1 : Nat) : Int) = z
  · rw [← e, Maps.has_put_same (mapD_tidyJ l).isMap (isKeyJ _)]
    simp [hasZ]
  · rw [Maps.has_put_other (key_neZ (Ne.symm e)), h]
    simp [hasZ, e]
theorem mapD_atZ (l : List (Nat × Nat)) (z : Int) : (mapDJ l).atKey (.int .i64 z) (.lit (.int .i64 0)) = .lit (.int .i64 (atZ l z)) := by
  refine snocRec (p := fun l => (mapDJ l).atKey (.int .i64 z) (.lit (.int .i64 0)) = .lit (.int .i64 (atZ l z))) rfl (fun l p h => ?_) l
  have hs : atZ (l ++ [p]) z = if ((p.1 : Nat) : Int) = z then ((p.2 : Nat) : Int) else atZ l z := by simp [atZ, List.foldl_append]
  rw [mapD_snocJ, hs]
  by_cases e : ((p.1 : Nat) : Int) = z
  · rw [← e, Maps.atKey_put_same (mapD_tidyJ l).isMap (isKeyJ _), if_pos rfl]
  · rw [Maps.atKey_put_other (key_neZ (Ne.symm e)), h, if_neg e]
theorem wp_lookZ {w : World} {ops : Array Oper} {rest : List Oper} {o : Oper} {a : Act} {Q : Exit → Act → World → Prop} (hg : o.guard = none) (m x : Operand) (t : TypeId) (hop : o.op = Op.lookup t m x true) (ht : Tryz.prog.underlying t = some (.map 3 3))
    (b : Nat) (z : Int) (l : List (Nat × Nat)) (hm : a.eval m = .map (some b)) (hown : IdsJ w b l) (hx : a.eval x = .int .i64 z) (hz : -9223372036854775808 ≤ z ∧ z ≤ 9223372036854775807)
    (h : wpList Tryz.prog ops Q rest (a.put o.dst (.tuple #[.int .i64 (atZ l z), .bool (hasZ l z)])) w) : wpList Tryz.prog ops Q (o :: rest) a w := by
  have hw : (Lit.int .i64 z).wf = true := by
    simp [Lit.wf, IntKind.min, IntKind.max, IntKind.signed, IntKind.bits]
    omega
  refine wpList_lookup_own_ok_int w hg m x t hop 3 3 .i64 keyedUJ ht Tryz.underlying3 (by kernel_rfl) b l.length (mapDJ l) hm hown _ _ hx (Maps.keyOf_int_mk Tryz.underlying3 hw) ?_
  intro c hc _
  rw [mapD_atZ] at hc
  obtain rfl : c = atZ l z := by simp at hc; exact hc.symm
  rw [mapD_hasZ]
  exact h
/-- A pair of a map's literal. -/
theorem wp_insJ {w : World} {ops : Array Oper} {rest : List Oper} {o : Oper} {a : Act} {Q : Exit → Act → World → Prop} (hg : o.guard = none) (m x v : Operand) (t : TypeId) (hop : o.op = Op.insert t m x v) (ht : Tryz.prog.underlying t = some (.map 3 3))
    (b k u : Nat) (l : List (Nat × Nat)) (hm : a.eval m = .map (some b)) (hown : IdsJ w b l) (hl : l.length ≤ 100000) (hx : a.eval x = .int .i64 ((k : Nat) : Int)) (hv : a.eval v = .int .i64 ((u : Nat) : Int)) (hk : k < 9223372036854775808) (hu : u < 9223372036854775808)
    (base : Nat) (hb : base ≤ b) (h : ∀ w', IdsJ w' b (l ++ [(k, u)]) → Below base w w' → w.heap.size ≤ w'.heap.size → wpList Tryz.prog ops Q rest (a.put o.dst undef) w') : wpList Tryz.prog ops Q (o :: rest) a w := by
  refine wpList_plain hg fun K' hK' => ?_
  obtain ⟨w', hrun, r1, r2⟩ := World.ownsMap.update (R := plainElem Tryz.prog 3) hown keyedUJ ht (by unfold maxLen; omega) (keyUJ hk) (plainElem_int Tryz.underlying3 (wfUJ hu))
  unfold Oper.wp
  simp [execOp, hop, hm, hx, hv, hrun, Result.andThen]
  refine hK' _ _ (h w' ?_ (below_grownJ r2 hb (Nat.le_of_lt (Nat.lt_of_le_of_lt hb (World.ownsMap.lt hown)))) r2.size)
  unfold IdsJ
  rw [mapD_snocJ, List.length_append]
  exact r1
/-- A key's hash. -/
def hashN (k : Nat) : Nat := k * 11400714819323198485 % 18446744073709551616
theorem hashN_lt (k : Nat) : hashN k < 18446744073709551616 := Nat.mod_lt _ (by decide)
theorem Hash_any (k : Nat) (V : World) : Calls Tryz.prog 46 #[.int .u64 ((k : Nat) : Int)] V (Ret (.int .u64 ((hashN k : Nat) : Int)) V) := by
  have e : IntKind.u64.wrap (((k : Nat) : Int) * 11400714819323198485) = ((hashN k : Nat) : Int) := by
    unfold hashN
    rw [IntKind.wrap_u64]
    omega
  go_enter Tryz.func46, Tryz.ntmps46
  go_wp2
  go_ret
  exact ⟨rfl, Below.refl _ _⟩
/-- How many bits tell a bucket. -/
def depZ (b : Int) : Option Nat := if b = 4 then some 2 else if b = 8 then some 3 else if b = 16 then some 4 else none
def deps : List (Nat × Nat) := [(4, 2), (8, 3), (16, 4)]
theorem hasZ_deps (b : Int) : hasZ deps b = (depZ b).isSome := by
  unfold depZ hasZ deps
  by_cases h4 : b = 4
  · subst h4; rfl
  · by_cases h8 : b = 8
    · subst h8; rfl
    · by_cases h16 : b = 16
      · subst h16; rfl
      · rw [if_neg h4, if_neg h8, if_neg h16]
        simp
        omega
theorem atZ_deps {b : Int} {d : Nat} (h : depZ b = some d) : atZ deps b = ((d : Nat) : Int) ∧ 2 ≤ d ∧ d ≤ 4 ∧ b = ((2 ^ d : Nat) : Int) := by
  unfold depZ at h
  split at h
  · cases h; subst b; exact ⟨rfl, by decide, by decide, rfl⟩
  · split at h
    · cases h; subst b; exact ⟨rfl, by decide, by decide, rfl⟩
    · split at h
      · cases h; subst b; exact ⟨rfl, by decide, by decide, rfl⟩
      · cases h
theorem depths_any (V : World) : Calls Tryz.prog 98 #[] V (fun e W => ∃ b, e = .returned (.map (some b)) ∧ IdsJ W b deps ∧ Below V.heap.size V W) := by
  have hmm := @run_makeMap Tryz.prog
  obtain ⟨w1, hw1⟩ : ∃ x, V.alloc (.map #[] 0) = x := ⟨_, rfl⟩
  have hI := IdsJ.made V
  rw [hw1] at hI
  have hb1 : Below V.heap.size V w1 := by rw [← hw1]; exact (Below.refl _ _).alloc (Nat.le_refl _) _
  obtain ⟨B, hB⟩ : ∃ X, V.heap.size = X := ⟨_, rfl⟩
  rw [hB] at hI
  have hVB : V.heap.size ≤ B := by omega
  have HI := hid hI
  have HB := hid hb1
  clear hI hb1
  go_enter Tryz.func98, Tryz.ntmps98
  go_wp2_with (first
    | (refine wp_insJ rfl (.tmp 1) (.const (.int .i64 4)) (.const (.int .i64 2)) 186 rfl Tryz.underlying186 B 4 2 [] rfl HI.out (by decide) rfl rfl (by decide) (by decide) V.heap.size hVB ?_; intro w2 i2 b2 s2; have HI2 := hid i2; have HB2 := hid (HB.out.trans (b2.mono (Nat.le_refl _))); clear i2 b2 s2)
    | (refine wp_insJ rfl (.tmp 1) (.const (.int .i64 8)) (.const (.int .i64 3)) 186 rfl Tryz.underlying186 B 8 3 _ rfl HI2.out (by decide) rfl rfl (by decide) (by decide) V.heap.size hVB ?_; intro w3 i3 b3 s3; have HI3 := hid i3; have HB3 := hid (HB2.out.trans b3); clear i3 b3 s3)
    | (refine wp_insJ rfl (.tmp 1) (.const (.int .i64 16)) (.const (.int .i64 4)) 186 rfl Tryz.underlying186 B 16 4 _ rfl HI3.out (by decide) rfl rfl (by decide) (by decide) V.heap.size hVB ?_; intro w4 i4 b4 s4; have HI4 := hid i4; have HB4 := hid (HB3.out.trans b4); clear i4 b4 s4))
  go_ret
  exact ⟨B, rfl, HI4.out, HB4.out⟩
end Go.Proofs.YtahicokokfcieaaGreatDoor
namespace Go.Proofs.YtahicokokfcieaaGreatDoor
open Go.RowKit
open Go.Proofs
set_option linter.unusedVariables false
attribute [local go_sem] Oper.semAt_some
theorem rot_low {x d : Nat} (hd : d ≤ 64) (hx : x < 2 ^ 64) : (x * 2 ^ d % 2 ^ 64 ||| x / 2 ^ (64 - d)) &&& (2 ^ d - 1) = x / 2 ^ (64 - d) := by
  have e1 : x * 2 ^ d % 2 ^ 64 = 2 ^ d * (x % 2 ^ (64 - d)) := by
    rw [Nat.mul_comm, show (2 : Nat) ^ 64 = 2 ^ d * 2 ^ (64 - d) by rw [← Nat.pow_add]; congr 1; omega, Nat.mul_mod_mul_left]
  have h2 : x / 2 ^ (64 - d) < 2 ^ d := by
    rw [Nat.div_lt_iff_lt_mul (Nat.two_pow_pos _), ← Nat.pow_add, show d + (64 - d) = 64 by omega]
    exact hx
  rw [e1, ← Nat.two_pow_add_eq_or_of_lt h2, Nat.and_two_pow_sub_one_eq_mod, Nat.mul_add_mod, Nat.mod_eq_of_lt h2]
theorem Rot2_any (x : Nat) (V : World) (hx : x < 18446744073709551616) : Calls Tryz.prog 121 #[.int .u64 ((x : Nat) : Int), .int .i64 2] V (Ret (.int .u64 ((((x * 4 % 18446744073709551616) ||| (x / 4611686018427387904) : Nat)) : Int)) V) := by
  have hb : bits BinOp.and IntKind.u64 2 63 = 2 := by rfl
  have e : bits BinOp.or IntKind.u64 (IntKind.u64.wrap (((x : Nat) : Int) * 4)) (((x : Nat) : Int) / 4611686018427387904) = ((((x * 4 % 18446744073709551616) ||| (x / 4611686018427387904) : Nat)) : Int) := by
    rw [IntKind.wrap_u64, show ((x : Nat) : Int) * 4 % 18446744073709551616 = ((x * 4 % 18446744073709551616 : Nat) : Int) by omega, show ((x : Nat) : Int) / 4611686018427387904 = ((x / 4611686018427387904 : Nat) : Int) by omega]
    exact u64_or_nat _ _ (Nat.mod_lt _ (by decide)) (by omega)
  go_enter Tryz.func121, Tryz.ntmps121
  go_wp2
  go_ret
  exact ⟨rfl, Below.refl _ _⟩
theorem at2_any (x : Nat) (V : World) (hx : x < 18446744073709551616) : Calls Tryz.prog 99 #[.int .u64 ((x : Nat) : Int), .int .i64 2] V (Ret (.int .i64 (((x / 4611686018427387904 : Nat)) : Int)) V) := by
  obtain ⟨r, hr⟩ : ∃ r, ((x * 4 % 18446744073709551616) ||| (x / 4611686018427387904)) = r := ⟨_, rfl⟩
  have HR := hid (fun W => Rot2_any x W hx)
  rw [hr] at HR
  have hq : x / 4611686018427387904 < 4 := by omega
  have e : bits BinOp.and IntKind.u64 ((r : Nat) : Int) 3 = (((x / 4611686018427387904 : Nat)) : Int) := by
    rw [show (3 : Int) = ((3 : Nat) : Int) from rfl, u64_and_nat _ _ (by rw [← hr]; exact Nat.or_lt_two_pow (n := 64) (Nat.mod_lt _ (by decide)) (by omega)) (by decide), ← hr]
    have := rot_low (x := x) (d := 2) (by decide) (by exact hx)
    rw [show (2 : Nat) ^ 2 = 4 from rfl, show (2 : Nat) ^ 64 = 18446744073709551616 from rfl, show (2 : Nat) ^ (64 - 2) = 4611686018427387904 from rfl] at this
    exact congrArg (fun n : Nat => (n : Int)) this
  obtain ⟨b, hb⟩ : ∃ b, x / 4611686018427387904 = b := ⟨_, rfl⟩
  rw [hb] at e hq ⊢
  clear hr hb
  go_enter Tryz.func99, Tryz.ntmps99
  go_upto_region 1 with (fail)
  refine wp_region_ext (by kernel_rfl) (by kernel_rfl) ?_
  repeat (go_big_quiet_step (exact ext_of (HR.out _)))
  refine wpQuiet_nil ?_
  rintro w8 ⟨x8, e8⟩
  have hb8 := hid x8.b
  rw [← e8] at hb8
  clear e8 x8
  go_wp2
  go_ret
  exact ⟨rfl, hb8.out⟩
theorem Rot3_any (x : Nat) (V : World) (hx : x < 18446744073709551616) : Calls Tryz.prog 121 #[.int .u64 ((x : Nat) : Int), .int .i64 3] V (Ret (.int .u64 ((((x * 8 % 18446744073709551616) ||| (x / 2305843009213693952) : Nat)) : Int)) V) := by
  have hb : bits BinOp.and IntKind.u64 3 63 = 3 := by rfl
  have e : bits BinOp.or IntKind.u64 (IntKind.u64.wrap (((x : Nat) : Int) * 8)) (((x : Nat) : Int) / 2305843009213693952) = ((((x * 8 % 18446744073709551616) ||| (x / 2305843009213693952) : Nat)) : Int) := by
    rw [IntKind.wrap_u64, show ((x : Nat) : Int) * 8 % 18446744073709551616 = ((x * 8 % 18446744073709551616 : Nat) : Int) by omega, show ((x : Nat) : Int) / 2305843009213693952 = ((x / 2305843009213693952 : Nat) : Int) by omega]
    exact u64_or_nat _ _ (Nat.mod_lt _ (by decide)) (by omega)
  go_enter Tryz.func121, Tryz.ntmps121
  go_wp2
  go_ret
  exact ⟨rfl, Below.refl _ _⟩
theorem at3_any (x : Nat) (V : World) (hx : x < 18446744073709551616) : Calls Tryz.prog 99 #[.int .u64 ((x : Nat) : Int), .int .i64 3] V (Ret (.int .i64 (((x / 2305843009213693952 : Nat)) : Int)) V) := by
  obtain ⟨r, hr⟩ : ∃ r, ((x * 8 % 18446744073709551616) ||| (x / 2305843009213693952)) = r := ⟨_, rfl⟩
  have HR := hid (fun W => Rot3_any x W hx)
  rw [hr] at HR
  have hq : x / 2305843009213693952 < 8 := by omega
  have e : bits BinOp.and IntKind.u64 ((r : Nat) : Int) 7 = (((x / 2305843009213693952 : Nat)) : Int) := by
    rw [show (7 : Int) = ((7 : Nat) : Int) from rfl, u64_and_nat _ _ (by rw [← hr]; exact Nat.or_lt_two_pow (n := 64) (Nat.mod_lt _ (by decide)) (by omega)) (by decide), ← hr]
    have := rot_low (x := x) (d := 3) (by decide) (by exact hx)
    rw [show (2 : Nat) ^ 3 = 8 from rfl, show (2 : Nat) ^ 64 = 18446744073709551616 from rfl, show (2 : Nat) ^ (64 - 3) = 2305843009213693952 from rfl] at this
    exact congrArg (fun n : Nat => (n : Int)) this
  obtain ⟨b, hb⟩ : ∃ b, x / 2305843009213693952 = b := ⟨_, rfl⟩
  rw [hb] at e hq ⊢
  clear hr hb
  go_enter Tryz.func99, Tryz.ntmps99
  go_upto_region 1 with (fail)
  refine wp_region_ext (by kernel_rfl) (by kernel_rfl) ?_
  repeat (go_big_quiet_step (exact ext_of (HR.out _)))
  refine wpQuiet_nil ?_
  rintro w8 ⟨x8, e8⟩
  have hb8 := hid x8.b
  rw [← e8] at hb8
  clear e8 x8
  go_wp2
  go_ret
  exact ⟨rfl, hb8.out⟩
theorem Rot4_any (x : Nat) (V : World) (hx : x < 18446744073709551616) : Calls Tryz.prog 121 #[.int .u64 ((x : Nat) : Int), .int .i64 4] V (Ret (.int .u64 ((((x * 16 % 18446744073709551616) ||| (x / 1152921504606846976) : Nat)) : Int)) V) := by
  have hb : bits BinOp.and IntKind.u64 4 63 = 4 := by rfl
  have e : bits BinOp.or IntKind.u64 (IntKind.u64.wrap (((x : Nat) : Int) * 16)) (((x : Nat) : Int) / 1152921504606846976) = ((((x * 16 % 18446744073709551616) ||| (x / 1152921504606846976) : Nat)) : Int) := by
    rw [IntKind.wrap_u64, show ((x : Nat) : Int) * 16 % 18446744073709551616 = ((x * 16 % 18446744073709551616 : Nat) : Int) by omega, show ((x : Nat) : Int) / 1152921504606846976 = ((x / 1152921504606846976 : Nat) : Int) by omega]
    exact u64_or_nat _ _ (Nat.mod_lt _ (by decide)) (by omega)
  go_enter Tryz.func121, Tryz.ntmps121
  go_wp2
  go_ret
  exact ⟨rfl, Below.refl _ _⟩
theorem at4_any (x : Nat) (V : World) (hx : x < 18446744073709551616) : Calls Tryz.prog 99 #[.int .u64 ((x : Nat) : Int), .int .i64 4] V (Ret (.int .i64 (((x / 1152921504606846976 : Nat)) : Int)) V) := by
  obtain ⟨r, hr⟩ : ∃ r, ((x * 16 % 18446744073709551616) ||| (x / 1152921504606846976)) = r := ⟨_, rfl⟩
  have HR := hid (fun W => Rot4_any x W hx)
  rw [hr] at HR
  have hq : x / 1152921504606846976 < 16 := by omega
  have e : bits BinOp.and IntKind.u64 ((r : Nat) : Int) 15 = (((x / 1152921504606846976 : Nat)) : Int) := by
    rw [show (15 : Int) = ((15 : Nat) : Int) from rfl, u64_and_nat _ _ (by rw [← hr]; exact Nat.or_lt_two_pow (n := 64) (Nat.mod_lt _ (by decide)) (by omega)) (by decide), ← hr]
    have := rot_low (x := x) (d := 4) (by decide) (by exact hx)
    rw [show (2 : Nat) ^ 4 = 16 from rfl, show (2 : Nat) ^ 64 = 18446744073709551616 from rfl, show (2 : Nat) ^ (64 - 4) = 1152921504606846976 from rfl] at this
    exact congrArg (fun n : Nat => (n : Int)) this
  obtain ⟨b, hb⟩ : ∃ b, x / 1152921504606846976 = b := ⟨_, rfl⟩
  rw [hb] at e hq ⊢
  clear hr hb
  go_enter Tryz.func99, Tryz.ntmps99
  go_upto_region 1 with (fail)
  refine wp_region_ext (by kernel_rfl) (by kernel_rfl) ?_
  repeat (go_big_quiet_step (exact ext_of (HR.out _)))
  refine wpQuiet_nil ?_
  rintro w8 ⟨x8, e8⟩
  have hb8 := hid x8.b
  rw [← e8] at hb8
  clear e8 x8
  go_wp2
  go_ret
  exact ⟨rfl, hb8.out⟩
/-- A key's bucket. -/
def ofN (key : Nat) (d : Nat) : Nat := hashN key / 2 ^ (64 - d)
theorem ofN_lt {key d : Nat} (hd : d ≤ 64) : ofN key d < 2 ^ d := by
  unfold ofN
  rw [Nat.div_lt_iff_lt_mul (Nat.two_pow_pos _), ← Nat.pow_add, show d + (64 - d) = 64 by omega]
  exact hashN_lt key
theorem bat_any (x d : Nat) (V : World) (hx : x < 18446744073709551616) (h2 : 2 ≤ d) (h4 : d ≤ 4) : Calls Tryz.prog 99 #[.int .u64 ((x : Nat) : Int), .int .i64 ((d : Nat) : Int)] V (Ret (.int .i64 (((x / 2 ^ (64 - d) : Nat)) : Int)) V) := by
  rcases (by omega : d = 2 ∨ d = 3 ∨ d = 4) with rfl | rfl | rfl
  · exact at2_any x V hx
  · exact at3_any x V hx
  · exact at4_any x V hx
theorem Of_none (key : Nat) (b : Int) (V : World) (hb : -9223372036854775808 ≤ b ∧ b ≤ 9223372036854775807) (hd : depZ b = none) : Calls Tryz.prog 80 #[.int .u64 ((key : Nat) : Int), .int .i64 b] V (Ret (.tuple #[.int .i64 0, .int .i64 2]) V) := by
  have HD := hid (fun W => depths_any W)
  have hz : hasZ deps b = false := by rw [hasZ_deps, hd]; rfl
  obtain ⟨z, hzz⟩ : ∃ z, atZ deps b = z := ⟨_, rfl⟩
  clear hd
  go_enter Tryz.func80, Tryz.ntmps80
  go_wp2_with fail
  refine (HD.out V).mono ?_
  rintro e w2 ⟨m, rfl, hm, hb2⟩
  have HM := hid hm
  have HB := hid hb2
  clear hm hb2 HD
  go_wp2_with (refine wp_lookZ rfl (.tmp 9) (.tmp 10) 186 rfl Tryz.underlying186 m b deps rfl HM.out rfl hb ?_; rw [hz, hzz]; clear hz hzz)
  go_ret2
  exact ⟨rfl, HB.out⟩
theorem Of_some (key : Nat) (b : Int) (d : Nat) (V : World) (hb : -9223372036854775808 ≤ b ∧ b ≤ 9223372036854775807) (hd : depZ b = some d) : Calls Tryz.prog 80 #[.int .u64 ((key : Nat) : Int), .int .i64 b] V (Ret (.tuple #[.int .i64 ((ofN key d : Nat) : Int), .int .i64 0]) V) := by
  have HD := hid (fun W => depths_any W)
  have HH := hid (fun W => Hash_any key W)
  have hz : hasZ deps b = true := by rw [hasZ_deps, hd]; rfl
  obtain ⟨h1, h2, h3, -⟩ := atZ_deps hd
  have HA := hid (fun W => bat_any (hashN key) d W (hashN_lt _) h2 h3)
  clear hd
  have hf : hashN key / 2 ^ (64 - d) = ofN key d := rfl
  rw [hf] at HA
  clear hf
  go_enter Tryz.func80, Tryz.ntmps80
  go_wp2_with fail
  refine (HD.out V).mono ?_
  rintro e w2 ⟨m, rfl, hm, hb2⟩
  have HM := hid hm
  have HB := hid hb2
  clear hm hb2 HD
  go_wp2_with (refine wp_lookZ rfl (.tmp 9) (.tmp 10) 186 rfl Tryz.underlying186 m b deps rfl HM.out rfl hb ?_; rw [hz, h1]; clear hz h1)
  refine (HH.out w2).mono ?_
  rintro e w3 ⟨rfl, hb3⟩
  have HB3 := hid (HB.out.trans (hb3.mono HB.out.size))
  clear hb3
  go_wp2_with fail
  refine (HA.out w3).mono ?_
  rintro e w4 ⟨rfl, hb4⟩
  have HB4 := hid (HB3.out.trans (hb4.mono HB3.out.size))
  clear hb4
  go_wp2
  go_ret2
  exact ⟨rfl, HB4.out⟩
theorem may_any (b : Int) (V : World) (hb : -9223372036854775808 ≤ b ∧ b ≤ 9223372036854775807) : Calls Tryz.prog 74 #[.int .i64 b] V (Ret (.bool (depZ b).isSome) V) := by
  cases hd : depZ b with
  | none =>
    have HO := hid (Of_none 0 b V hb hd)
    clear hd
    show Calls _ _ _ _ (Ret (.bool false) V)
    go_enter Tryz.func74, Tryz.ntmps74
    go_wp2_with fail
    refine HO.out.mono ?_
    rintro e w2 ⟨rfl, hb2⟩
    have HB := hid hb2
    clear hb2 HO
    go_wp2
    go_ret
    exact ⟨rfl, HB.out⟩
  | some d =>
    have HO := hid (Of_some 0 b d V hb hd)
    clear hd
    show Calls _ _ _ _ (Ret (.bool true) V)
    go_enter Tryz.func74, Tryz.ntmps74
    go_wp2_with fail
    refine HO.out.mono ?_
    rintro e w2 ⟨rfl, hb2⟩
    have HB := hid hb2
    clear hb2 HO
    go_wp2
    go_ret
    exact ⟨rfl, HB.out⟩
end Go.Proofs.YtahicokokfcieaaGreatDoor
namespace Go.Proofs.YtahicokokfcieaaGreatDoor
open Go.RowKit
open Go.Proofs
set_option linter.unusedVariables false
def ap (f g : FieldI) : Bool := decide (g.1 + g.2 ≤ f.1 ∨ f.1 + f.2 ≤ g.1)
def apGo (done : List FieldI) : List FieldI → Bool
  | [] => true
  | f :: r => isF f.1 f.2 && done.all (ap f) && apGo (done ++ [f]) r
theorem isF_in {a c : Int} (h : isF a c = true) : 0 ≤ a ∧ 1 ≤ c ∧ a ≤ 64 ∧ c ≤ 64 ∧ a + c ≤ 64 := by simpa [isF] using h
/-- Check's own answer is that the fields lie apart. -/
theorem check_apGo : ∀ (fs done : List FieldI) (T : Nat), T < 18446744073709551616 → (∀ g ∈ done, isF g.1 g.2 = true) →
    (∀ i : Nat, T.testBit i = true ↔ ∃ g ∈ done, g.1 ≤ (i : Int) ∧ (i : Int) < g.1 + g.2) → checkGo (T : Int) fs = apGo done fs
  | [], done, T, _, _, _ => rfl
  | (fa, fc) :: r, done, T, hT, hd, hb => by
    unfold checkGo apGo
    dsimp only
    cases hif : isF fa fc with
    | false => rfl
    | true =>
      obtain ⟨a, c, rfl, rfl, h1, h2⟩ := isF_nat hif
      have hm := Pl.mask_lt a c h2
      have e1 : bits BinOp.and IntKind.u64 (T : Int) (maskI (a : Int) (c : Int)) = ((T &&& Pl.mask a c : Nat) : Int) := by rw [maskI_nat, u64_and_nat _ _ hT hm]
      have e2 : bits BinOp.or IntKind.u64 (T : Int) (maskI (a : Int) (c : Int)) = ((T ||| Pl.mask a c : Nat) : Int) := by rw [maskI_nat, u64_or_nat _ _ hT hm]
      rw [e1, e2]
      have hz : decide (((T &&& Pl.mask a c : Nat) : Int) = 0) = done.all (ap ((a : Int), (c : Int))) := by
        rw [Bool.eq_iff_iff, decide_eq_true_iff, List.all_eq_true]
        constructor
        · intro h g hg
          have h0 : T &&& Pl.mask a c = 0 := by omega
          obtain ⟨k1, k2, k3, k4, k5⟩ := isF_in (hd g hg)
          unfold ap
          refine decide_eq_true (Classical.not_not.1 fun hn => ?_)
          dsimp only at hn
          have hlt : ∃ i : Nat, (g.1 ≤ (i : Int) ∧ (i : Int) < g.1 + g.2) ∧ a ≤ i ∧ i < a + c := by
            rcases Classical.em (g.1 ≤ (a : Int)) with h | h
            · exact ⟨a, by omega, by omega, by omega⟩
            · exact ⟨g.1.toNat, by omega, by omega, by omega⟩
          obtain ⟨i, hi, hi2⟩ := hlt
          have hbit : (T &&& Pl.mask a c).testBit i = true := by
            rw [Nat.testBit_and, (hb i).2 ⟨g, hg, hi⟩, Pl.mask_bit, decide_eq_true hi2]; rfl
          rw [h0] at hbit
          simp at hbit
        · intro h
          have : T &&& Pl.mask a c = 0 := by
            apply Nat.eq_of_testBit_eq
            intro i
            rw [Nat.testBit_and, Pl.mask_bit, Nat.zero_testBit]
            cases ht : T.testBit i with
            | false => rfl
            | true =>
              obtain ⟨g, hg, hi⟩ := (hb i).1 ht
              have hh := of_decide_eq_true (h g hg)
              dsimp only at hh
              rw [Bool.true_and]
              exact decide_eq_false (by omega)
          omega
      rw [hz, check_apGo r (done ++ [((a : Int), (c : Int))]) (T ||| Pl.mask a c)]
      · exact Nat.or_lt_two_pow (n := 64) hT hm
      · intro g hg
        rw [List.mem_append] at hg
        rcases hg with hg | hg
        · exact hd g hg
        · simp at hg; subst hg; exact hif
      · intro i
        rw [Nat.testBit_or, Pl.mask_bit, Bool.or_eq_true, hb i, decide_eq_true_iff]
        constructor
        · rintro (⟨g, hg, h⟩ | h)
          · exact ⟨g, List.mem_append_left _ hg, h⟩
          · exact ⟨((a : Int), (c : Int)), by simp, by dsimp only; omega⟩
        · rintro ⟨g, hg, h⟩
          rw [List.mem_append] at hg
          rcases hg with hg | hg
          · exact .inl ⟨g, hg, h⟩
          · simp at hg; subst hg; exact .inr (by dsimp only at h; omega)
theorem check_is (fs : List FieldI) : checkGo 0 fs = apGo [] fs := check_apGo fs [] 0 (by decide) (fun g hg => by cases hg) (fun i => by simp)
theorem apGo_isF : ∀ (fs done : List FieldI), apGo done fs = true → ∀ f ∈ fs, isF f.1 f.2 = true
  | [], _, _, f, hf => by cases hf
  | g :: r, done, h, f, hf => by
    unfold apGo at h
    rw [Bool.and_eq_true, Bool.and_eq_true] at h
    rcases List.mem_cons.1 hf with rfl | hf
    · exact h.1.1
    · exact apGo_isF r _ h.2 f hf
/-- What a word has in fields. -/
def gets (x : Nat) (fs : List FieldI) : List Nat := fs.map fun f => Pl.get x f.1.toNat f.2.toNat
/-- A word with numbers in its fields; none: one of them does not fit. -/
def packGo (x : Nat) : List (FieldI × Nat) → Option Nat
  | [] => some x
  | (f, v) :: r => if v < 2 ^ f.2.toNat then packGo (Pl.set x f.1.toNat f.2.toNat v) r else none
def packV (fs : List FieldI) (vs : List Nat) : Value :=
  if apGo [] fs then (if vs.length = fs.length then (match packGo 0 (fs.zip vs) with | some p => .tuple #[.int .u64 (p : Int), .int .i64 0] | none => .tuple #[.int .u64 0, .int .i64 111]) else .tuple #[.int .u64 0, .int .i64 2]) else .tuple #[.int .u64 0, .int .i64 110]
set_option maxHeartbeats 1000000 in
theorem Split_ok (x : Nat) (fs : List FieldI) (a : Option Addr) (cap : Nat) (w : World) (hx : x < 18446744073709551616) (hl : Leads w a fs.length cap (fcells fs)) (hf : fok fs) (hn : fs.length ≤ 1000) (hyes : apGo [] fs = true) :
    Calls Tryz.prog 97 #[.int .u64 (x : Nat), .slice a fs.length cap] w (fun e w' => ∃ v, e = .returned (.tuple #[v, .int .i64 0]) ∧ w'.ownsRow w.heap.size 26 1 v fs.length (wcells (gets x fs)) ∧ Below w.heap.size w w') := by
  obtain ⟨n, en⟩ : ∃ n, fs.length = n := ⟨_, rfl⟩
  have hC := fun y : World => fun h => check_any fs a cap y h hf hn
  have hisf := apGo_isF fs [] hyes
  rw [check_is, hyes] at hC
  rw [en] at hl hn ⊢
  rw [en] at hC
  have HC := hid hC
  have H := hid hl
  have HISF := hid hisf
  have En := hid en
  have hnc := hl.1
  have hl2 := hl.len
  obtain ⟨hn1, hn2⟩ := hl2
  clear en hl hC hf hyes hisf
  go_enter Tryz.func97, Tryz.ntmps97
  go_wp2_with fail
  refine (HC.out _ H.out).mono ?_
  rintro e w1 ⟨rfl, hb1⟩
  rw [show errOf true 110 = 0 from rfl]
  go_wp2
  go_loopg [7, 17] n (fun g v i wr => ∃ k : Nat, g + k = n ∧ i = .int .i64 (k : Nat) ∧ wr.ownsRow w.heap.size 26 1 v k (wcells (gets x (fs.take k))) ∧ Below w.heap.size w wr)
  case atStart => exact ⟨0, rfl, rfl, World.ownsRow_nil _ _ _ _, hb1⟩
  case round =>
    obtain ⟨k, hk, rfl, hown, hb⟩ := hrel
    have HK := hid hk
    clear hk
    have hs := hb.size
    by_cases hlt : k < n
    · obtain ⟨_, _, ⟨h, _⟩ | ⟨b, off, rfl, h3, h4⟩⟩ := H.out
      · omega
      obtain ⟨⟨fa, fc⟩, hfk⟩ : ∃ f, fs[k]? = some f := ⟨_, List.getElem?_eq_getElem (by rw [En.out]; exact hlt)⟩
      have hif := HISF.out _ (List.mem_of_getElem? hfk)
      obtain ⟨p, c, rfl, rfl, hp1, hp2⟩ := isF_nat hif
      have hc0 : wr.cell? ⟨b, off + k * 2, none⟩ = some (.int .i64 (p : Nat)) := (hb.cell (by exact h3)).trans (h4 (k * 2) _ (flat_at _ 2 (fun _ => rfl) fs k 0 _ hfk (by omega)))
      have hc1 : wr.cell? ⟨b, off + k * 2 + 1, none⟩ = some (.int .i64 (c : Nat)) := (hb.cell (by exact h3)).trans (h4 (k * 2 + 1) _ (flat_at _ 2 (fun _ => rfl) fs k 1 _ hfk (by omega)))
      obtain ⟨wb, hwb, hbb, hsb, hcb⟩ := boxed wr #[Value.int IntKind.i64 (p : Nat), Value.int IntKind.i64 (c : Nat)] 142
      have hx0 := hcb wb 0 _ (Below.refl _ _) rfl
      have hx1 := hcb wb 1 _ (Below.refl _ _) rfl
      have hgets : wcells (gets x (fs.take k)) ++ [.int .u64 ((Pl.get x p c : Nat) : Int)] = wcells (gets x (fs.take (k + 1))) := by
        rw [take_snoc hfk]; simp [wcells, gets]
      have HG := hid hgets
      have HW := hid hown
      have H4 := hid h4
      clear hcb hfk hgets hown h4 hif hsb
      go_wp2_with fail
      refine (get_any p c x _ hp1 hp2 hx).mono ?_
      rintro e w2 ⟨rfl, hb2⟩
      obtain ⟨w3, hw3, hb3, hs3, hc3⟩ := boxed w2 #[.int .u64 ((Pl.get x p c : Nat) : Int)] 26
      have HC3 := hid hc3
      have hb5 := step (step hbb hb2) hb3
      have hs5 := hb5.size
      have hs4 : w.heap.size ≤ w3.heap.size := by omega
      clear hc3 hs3
      go_wp2_with ((with_reducible show wpList _ _ _ _ _ _); refine wp_append1 elemWords rfl (.tmp 21) (.tmp 26) rfl w.heap.size u7 k _ rfl (own_grow HW.out hb5) w2.heap.size [.int .u64 ((Pl.get x p c : Nat) : Int)] rfl rfl ?c1 ?c2 ?c3 ?c4 ?c5)
      case c1 =>
        intro j u hj
        exact HC3.out _ j u (Below.refl _ _) (by simpa using hj)
      case c2 => intro u hu; simp at hu; subst hu; rfl
      case c3 => omega
      case c4 => exact hs4
      case c5 =>
        intro v' w4 hown' hb4 hs6
        rw [HG.out] at hown'
        have HW' := hid hown'
        clear hown'
        go_wp2
        go_roundg (gk - 1)
        case measure => have := HK.out; omega
        case rel => exact ⟨k + 1, by have := HK.out; omega, by go_num, HW'.out, (step hb hb5).trans hb4⟩
    · obtain rfl : k = n := by have := HK.out; omega
      have e2 : fs.take k = fs := by rw [← En.out, List.take_length]
      rw [e2] at hown
      have HW := hid hown
      clear hown e2
      go_wp2
      go_ret2
      exact ⟨_, rfl, HW.out, hb⟩
/-- Numbers are put into fields, one behind the other. -/
theorem zip_drop (fs : List FieldI) (vs : List Nat) (k : Nat) (f : FieldI) (v : Nat) (hf : fs[k]? = some f) (hv : vs[k]? = some v) : (fs.zip vs).drop k = (f, v) :: (fs.zip vs).drop (k + 1) :=
  drop_at _ _ _ (by rw [List.getElem?_zip_eq_some]; exact ⟨hf, hv⟩)
theorem setV_yes (x a c v : Nat) (h1 : 1 ≤ c) (h2 : a + c ≤ 64) (hv : v < 2 ^ c) : setV x a c v = .tuple #[.int .u64 ((Pl.set x a c v : Nat) : Int), .int .i64 0] := by
  unfold setV isF
  rw [decide_eq_true (by omega), if_pos rfl]
  exact if_pos hv
theorem setV_big (x a c v : Nat) (h1 : 1 ≤ c) (h2 : a + c ≤ 64) (hv : ¬ v < 2 ^ c) : setV x a c v = .tuple #[.int .u64 0, .int .i64 111] := by
  unfold setV isF
  rw [decide_eq_true (by omega), if_pos rfl]
  exact if_neg hv
set_option maxHeartbeats 1000000 in
theorem Pack_any (fs : List FieldI) (vs : List Nat) (a : Option Addr) (cap : Nat) (a' : Option Addr) (cap' : Nat) (w : World) (hl : Leads w a fs.length cap (fcells fs)) (hf : fok fs) (hn : fs.length ≤ 1000) (hl' : Leads w a' vs.length cap' (wcells vs)) (hv : wok vs) :
    Calls Tryz.prog 75 #[.slice a fs.length cap, .slice a' vs.length cap'] w (Ret (packV fs vs) w) := by
  obtain ⟨n, en⟩ : ∃ n, fs.length = n := ⟨_, rfl⟩
  obtain ⟨m, em⟩ : ∃ m, vs.length = m := ⟨_, rfl⟩
  have hC := fun y : World => fun h => check_any fs a cap y h hf hn
  rw [check_is] at hC
  rw [en] at hl hn ⊢
  rw [en] at hC
  rw [em] at hl' ⊢
  have hl2 := hl.len
  obtain ⟨hn1, hn2⟩ := hl2
  have hm1 := hl'.len.1
  have H := hid hl
  have H' := hid hl'
  have HF := hid hf
  have HV := hid hv
  have En := hid en
  have Em := hid em
  cases hap : apGo [] fs with
  | false =>
    have e : packV fs vs = .tuple #[.int .u64 0, .int .i64 110] := by unfold packV; rw [hap]; rfl
    rw [e]
    rw [hap] at hC
    have HC := hid hC
    clear e en em hl hl' hC hf hv hap
    go_enter Tryz.func75, Tryz.ntmps75
    go_wp2_with fail
    refine (HC.out _ H.out).mono ?_
    rintro e w1 ⟨rfl, hb1⟩
    rw [show errOf false 110 = 110 from rfl]
    go_wp2
    go_ret2
    exact ⟨rfl, hb1⟩
  | true =>
    have hisf := apGo_isF fs [] hap
    have HISF := hid hisf
    rw [hap] at hC
    have HC := hid hC
    by_cases hmn : m = n
    · subst hmn
      have e : packV fs vs = match packGo 0 (fs.zip vs) with | some p => .tuple #[.int .u64 (p : Int), .int .i64 0] | none => .tuple #[.int .u64 0, .int .i64 111] := by unfold packV; rw [hap, en, em, if_pos rfl, if_pos rfl]
      have HE := hid e
      clear e en em hl hl' hC hf hv hap hisf
      go_enter Tryz.func75, Tryz.ntmps75
      go_wp2_with fail
      refine (HC.out _ H.out).mono ?_
      rintro e w1 ⟨rfl, hb1⟩
      rw [show errOf true 110 = 0 from rfl]
      go_wp2
      go_loopg [7, 24] m (fun g o i wr => ∃ k x : Nat, g + k = m ∧ i = .int .i64 (k : Nat) ∧ o = .int .u64 (x : Nat) ∧ x < 18446744073709551616 ∧ Hid (packGo 0 (fs.zip vs) = packGo x ((fs.zip vs).drop k)) ∧ Below w.heap.size w wr)
      case atStart => exact ⟨0, 0, rfl, rfl, rfl, by decide, rfl, hb1⟩
      case round =>
        obtain ⟨k, x, hk, rfl, rfl, hx, hpk, hb⟩ := hrel
        have HK := hid hk
        clear hk
        by_cases hlt : k < m
        · obtain ⟨_, _, ⟨h, _⟩ | ⟨b, off, rfl, h3, h4⟩⟩ := H.out
          · omega
          obtain ⟨_, _, ⟨h, _⟩ | ⟨b', off', rfl, h3', h4'⟩⟩ := H'.out
          · omega
          obtain ⟨⟨fa, fc⟩, hfk⟩ : ∃ f, fs[k]? = some f := ⟨_, List.getElem?_eq_getElem (by rw [En.out]; exact hlt)⟩
          obtain ⟨v, hvk⟩ : ∃ v, vs[k]? = some v := ⟨_, List.getElem?_eq_getElem (by rw [Em.out]; exact hlt)⟩
          have hif := HISF.out _ (List.mem_of_getElem? hfk)
          have hfb := HF.out _ (List.mem_of_getElem? hfk)
          have hvb := HV.out _ (List.mem_of_getElem? hvk)
          obtain ⟨p, c, rfl, rfl, hp1, hp2⟩ := isF_nat hif
          have hz := zip_drop fs vs k _ _ hfk hvk
          rw [hz] at hpk
          have hc0 : wr.cell? ⟨b, off + k * 2, none⟩ = some (.int .i64 (p : Nat)) := (hb.cell (by exact h3)).trans (h4 (k * 2) _ (flat_at _ 2 (fun _ => rfl) fs k 0 _ hfk (by omega)))
          have hc1 : wr.cell? ⟨b, off + k * 2 + 1, none⟩ = some (.int .i64 (c : Nat)) := (hb.cell (by exact h3)).trans (h4 (k * 2 + 1) _ (flat_at _ 2 (fun _ => rfl) fs k 1 _ hfk (by omega)))
          obtain ⟨wb, hwb, hbb, hsb, hcb⟩ := boxed wr #[Value.int IntKind.i64 (p : Nat), Value.int IntKind.i64 (c : Nat)] 142
          have hy := step hb hbb
          have hd0 := fun y : Ext wb => hcb y.v 0 _ y.b rfl
          have hd1 := fun y : Ext wb => hcb y.v 1 _ y.b rfl
          have hd2 : ∀ y : Ext wb, y.v.cell? ⟨b', off' + k, none⟩ = some (.int .u64 (v : Nat)) := fun y => ((step hy y.b).cell (by exact h3')).trans (h4' k _ (by unfold wcells; rw [List.getElem?_map, hvk]; rfl))
          have hfo : fok [((p : Int), (c : Int))] := by
            intro f hf
            simp at hf
            subst hf
            exact hfb
          have HFO := hid hfo
          have H4 := hid h4
          have H4' := hid h4'
          clear hcb hfk hvk h4 h4' hif hsb hz hfb hfo
          go_upto_region 10 with (fail)
          by_cases hvf : v < 2 ^ c
          · have hsv := setV_yes x p c v hp1 hp2 hvf
            have hnx : Pl.set x p c v < 18446744073709551616 := Pl.set_lt x p c v hp2 hx hvf
            have hpk2 : packGo 0 (fs.zip vs) = packGo (Pl.set x p c v) ((fs.zip vs).drop (k + 1)) := by
              rw [hpk.out, packGo]; exact if_pos hvf
            have HPK := hid hpk2
            have HSV := hid hsv
            clear hsv hpk hpk2 hvf
            refine wp_region_ext (by kernel_rfl) (by kernel_rfl) ?_
            repeat (go_big_quiet_step ((go_at_call 93; exact ext_of (HSV.out ▸ Set_any x v (p : Nat) (c : Nat) _ hx HFO.out))))
            refine wpQuiet_nil ?_
            rintro _ ⟨⟨w2, hb2⟩, rfl⟩
            go_wp2
            go_roundg (gk - 1)
            case measure => have := HK.out; omega
            case rel => exact ⟨k + 1, _, by have := HK.out; omega, by go_num, rfl, hnx, HPK, step hy hb2⟩
          · have hsv := setV_big x p c v hp1 hp2 hvf
            have hpk2 : packGo 0 (fs.zip vs) = none := by
              rw [hpk.out, packGo]; exact if_neg hvf
            have hres : packV fs vs = .tuple #[.int .u64 0, .int .i64 111] := by rw [HE.out, hpk2]
            have HRES := hid hres
            have HSV := hid hsv
            clear hsv hpk hpk2 hvf hres
            refine wp_region_ext (by kernel_rfl) (by kernel_rfl) ?_
            repeat (go_big_quiet_step ((go_at_call 93; exact ext_of (HSV.out ▸ Set_any x v (p : Nat) (c : Nat) _ hx HFO.out))))
            refine wpQuiet_nil ?_
            rintro _ ⟨⟨w2, hb2⟩, rfl⟩
            go_wp2
            go_ret2
            exact ⟨by rw [HRES.out]; rfl, step hy hb2⟩
        · obtain rfl : k = m := by have := HK.out; omega
          have hlen : (fs.zip vs).length = k := by rw [List.length_zip, En.out, Em.out]; omega
          have hres : packV fs vs = .tuple #[.int .u64 (x : Int), .int .i64 0] := by rw [HE.out, hpk.out, List.drop_of_length_le (by omega)]; rfl
          have HRES := hid hres
          clear hres hpk hlen
          go_wp2
          go_ret2
          exact ⟨by rw [HRES.out]; rfl, hb⟩
    · have e : packV fs vs = .tuple #[.int .u64 0, .int .i64 2] := by unfold packV; rw [hap, en, em, if_pos rfl, if_neg hmn]
      rw [e]
      have hne : (((m : Nat) : Int) != (n : Nat)) = true := by simp; omega
      clear e en em hl hl' hC hf hv hap hisf
      go_enter Tryz.func75, Tryz.ntmps75
      go_wp2_with fail
      refine (HC.out _ H.out).mono ?_
      rintro e w1 ⟨rfl, hb1⟩
      rw [show errOf true 110 = 0 from rfl]
      go_wp2
      go_ret2
      exact ⟨rfl, hb1⟩
end Go.Proofs.YtahicokokfcieaaGreatDoor
namespace Go.Proofs.YtahicokokfcieaaGreatDoor
open Go.RowKit
set_option linter.unusedVariables false
theorem wp_loadW {P : Program} {w : World} {ops : Array Oper} {rest : List Oper} {o : Oper} {a : Act} {Q : Exit → Act → World → Prop} (hgd : o.guard = none) (T : TypeId) (p : Operand) (ho : o.op = .load T p)
    (Y : Nat) (vs : Array Value) (hp : a.eval p = .pointer (some ⟨Y, 0, none⟩)) (e : TypeId) (hY : w.heap[Y]? = some (.cells vs e (0, 0))) (d : TypeDesc) (hu : P.underlying T = some d) (hd : (match d with | .struct _ | .array _ _ => true | _ => false) = true) (hi : (P.info? T).map (·.size) = some vs.size)
    (h : ∀ v, v = .agg vs → wpList P ops Q rest (a.put o.dst v) w) : wpList P ops Q (o :: rest) a w := by
  refine wpList_plain hgd fun K hK => ?_
  have hr := run_loadVar_row w Y e T vs (0, 0) d hY hu hd hi
  unfold Oper.wp
  simp only [execOp, ho, Instr.loadAt, Instr.sureAddr, hp, Sem.run_bind, Sem.run_pure, Result.andThen_ok, hr]
  exact hK _ _ (h _ rfl)
/-- .. in a region that draws its order: in every world of a class. -/
theorem wpQuiet_loadW {P : Program} {ops : Array Oper} {C : World → Prop} {Q : Act → Prop} {rest : List Oper} {o : Oper} {a : Act} (hgd : o.guard = none) (T : TypeId) (p : Operand) (ho : o.op = .load T p)
    (Y : Nat) (vs : Array Value) (hp : a.eval p = .pointer (some ⟨Y, 0, none⟩)) (e : TypeId) (hY : ∀ w, C w → w.heap[Y]? = some (.cells vs e (0, 0))) (d : TypeDesc) (hu : P.underlying T = some d) (hd : (match d with | .struct _ | .array _ _ => true | _ => false) = true) (hi : (P.info? T).map (·.size) = some vs.size)
    (h : ∀ v, v = .agg vs → wpQuiet P ops C Q rest (a.put o.dst v)) : wpQuiet P ops C Q (o :: rest) a := by
  refine BigFrame.wpQuiet_want (by simp [Region.wanted, hgd]) fun K hK => ⟨.agg vs, fun w hw => ?_, hK _ (h _ rfl)⟩
  have hr := run_loadVar_row w Y e T vs (0, 0) d (hY w hw) hu hd hi
  unfold Oper.quietAt
  simp only [execOp, ho, Instr.loadAt, Instr.sureAddr, hp, Sem.run_bind, Sem.run_pure, Result.andThen_ok, hr]
  exact ⟨rfl, rfl⟩
end Go.Proofs.YtahicokokfcieaaGreatDoor
