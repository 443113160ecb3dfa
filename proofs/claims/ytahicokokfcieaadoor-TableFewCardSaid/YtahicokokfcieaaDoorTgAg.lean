/- Several texts in one. -/
import Derived.Test.YtahicokokfcieaaDoorProg
import Derived.Test.YtahicokokfcieaaDoorTgAa
import Derived.Test.YtahicokokfcieaaDoorTgAe
import Derived.Test.YtahicokokfcieaaDoorTgAf
import Derived.Deep.DeepCutAuto
namespace Go.Proofs.YtahicokokfcieaaDoor
open Go.RowKit
open Go.Proofs
set_option linter.unusedVariables false

def onesI (n : Int) : Int := 2 ^ n.toNat - 1
def isF (a c : Int) : Bool := decide (0 ≤ a ∧ 1 ≤ c ∧ a ≤ 64 ∧ c ≤ 64 ∧ a + c ≤ 64)
def maskI (a c : Int) : Int := onesI c * 2 ^ a.toNat
def getI (x a c : Int) : Int := x / 2 ^ a.toNat % 2 ^ c.toNat

theorem pow_mono {a b : Nat} (h : a ≤ b) : (2 : Int) ^ a ≤ 2 ^ b := by exact_mod_cast Nat.pow_le_pow_right (by decide) h
theorem pow_pos (a : Nat) : (1 : Int) ≤ 2 ^ a := by exact_mod_cast Nat.one_le_two_pow
theorem onesI_nonneg (n : Int) : 0 ≤ onesI n := by unfold onesI; have := pow_pos n.toNat; omega
theorem onesI_lt (n : Int) (h : n ≤ 64) : onesI n ≤ 18446744073709551615 := by
  unfold onesI
  have := pow_mono (a := n.toNat) (b := 64) (by omega)
  omega

theorem ones_any (n : Int) (w : World) (h0 : 0 ≤ n) (h : n ≤ 64) : Calls Tryd.prog 77 #[.int .i64 n] w (Ret (.int .u64 (onesI n)) w) := by
  by_cases h64 : n = 64
  · subst h64
    go_enter Tryd.func77, Tryd.ntmps77
    go_wp2
    go_ret
    exact ⟨rfl, Below.refl _ _⟩
  · have hlt : n < 64 := by omega
    clear h64
    have e : IntKind.u64.wrap (IntKind.u64.wrap (2 ^ n.toNat) - 1) = onesI n := by
      have h1 := pow_mono (a := n.toNat) (b := 63) (by omega)
      have h2 := pow_pos n.toNat
      unfold onesI
      rw [u64_wrap (n := 2 ^ n.toNat) (by omega) (by omega), u64_wrap (by omega) (by omega)]
    have E := hid e
    clear e
    go_enter Tryd.func77, Tryd.ntmps77
    go_wp2
    go_ret
    refine ⟨?_, Below.refl _ _⟩
    show Ending.returned (.int .u64 (IntKind.u64.wrap (IntKind.u64.wrap (2 ^ n.toNat) - 1))) = _
    rw [E.out]

theorem is_any (a c : Int) (w : World) (ha : -9223372036854775808 ≤ a) (ha' : a ≤ 9223372036854775807) (hc : -9223372036854775808 ≤ c) (hc' : c ≤ 9223372036854775807) :
    Calls Tryd.prog 75 #[.agg #[.int .i64 a, .int .i64 c]] w (Ret (.bool (isF a c)) w) := by
  go_enter Tryd.func75, Tryd.ntmps75
  go_wp2
  all_goals go_ret
  all_goals refine ⟨?_, (Below.refl _ _).alloc (Nat.le_refl _) _⟩
  all_goals (simp [isF, *]; try omega)

theorem maskI_wrap (a c : Int) (h1 : 0 ≤ a) (h2 : a + c ≤ 64) (h3 : 1 ≤ c) : 0 ≤ maskI a c ∧ maskI a c ≤ 18446744073709551615 := by
  unfold maskI onesI
  have e : ((2 : Int) ^ c.toNat - 1) * 2 ^ a.toNat = 2 ^ (c.toNat + a.toNat) - 2 ^ a.toNat := by rw [Int.sub_mul, Int.one_mul, Int.pow_add]
  rw [e]
  have h4 := pow_mono (a := c.toNat + a.toNat) (b := 64) (by omega)
  have h5 := pow_mono (a := a.toNat) (b := c.toNat + a.toNat) (by omega)
  have h6 := pow_pos a.toNat
  omega

theorem mask_any (a c : Int) (w : World) (h0 : 1 ≤ c) (h1 : 0 ≤ a) (h2 : a + c ≤ 64) :
    Calls Tryd.prog 76 #[.agg #[.int .i64 a, .int .i64 c]] w (Ret (.int .u64 (maskI a c)) w) := by
  have E := hid (u64_wrap (maskI_wrap a c h1 h2 h0).1 (maskI_wrap a c h1 h2 h0).2)
  have h3 : a < 64 := by omega
  have h4 : c ≤ 64 := by omega
  go_enter Tryd.func76, Tryd.ntmps76
  go_wp2
  obtain ⟨w1, hw1, hb, hs, hc⟩ := boxed w #[Value.int IntKind.i64 a, Value.int IntKind.i64 c] 115
  have hd := fun x : Ext w1 => hc x.v 0 _ x.b rfl
  have hd1 := fun x : Ext w1 => hc x.v 1 _ x.b rfl
  rw [hw1]; clear hw1 hc
  refine wp_region_ext (by kernel_rfl) (by kernel_rfl) ?_
  repeat (go_big_quiet_step ((go_at_call 77; exact ext_of (ones_any _ _ (by omega) (by omega)))))
  refine wpQuiet_nil ?_
  rintro _ ⟨⟨w2, hb2⟩, rfl⟩
  go_wp2
  go_ret
  refine ⟨?_, step hb hb2⟩
  show Ending.returned (.int .u64 (IntKind.u64.wrap (maskI a c))) = _
  rw [E.out]

abbrev FieldI := Int × Int
def fcells (fs : List FieldI) : List Value := fs.flatMap fun f => [.int .i64 f.1, .int .i64 f.2]
def fok (fs : List FieldI) : Prop := ∀ f ∈ fs, -9223372036854775808 ≤ f.1 ∧ f.1 ≤ 9223372036854775807 ∧ -9223372036854775808 ≤ f.2 ∧ f.2 ≤ 9223372036854775807
def checkGo (t : Int) : List FieldI → Bool
  | [] => true
  | f :: r => isF f.1 f.2 && decide (bits .and .u64 t (maskI f.1 f.2) = 0) && checkGo (bits .or .u64 t (maskI f.1 f.2)) r
def errOf (ok : Bool) (e : Int) : Int := if ok then 0 else e
theorem drop_at {α : Type} (l : List α) (k : Nat) (x : α) (h : l[k]? = some x) : l.drop k = x :: l.drop (k + 1) := by
  obtain ⟨hk, e⟩ := List.getElem?_eq_some_iff.1 h
  rw [List.drop_eq_getElem_cons hk, e]

theorem check_any (fs : List FieldI) (a : Option Addr) (cap : Nat) (w : World) (hl : Leads w a fs.length cap (fcells fs)) (hf : fok fs) (hn : fs.length ≤ 1000) :
    Calls Tryd.prog 55 #[.slice a fs.length cap] w (Ret (.int .i64 (errOf (checkGo 0 fs) 110)) w) := by
  obtain ⟨hc1, hc2, ⟨h1, hcs⟩ | ⟨b, off, rfl, h3, h4⟩⟩ := hl
  · obtain rfl := List.eq_nil_of_length_eq_zero h1
    clear h1 hcs hn hf hc1 hc2
    go_enter Tryd.func55, Tryd.ntmps55
    go_wp2
    go_step3
    go_wp2
    go_step3
    go_wp2
    refine wp_loop_rounds 1 ?_
    rw [rounds_succ]
    go_wp2
    rw [Exit.noGoto_ret]
    go_ret
    exact ⟨rfl, Below.refl _ _⟩
  · obtain ⟨n, en⟩ : ∃ n, n = fs.length := ⟨_, rfl⟩
    rw [← en] at hc1 hn ⊢
    have En := hid en
    have H4 := hid h4
    clear en h4
    go_enter Tryd.func55, Tryd.ntmps55
    go_wp2
    go_step3
    go_wp2
    go_step3
    go_wp2
    go_loopg [3, 4, 10] n (fun g t o i wr => ∃ k tk, g + k = n ∧ i = .int .i64 (k : Nat) ∧ t = .int .u64 tk ∧ o = .bool true ∧ Hid (checkGo 0 fs = checkGo tk (fs.drop k)) ∧ Below w.heap.size w wr)
    case atStart => exact ⟨0, 0, rfl, rfl, rfl, rfl, rfl, Below.refl _ _⟩
    case round =>
      obtain ⟨k, tk, hk, rfl, rfl, rfl, hc, hb⟩ := hrel
      have HK := hid hk
      clear hk
      by_cases hlt : k < n
      · obtain ⟨⟨fa, fc⟩, hfk⟩ : ∃ f, fs[k]? = some f := ⟨_, List.getElem?_eq_getElem (by rw [← En.out]; exact hlt)⟩
        have hfb := hf _ (List.mem_of_getElem? hfk)
        obtain ⟨hf1, hf2, hf3, hf4⟩ := hfb
        dsimp only at hf1 hf2 hf3 hf4
        have hc0 : wr.cell? ⟨b, off + k * 2, none⟩ = some (.int .i64 fa) := (hb.cell (by exact h3)).trans (H4.out (k * 2) _ (flat_at _ 2 (fun _ => rfl) fs k 0 _ hfk (by omega)))
        have hc1 : wr.cell? ⟨b, off + k * 2 + 1, none⟩ = some (.int .i64 fc) := (hb.cell (by exact h3)).trans (H4.out (k * 2 + 1) _ (flat_at _ 2 (fun _ => rfl) fs k 1 _ hfk (by omega)))
        have hcs : checkGo tk (fs.drop k) = (isF fa fc && decide (bits .and .u64 tk (maskI fa fc) = 0) && checkGo (bits .or .u64 tk (maskI fa fc)) (fs.drop (k + 1))) := by rw [drop_at _ _ _ hfk]; rfl
        rw [hcs] at hc
        clear hcs
        have HF := hid hfk
        clear hfk
        obtain ⟨wb, hwb, hbb, hsb, hcb⟩ := boxed wr #[Value.int IntKind.i64 fa, Value.int IntKind.i64 fc] 78
        have hy : Below w.heap.size w wb := step hb hbb
        have hx0 := hcb wb 0 _ (Below.refl _ _) rfl
        have hx1 := hcb wb 1 _ (Below.refl _ _) rfl
        have HC := hid hcb
        clear hcb
        cases hif : isF fa fc with
        | false =>
          go_wp2_with fail
          refine (is_any _ _ _ hf1 hf2 hf3 hf4).mono ?_
          rintro e w1 ⟨rfl, hb1⟩
          go_wp2
          rw [Exit.noGoto_ret]
          go_ret
          exact ⟨by rw [hc.out, hif]; rfl, step hy hb1⟩
        | true => 
          go_wp2_with fail
          refine (is_any _ _ _ hf1 hf2 hf3 hf4).mono ?_
          rintro e w1 ⟨rfl, hb1⟩
          have hd0 := HC.out w1 0 _ hb1 rfl
          have hd1 := HC.out w1 1 _ hb1 rfl
          have hf5 : 0 ≤ fa ∧ 1 ≤ fc ∧ fa ≤ 64 ∧ fc ≤ 64 ∧ fa + fc ≤ 64 := by simpa [isF] using hif
          go_wp2_with fail
          refine (mask_any _ _ _ hf5.2.1 hf5.1 hf5.2.2.2.2).mono ?_
          rintro e w2 ⟨rfl, hb2⟩
          by_cases hz : bits BinOp.and IntKind.u64 tk (maskI fa fc) = 0
          · go_wp2_with fail
            refine (mask_any _ _ _ hf5.2.1 hf5.1 hf5.2.2.2.2).mono ?_
            rintro e w3 ⟨rfl, hb3⟩
            go_wp2
            go_roundg (gk - 1)
            case measure => have := HK.out; omega
            case rel => exact ⟨k + 1, _, by have := HK.out; omega, by go_num, rfl, rfl, hid (by rw [hc.out, hif]; simp [hz]), step (step (step hy hb1) hb2) hb3⟩
          · have hz' : (bits BinOp.and IntKind.u64 tk (maskI fa fc) == 0) = false := by simpa using hz
            have HZ := hid hz
            clear hz
            go_wp2
            rw [Exit.noGoto_ret]
            go_ret
            exact ⟨by rw [hc.out, hif]; simp [HZ.out, errOf], step (step hy hb1) hb2⟩
      · have e2 : k = n := by have := HK.out; omega
        subst e2
        have hc' : checkGo 0 fs = true := by rw [hc.out, List.drop_of_length_le (by rw [← En.out]; exact Nat.le_refl _)]; rfl
        clear hc HK hlt
        go_wp2
        rw [Exit.noGoto_ret]
        go_ret
        exact ⟨by rw [hc']; rfl, hb⟩

end Go.Proofs.YtahicokokfcieaaDoor
namespace Go.Proofs.YtahicokokfcieaaDoor.Pl

theorem pow_pos (n : Nat) : 1 ≤ 2 ^ n := Nat.one_le_two_pow
theorem pow_mono {a b : Nat} (h : a ≤ b) : 2 ^ a ≤ 2 ^ b := Nat.pow_le_pow_right (by decide) h

def mask (a c : Nat) : Nat := (2 ^ c - 1) * 2 ^ a
def get (x a c : Nat) : Nat := x / 2 ^ a % 2 ^ c
def shr (x k : Nat) : Nat := x / 2 ^ k
def bit (x i : Nat) : Nat := x / 2 ^ i % 2
/-- x with v in the field (a, c). -/
def set (x a c v : Nat) : Nat := (x &&& (18446744073709551615 - mask a c)) ||| (v * 2 ^ a)

theorem mask_bit (a c i : Nat) : (mask a c).testBit i = decide (a ≤ i ∧ i < a + c) := by
  unfold mask
  rw [Nat.testBit_mul_two_pow, Nat.testBit_two_pow_sub_one]
  by_cases h : a ≤ i
  · have : i - a < c ↔ i < a + c := by omega
    simp [h, this]
  · simp [h]
theorem mask_lt (a c : Nat) (h : a + c ≤ 64) : mask a c < 18446744073709551616 := by
  have : mask a c < 2 ^ 64 := Nat.lt_pow_two_of_testBit _ fun i hi => by rw [mask_bit]; simp; omega
  exact this
theorem get_bit (x a c i : Nat) : (get x a c).testBit i = (decide (i < c) && x.testBit (a + i)) := by
  unfold get
  rw [Nat.testBit_mod_two_pow, Nat.testBit_div_two_pow, Nat.add_comm]
theorem get_lt (x a c : Nat) : get x a c < 2 ^ c := Nat.mod_lt _ (Nat.pow_pos (by decide))
theorem and_mask (x a c : Nat) : (x &&& mask a c) / 2 ^ a = get x a c := by
  apply Nat.eq_of_testBit_eq; intro i
  rw [Nat.testBit_div_two_pow, Nat.testBit_and, mask_bit, get_bit, Nat.add_comm a i]
  have e : (a ≤ i + a ∧ i + a < a + c) ↔ i < c := by omega
  simp only [e]; exact Bool.and_comm _ _
theorem lt_of_bits {x : Nat} (h : ∀ i, 64 ≤ i → x.testBit i = false) : x < 18446744073709551616 := Nat.lt_pow_two_of_testBit (n := 64) _ h
theorem bits_hi {x i : Nat} (h : x < 18446744073709551616) (hi : 64 ≤ i) : x.testBit i = false :=
  Nat.testBit_lt_two_pow (Nat.lt_of_lt_of_le h (pow_mono (a := 64) hi))
theorem not_bit (m i : Nat) (h : m < 18446744073709551616) : (18446744073709551615 - m).testBit i = (decide (i < 64) && !m.testBit i) := by
  have := Nat.testBit_two_pow_sub_succ (x := m) (n := 64) h i
  have e : 2 ^ 64 - (m + 1) = 18446744073709551615 - m := by omega
  rw [e] at this; exact this
theorem set_bit (x a c v i : Nat) (h : a + c ≤ 64) (hx : x < 18446744073709551616) (hv : v < 2 ^ c) :
    (set x a c v).testBit i = if a ≤ i ∧ i < a + c then v.testBit (i - a) else x.testBit i := by
  unfold set
  rw [Nat.testBit_or, Nat.testBit_and, not_bit _ _ (mask_lt a c h), mask_bit, Nat.testBit_mul_two_pow]
  by_cases h1 : a ≤ i ∧ i < a + c
  · simp [h1]
  · rw [if_neg h1]
    have h2 : (decide (a ≤ i) && v.testBit (i - a)) = false := by
      by_cases h3 : a ≤ i
      · have : v.testBit (i - a) = false := Nat.testBit_lt_two_pow (Nat.lt_of_lt_of_le hv (pow_mono (by omega)))
        simp [this]
      · simp [h3]
    rw [h2]
    by_cases h4 : i < 64
    · simp [h1, h4]
    · simp [bits_hi hx (by omega : 64 ≤ i)]
theorem set_lt (x a c v : Nat) (h : a + c ≤ 64) (hx : x < 18446744073709551616) (hv : v < 2 ^ c) : set x a c v < 18446744073709551616 :=
  lt_of_bits fun i hi => by rw [set_bit x a c v i h hx hv, if_neg (by omega)]; exact bits_hi hx hi
theorem get_set (x a c v : Nat) (h : a + c ≤ 64) (hx : x < 18446744073709551616) (hv : v < 2 ^ c) : get (set x a c v) a c = v := by
  apply Nat.eq_of_testBit_eq; intro i
  rw [get_bit]
  by_cases hi : i < c
  · rw [set_bit x a c v _ h hx hv, if_pos (by omega), Nat.add_sub_cancel_left]; simp [hi]
  · simp [hi, Nat.testBit_lt_two_pow (Nat.lt_of_lt_of_le hv (pow_mono (by omega : c ≤ i)))]
theorem get_set_apart (x a c v b d : Nat) (h : a + c ≤ 64) (hx : x < 18446744073709551616) (hv : v < 2 ^ c) (hap : a + c ≤ b ∨ b + d ≤ a) : get (set x a c v) b d = get x b d := by
  apply Nat.eq_of_testBit_eq; intro i
  rw [get_bit, get_bit]
  by_cases hi : i < d
  · rw [set_bit x a c v _ h hx hv, if_neg (by omega)]
  · simp [hi]
/-- Masks that lie apart. -/
theorem mask_apart (a c b d : Nat) (hc : 1 ≤ c) (hd : 1 ≤ d) : mask a c &&& mask b d = 0 ↔ (a + c ≤ b ∨ b + d ≤ a) := by
  constructor
  · intro h
    have hb := fun i => congrArg (fun x => Nat.testBit x i) h
    simp only [Nat.testBit_and, mask_bit, Nat.zero_testBit] at hb
    have := hb (max a b)
    simp at this
    omega
  · intro h
    apply Nat.eq_of_testBit_eq; intro i
    rw [Nat.testBit_and, mask_bit, mask_bit, Nat.zero_testBit]
    simp; omega

theorem bit_eq (x i : Nat) : bit x i = (x.testBit i).toNat := by unfold bit; rw [Nat.toNat_testBit]
/-- One bit put in the place of another. -/
theorem rebit (x p : Nat) (b : Bool) : x - bit x p * 2 ^ p + b.toNat * 2 ^ p = if x.testBit p then (if b then x else x - 2 ^ p) else (if b then x + 2 ^ p else x) := by
  rw [bit_eq]
  have h : x.testBit p = true → 2 ^ p ≤ x := Nat.ge_two_pow_of_testBit
  cases hx : x.testBit p <;> cases b <;> simp
  have := h hx
  omega
theorem comb_bit (hi lo p : Nat) (b : Bool) (h : lo < 2 ^ p) (i : Nat) : (2 ^ (p + 1) * hi + (2 ^ p * b.toNat + lo)).testBit i = if i < p then lo.testBit i else if i = p then b else hi.testBit (i - (p + 1)) := by
  have hb : 2 ^ p * b.toNat + lo < 2 ^ (p + 1) := by rw [Nat.pow_succ]; cases b <;> simp <;> omega
  rw [Nat.testBit_two_pow_mul_add _ hb]
  by_cases h1 : i < p + 1
  · rw [if_pos h1, Nat.testBit_two_pow_mul_add _ h]
    by_cases h2 : i < p
    · simp [h2]
    · have : i = p := by omega
      subst this
      cases b <;> simp
  · rw [if_neg h1, if_neg (by omega), if_neg (by omega)]
theorem parts (x p : Nat) : x = 2 ^ (p + 1) * (x / 2 ^ (p + 1)) + (2 ^ p * bit x p + x % 2 ^ p) := by
  have h1 := Nat.div_add_mod x (2 ^ p)
  have h2 := Nat.div_add_mod (x / 2 ^ p) 2
  have h3 : x / 2 ^ p / 2 = x / 2 ^ (p + 1) := by rw [Nat.div_div_eq_div_mul, Nat.pow_succ]
  have h4 : 2 ^ (p + 1) * (x / 2 ^ (p + 1)) = 2 ^ p * (2 * (x / 2 ^ p / 2)) := by rw [← h3, Nat.pow_succ, Nat.mul_assoc]
  unfold bit
  rw [h4, ← Nat.add_assoc, ← Nat.mul_add, h2, h1]
theorem rebit_bit (x p : Nat) (b : Bool) (i : Nat) : (x - bit x p * 2 ^ p + b.toNat * 2 ^ p).testBit i = if i = p then b else x.testBit i := by
  have h := parts x p
  have hlo : x % 2 ^ p < 2 ^ p := Nat.mod_lt _ (Nat.pow_pos (by decide))
  have e : x - bit x p * 2 ^ p + b.toNat * 2 ^ p = 2 ^ (p + 1) * (x / 2 ^ (p + 1)) + (2 ^ p * b.toNat + x % 2 ^ p) := by
    rw [Nat.mul_comm (bit x p), Nat.mul_comm b.toNat]
    omega
  have e2 : x.testBit i = (2 ^ (p + 1) * (x / 2 ^ (p + 1)) + (2 ^ p * (x.testBit p).toNat + x % 2 ^ p)).testBit i := by
    rw [← bit_eq, ← h]
  rw [e, e2, comb_bit _ _ _ _ hlo, comb_bit _ _ _ _ hlo]
  by_cases h1 : i < p
  · simp [h1, Nat.ne_of_lt h1]
  · by_cases h2 : i = p <;> simp [h1, h2]
end Go.Proofs.YtahicokokfcieaaDoor.Pl
namespace Go.Proofs.YtahicokokfcieaaDoor
open Go.RowKit
open Go.Proofs
set_option linter.unusedVariables false

theorem onesI_nat (c : Nat) : onesI (c : Int) = ((2 ^ c - 1 : Nat) : Int) := by
  unfold onesI
  have := Pl.pow_pos c
  rw [Int.toNat_natCast, Int.natCast_sub this, Int.natCast_pow]; rfl
theorem maskI_nat (a c : Nat) : maskI (a : Int) (c : Int) = ((Pl.mask a c : Nat) : Int) := by
  unfold maskI Pl.mask
  rw [onesI_nat, Int.natCast_mul, Int.toNat_natCast, Int.natCast_pow]; rfl
theorem u64_div_pow (x n : Nat) : ((x : Int) / 2 ^ ((n : Int).toNat)) = ((x / 2 ^ n : Nat) : Int) := by
  rw [Int.toNat_natCast, Int.natCast_ediv, Int.natCast_pow]; rfl

theorem div_pow (x n : Nat) : ((x : Int) / 2 ^ n) = ((x / 2 ^ n : Nat) : Int) := by
  rw [Int.natCast_ediv, Int.natCast_pow]; rfl

theorem get_any (a c x : Nat) (w : World) (hc : 1 ≤ c) (h : a + c ≤ 64) (hx : x < 18446744073709551616) :
    Calls Tryd.prog 56 #[.agg #[.int .i64 (a : Nat), .int .i64 (c : Nat)], .int .u64 (x : Nat)] w (Ret (.int .u64 ((Pl.get x a c : Nat) : Int)) w) := by
  have h3 : (a : Int) < 64 := by omega
  have E := hid (bits_and_u64_nat x (Pl.mask a c) hx (Pl.mask_lt a c h))
  go_enter Tryd.func56, Tryd.ntmps56
  go_wp2
  obtain ⟨w1, hw1, hb, hs, hcc⟩ := boxed w #[Value.int IntKind.i64 (a : Nat), Value.int IntKind.i64 (c : Nat)] 115
  have hd := fun x : Ext w1 => hcc x.v 0 _ x.b rfl
  have hd1 := fun x : Ext w1 => hcc x.v 1 _ x.b rfl
  rw [hw1]; clear hw1 hcc
  refine wp_region_ext (by kernel_rfl) (by kernel_rfl) ?_
  repeat (go_big_quiet_step ((go_at_call 76; exact ext_of (mask_any _ _ _ (by omega) (by omega) (by omega)))))
  refine wpQuiet_nil ?_
  rintro _ ⟨⟨w2, hb2⟩, rfl⟩
  go_wp2
  go_ret
  refine ⟨?_, step hb hb2⟩
  show Ending.returned (.int .u64 (bits BinOp.and IntKind.u64 (↑x) (maskI ↑a ↑c) / 2 ^ a)) = _
  rw [maskI_nat, E.out, div_pow, Pl.and_mask]

/-- Get, of whatever field. -/
def getV (x : Nat) (fa fc : Int) : Value := if isF fa fc then .tuple #[.int .u64 ((Pl.get x fa.toNat fc.toNat : Nat) : Int), .int .i64 0] else .tuple #[.int .u64 0, .int .i64 110]
theorem check_one (fa fc : Int) : checkGo 0 [(fa, fc)] = isF fa fc := by
  have : bits .and .u64 0 (maskI fa fc) = 0 := by simp [bits, IntKind.wrap_u64]
  simp [checkGo, this]
theorem isF_nat {fa fc : Int} (h : isF fa fc = true) : ∃ a c : Nat, fa = a ∧ fc = c ∧ 1 ≤ c ∧ a + c ≤ 64 := by
  simp [isF] at h
  exact ⟨fa.toNat, fc.toNat, by omega, by omega, by omega, by omega⟩

/-- Set, of whatever field. -/
def setV (x : Nat) (fa fc : Int) (v : Nat) : Value :=
  if isF fa fc then (if v < 2 ^ fc.toNat then .tuple #[.int .u64 ((Pl.set x fa.toNat fc.toNat v : Nat) : Int), .int .i64 0] else .tuple #[.int .u64 0, .int .i64 111]) else .tuple #[.int .u64 0, .int .i64 110]
theorem shl_in (v a c : Nat) (hv : v < 2 ^ c) (h : a + c ≤ 64) : v * 2 ^ a < 18446744073709551616 := by
  have h1 : v * 2 ^ a < 2 ^ c * 2 ^ a := Nat.mul_lt_mul_of_pos_right hv (Nat.pow_pos (by decide))
  rw [← Nat.pow_add] at h1
  have h2 := Pl.pow_mono (a := c + a) (b := 64) (by omega)
  omega
theorem set_walk (x a c v : Nat) (hx : x < 18446744073709551616) (hv : v < 2 ^ c) (h : a + c ≤ 64) :
    bits BinOp.or IntKind.u64 (bits BinOp.andNot IntKind.u64 (x : Int) (maskI (a : Int) (c : Int))) (IntKind.u64.wrap ((v : Int) * 2 ^ a)) = ((Pl.set x a c v : Nat) : Int) := by
  have h1 := shl_in v a c hv h
  have e : IntKind.u64.wrap ((v : Int) * 2 ^ a) = ((v * 2 ^ a : Nat) : Int) := by
    have e1 : (v : Int) * 2 ^ a = ((v * 2 ^ a : Nat) : Int) := by rw [Int.natCast_mul, Int.natCast_pow]; rfl
    rw [e1, IntKind.wrap_u64]; omega
  rw [e, maskI_nat, u64_andNot_nat _ _ hx (Pl.mask_lt a c h), u64_or_nat _ _ (Nat.lt_of_le_of_lt Nat.and_le_left hx) h1]
  rfl

theorem Set_any (x v : Nat) (fa fc : Int) (w : World) (hx : x < 18446744073709551616) (hf : fok [(fa, fc)]) :
    Calls Tryd.prog 57 #[.int .u64 (x : Nat), .agg #[.int .i64 fa, .int .i64 fc], .int .u64 (v : Nat)] w (Ret (setV x fa fc v) w) := by
  obtain ⟨w1, hw1, hb1, hs1, hcc⟩ := boxed w #[Value.int IntKind.i64 fa, Value.int IntKind.i64 fc] 78
  have hc0 := hcc w1 0 _ (Below.refl _ _) rfl
  have hc1 := hcc w1 1 _ (Below.refl _ _) rfl
  have HC := hid hcc
  obtain ⟨w2, hw2, hb2, hs2, hl⟩ := made w1 #[Value.int IntKind.i64 fa, Value.int IntKind.i64 fc] 78 1 (fcells [(fa, fc)]) (by decide) (fun i v h => by simpa [fcells] using h)
  have HL := hid hl
  clear hl hcc hs1
  cases hif : isF fa fc with
  | true =>
    obtain ⟨a, c, rfl, rfl, h1, h2⟩ := isF_nat hif
    by_cases hv : v < 2 ^ c
    · have e : setV x a c v = .tuple #[.int .u64 ((Pl.set x a c v : Nat) : Int), .int .i64 0] := by simp [setV, hif, hv]
      rw [e]
      clear e
      have h3 : (a : Int) < 64 := by omega
      have hle : (v : Int) ≤ onesI c := by rw [onesI_nat]; omega
      have E := hid (set_walk x a c v hx hv h2)
      clear hv
      go_enter Tryd.func57, Tryd.ntmps57
      go_wp2_with fail
      refine (check_any _ _ _ _ HL.out hf (by simp)).mono ?_
      rw [check_one, hif]
      rintro e w3 ⟨rfl, hb3⟩
      have hd0 := HC.out w3 0 _ (step hb2 hb3) rfl
      have hd1 := HC.out w3 1 _ (step hb2 hb3) rfl
      go_wp2_with fail
      refine (ones_any c _ (by omega) (by omega)).mono ?_
      rintro e w4 ⟨rfl, hb4⟩
      have hdd := fun x : Ext w4 => HC.out x.v 0 _ (step (step (step hb2 hb3) hb4) x.b) rfl
      have hdd1 := fun x : Ext w4 => HC.out x.v 1 _ (step (step (step hb2 hb3) hb4) x.b) rfl
      go_wp2_with fail
      refine wp_region_ext (by kernel_rfl) (by kernel_rfl) ?_
      repeat (go_big_quiet_step ((go_at_call 76; exact ext_of (mask_any _ _ _ (by omega) (by omega) (by omega)))))
      refine wpQuiet_nil ?_
      rintro _ ⟨⟨w5, hb5⟩, rfl⟩
      go_wp2
      go_ret2
      exact ⟨congrArg (fun q => Ending.returned (.tuple #[.int .u64 q, .int .i64 0])) E.out, step (step (step (step hb1 hb2) hb3) hb4) hb5⟩
    · have e : setV x a c v = .tuple #[.int .u64 0, .int .i64 111] := by simp [setV, hif, hv]
      rw [e]
      clear e
      have hle : onesI c < (v : Int) := by rw [onesI_nat]; have := Pl.pow_pos c; omega
      clear hv
      go_enter Tryd.func57, Tryd.ntmps57
      go_wp2_with fail
      refine (check_any _ _ _ _ HL.out hf (by simp)).mono ?_
      rw [check_one, hif]
      rintro e w3 ⟨rfl, hb3⟩
      have hd0 := HC.out w3 0 _ (step hb2 hb3) rfl
      have hd1 := HC.out w3 1 _ (step hb2 hb3) rfl
      go_wp2_with fail
      refine (ones_any c _ (by omega) (by omega)).mono ?_
      rintro e w4 ⟨rfl, hb4⟩
      go_wp2
      go_ret2
      exact ⟨rfl, step (step (step hb1 hb2) hb3) hb4⟩
  | false =>
    have e : setV x fa fc v = .tuple #[.int .u64 0, .int .i64 110] := by simp [setV, hif]
    rw [e]
    clear e
    go_enter Tryd.func57, Tryd.ntmps57
    go_wp2_with fail
    refine (check_any _ _ _ _ HL.out hf (by simp)).mono ?_
    rw [check_one, hif]
    rintro e w3 ⟨rfl, hb3⟩
    go_wp2
    go_ret2
    exact ⟨rfl, step (step hb1 hb2) hb3⟩
end Go.Proofs.YtahicokokfcieaaDoor
namespace Go.Proofs.YtahicokokfcieaaDoor
open Go.RowKit
open Go.Proofs
set_option linter.unusedVariables false
attribute [local go_sem] Oper.semAt_some

/-- Where a word of a place is. -/
def posL (p k : Nat) : Nat := min p 4096 + k
theorem at_any (p k : Nat) (V : World) (hp : p < 18446744073709551616) (hk : k ≤ 1000) : Calls Tryd.prog 94 #[.int .u64 ((p : Nat) : Int), .int .i64 ((k : Nat) : Int)] V (fun e W => e = .returned (.int .i64 ((posL p k : Nat) : Int)) ∧ W = V) := by
  obtain ⟨m, hm⟩ : ∃ m, min p 4096 = m := ⟨_, rfl⟩
  have hmi : min ((p : Nat) : Int) 4096 = ((m : Nat) : Int) := by omega
  have hm2 : m ≤ 4096 := by omega
  have HP : Hid (posL p k = m + k) := hid (by unfold posL; rw [hm])
  clear hm
  go_enter Tryd.func94, Tryd.ntmps94
  go_wp2
  go_ret
  exact ⟨reti (by rw [HP.out]; go_num), rfl⟩
theorem at_ret (p k : Nat) (V : World) (hp : p < 18446744073709551616) (hk : k ≤ 1000) : Calls Tryd.prog 94 #[.int .u64 ((p : Nat) : Int), .int .i64 ((k : Nat) : Int)] V (Ret (.int .i64 ((posL p k : Nat) : Int)) V) :=
  (at_any p k V hp hk).mono fun e W h => by obtain ⟨rfl, rfl⟩ := h; exact ⟨rfl, Below.refl _ _⟩
abbrev brkV : Value := .iface 175 (.agg #[])
abbrev brk : List PanicEntry := [{ v := brkV, recovered := false }]
def liveN (M : Mem) (w : Nat) : Bool := (M.L[w]?).getD false
def freeB (M : Mem) (met : List Nat) (w : Nat) : Bool := liveN M w && !decide (w ∈ met)
/-- Words are taken. -/
def takeP (M : Mem) (p : Nat) : List Nat → List Nat → Option (List Nat)
  | [], met => some met
  | k :: ks, met => if freeB M met (posL p k) = true then takeP M p ks (met ++ [posL p k]) else none
def ones (met : List Nat) : List (Nat × Nat) := met.map fun x => (x, 1)
theorem atM_ones (met : List Nat) (w : Nat) : atMJ (ones met) w = if w ∈ met then 1 else 0 := by
  refine snocRec (p := fun l => atMJ (ones l) w = if w ∈ l then 1 else 0) rfl (fun l x h => ?_) met
  unfold ones at h ⊢
  rw [List.map_append, List.map_singleton, atM_snocJ, h]
  by_cases e : x = w
  · subst e; simp
  · simp only [if_neg e, List.mem_append, List.mem_singleton]
    by_cases hm : w ∈ l
    · simp [hm]
    · rw [if_neg hm, if_neg]
      rintro (h | h)
      · exact hm h
      · exact e h.symm
theorem ones_snoc (met : List Nat) (w : Nat) : ones met ++ [(w, 1)] = ones (met ++ [w]) := by simp [ones]
theorem IdsJ.run {w : World} {b k : Nat} {l : List (Nat × Nat)} (h : IdsJ w b l) (hk : k < 9223372036854775808) {t : TypeId} (ht : Tryd.prog.underlying t = some (.map 3 3)) :
    (Instr.lookup t (.map (some b)) (.int .i64 ((k : Nat) : Int)) false).run Tryd.prog w = .ok (.int .i64 ((atMJ l k : Nat) : Int)) w := by
  obtain ⟨c, hrun, hat, -⟩ := World.ownsMap.lookup_int h keyedUJ ht Tryd.underlying3 (by kernel_rfl) (keyUJ hk)
  rw [mapD_atJ] at hat
  obtain rfl : c = ((atMJ l k : Nat) : Int) := by simp at hat; omega
  exact hrun
theorem map_cell {V : World} {mb : Nat} {l : List (Nat × Nat)} (h : IdsJ V mb l) (i : Nat) : V.cell? ⟨mb, i, none⟩ = none := by
  obtain ⟨es, clock, hb, -⟩ := h
  simp [World.cell?, hb]
theorem Leads.grownM {V V' : World} {a : Option Addr} {n cap mb : Nat} {cs : List Value} {l : List (Nat × Nat)} (h : Leads V a n cap cs) (hm : IdsJ V mb l) (hg : V.grownBy V' (some mb)) : Leads V' a n cap cs := by
  obtain ⟨h1, h2, ⟨h3, h4⟩ | ⟨b, off, h3, h4, h5⟩⟩ := h
  · exact ⟨h1, h2, .inl ⟨h3, h4⟩⟩
  · refine ⟨h1, h2, .inr ⟨b, off, h3, Nat.lt_of_lt_of_le h4 hg.size, fun i v hv => ?_⟩⟩
    have hc := h5 i v hv
    by_cases e : mb = b
    · subst e; rw [map_cell hm] at hc; cases hc
    · have := hg.block b h4 (fun e' => e (Option.some.inj e').symm)
      unfold World.cell? at hc ⊢
      rw [this]
      exact hc
theorem grownBy_refl (V : World) (r : Option Nat) : V.grownBy V r := ⟨rfl, rfl, rfl, Nat.le_refl _, fun _ _ _ => rfl⟩
theorem grownBy_below {V V' : World} (h : Below V.heap.size V V') (r : Option Nat) : V.grownBy V' r := ⟨h.os, h.tape, h.output, h.size, fun k hk _ => h.block k hk⟩
theorem grownBy_trans {A B C : World} {r : Option Nat} (h : A.grownBy B r) (k : B.grownBy C r) : A.grownBy C r :=
  ⟨k.os.trans h.os, k.tape.trans h.tape, k.output.trans h.output, Nat.le_trans h.size k.size, fun b hb hr => (k.block b (Nat.lt_of_lt_of_le hb h.size) hr).trans (h.block b hb hr)⟩
theorem wp_putG {w : World} {ops : Array Oper} {rest : List Oper} {o : Oper} {a : Act} {Q : Exit → Act → World → Prop} (hg : o.guard = none) (m x v : Operand) (t : TypeId) (hop : o.op = Op.mapUpdate t m x v) (ht : Tryd.prog.underlying t = some (.map 3 3))
    (b k u : Nat) (l : List (Nat × Nat)) (hm : a.eval m = .map (some b)) (hown : IdsJ w b l) (hl : l.length ≤ 100000) (hx : a.eval x = .int .i64 ((k : Nat) : Int)) (hv : a.eval v = .int .i64 ((u : Nat) : Int)) (hk : k < 9223372036854775808) (hu : u < 9223372036854775808)
    (h : ∀ w', IdsJ w' b (l ++ [(k, u)]) → w.grownBy w' (some b) → wpList Tryd.prog ops Q rest (a.put o.dst undef) w') : wpList Tryd.prog ops Q (o :: rest) a w := by
  refine wpList_mapUpdate_own w hg m x v t hop 3 3 keyedUJ ht (plainElem Tryd.prog 3) b l.length (mapDJ l) hm hown (by unfold maxLen; omega) _ _ _ hx hv (keyUJ hk) _ [] (plainElem_int Tryd.underlying3 (wfUJ hu)) ?_
  intro w' h1 h2
  refine h w' ?_ h2
  unfold IdsJ
  rw [mapD_snocJ, List.length_append]
  exact h1

theorem takeP_spec (M : Mem) (p : Nat) : ∀ (ks met met' : List Nat), takeP M p ks met = some met' → (∀ k ∈ ks, liveN M (posL p k) = true) ∧ (met.Nodup → met'.Nodup) ∧ met'.length = met.length + ks.length ∧ ∀ x ∈ met', x ∈ met ∨ liveN M x = true
  | [], met, met', h => by
    cases h
    exact ⟨by simp, id, by simp, fun x h => .inl h⟩
  | k :: ks, met, met', h => by
    unfold takeP at h
    split at h
    · rename_i hf
      obtain ⟨h1, h2, h3, h4⟩ := takeP_spec M p ks _ _ h
      unfold freeB at hf
      simp only [Bool.and_eq_true, Bool.not_eq_true', decide_eq_false_iff_not] at hf
      refine ⟨?_, ?_, ?_, ?_⟩
      · intro j hj
        rcases List.mem_cons.1 hj with rfl | hj
        · exact hf.1
        · exact h1 j hj
      · intro hn
        refine h2 ?_
        rw [List.nodup_append]
        refine ⟨hn, by simp, fun a ha b hb => ?_⟩
        rw [List.mem_singleton] at hb
        rintro rfl
        exact hf.2 (hb ▸ ha)
      · rw [h3]; simp; omega
      · intro x hx
        rcases h4 x hx with hx | hx
        · rcases List.mem_append.1 hx with hx | hx
          · exact .inl hx
          · rw [List.mem_singleton] at hx; subst hx; exact .inr hf.1
        · exact .inr hx
    · cases h
theorem nodup_le : ∀ (l l' : List Nat), l.Nodup → (∀ x ∈ l, x ∈ l') → l.length ≤ l'.length
  | [], l', _, _ => Nat.zero_le _
  | a :: l, l', hn, hs => by
    have ha : a ∈ l' := hs a (List.mem_cons_self ..)
    rw [List.nodup_cons] at hn
    have := nodup_le l (l'.erase a) hn.2 (fun x hx => (List.mem_erase_of_ne (fun (e : x = a) => hn.1 (e ▸ hx))).2 (hs x (List.mem_cons_of_mem _ hx)))
    rw [List.length_erase_of_mem ha] at this
    have hp : 0 < l'.length := List.length_pos_of_mem ha
    simp only [List.length_cons]
    omega
theorem nodup_lt {n : Nat} {l : List Nat} (hn : l.Nodup) (h : ∀ x ∈ l, x < n) : l.length ≤ n := by
  have := nodup_le l (List.range n) hn (fun x hx => List.mem_range.2 (h x hx))
  simpa using this
theorem live_lt {M : Mem} {x : Nat} (h : liveN M x = true) : x < M.L.length := by
  unfold liveN at h
  cases hx : M.L[x]? with
  | none => rw [hx] at h; cases h
  | some b => exact (List.getElem?_eq_some_iff.1 hx).1
/-- How many words are met in a world. -/
noncomputable def metLen (mb : Nat) (V : World) : Nat := by
  classical
  exact if h : ∃ met : List Nat, met.Nodup ∧ (∀ x ∈ met, x < 5000) ∧ IdsJ V mb (ones met) then h.choose.length else 0
theorem ids_sub {V : World} {mb : Nat} {l l' : List Nat} (h : IdsJ V mb (ones l)) (h' : IdsJ V mb (ones l')) (hl : ∀ x ∈ l, x < 5000) : ∀ x ∈ l, x ∈ l' := by
  intro x hx
  have h5 := hl x hx
  have e1 := h.run (k := x) (by omega) (t := 187) Tryd.underlying187
  have e2 := h'.run (k := x) (by omega) (t := 187) Tryd.underlying187
  rw [e1] at e2
  simp only [Result.ok.injEq, Value.int.injEq, true_and, and_true] at e2
  rw [atM_ones, atM_ones, if_pos hx] at e2
  by_cases hc : x ∈ l'
  · exact hc
  · rw [if_neg hc] at e2; omega
theorem metLen_eq {V : World} {mb : Nat} {met : List Nat} (h : IdsJ V mb (ones met)) (hn : met.Nodup) (hl : ∀ x ∈ met, x < 5000) : metLen mb V = met.length := by
  have hex : ∃ met : List Nat, met.Nodup ∧ (∀ x ∈ met, x < 5000) ∧ IdsJ V mb (ones met) := ⟨met, hn, hl, h⟩
  unfold metLen
  rw [dif_pos hex]
  obtain ⟨h1, h2, h3⟩ := hex.choose_spec
  exact Nat.le_antisymm (nodup_le _ _ h1 (ids_sub h3 h h2)) (nodup_le _ _ hn (ids_sub h h3 hl))

/-- Words are met. -/
def meetP (M : Mem) : List Nat → List Nat → Option (List Nat)
  | [], met => some met
  | w :: ws, met => if freeB M met w = true then meetP M ws (met ++ [w]) else none
theorem takeP_meet (M : Mem) (p : Nat) : ∀ (ks met : List Nat), takeP M p ks met = meetP M (ks.map (posL p)) met
  | [], met => rfl
  | k :: ks, met => by
    show (if _ then _ else _) = (if _ then _ else _)
    rw [takeP_meet M p ks]
/-- A row of numbers. -/
def mcells (ws : List Nat) : List Value := ws.map fun w => .int .i64 ((w : Nat) : Int)
theorem mcell_at {ws : List Nat} {k w : Nat} (h : ws[k]? = some w) : (mcells ws)[k]? = some (.int .i64 ((w : Nat) : Int)) := by unfold mcells; rw [List.getElem?_map, h]; rfl

set_option maxRecDepth 100000 in
set_option maxHeartbeats 2000000 in
theorem meet_any (M : Mem) (wa la : Option Addr) (wc lc mb : Nat) (ws : List Nat) (b : Option Addr) (m c : Nat) (met : List Nat) (V : World) (h : MemL V wa wc la lc M) (hm : M.L.length = M.W.length) (hi : IdsJ V mb (ones met)) (hl : Leads V b m c (mcells ws)) (hws : ws.length = m) (hw6 : ∀ w ∈ ws, w ≤ 1000000) (hmm : met.length + m ≤ 10000) :
    Calls Tryd.prog 112 #[.map (some mb), memV wa wc la lc M, .slice b m c] V (fun e V' => V.grownBy V' (some mb) ∧
      ((∃ met', meetP M ws met = some met' ∧ e = .returned (.tuple #[]) ∧ IdsJ V' mb (ones met')) ∨ (meetP M ws met = none ∧ e = .panicked brk))) := by
  obtain ⟨V1, hV1, hb1, hs1, hl1⟩ := laid V #[.slice wa M.W.length wc, .slice la M.L.length lc, .bool M.F] 38
  obtain ⟨X, hX⟩ : ∃ X, V.heap.size = X := ⟨_, rfl⟩
  rw [hX] at hl1
  have HX1 := hid hl1
  have HM1 := hid (h.grow hb1)
  have HI1 := hid (hi.grow hb1)
  have HG1 := hid (grownBy_below hb1 (some mb))
  have HL1 := hid (hl.grow hb1)
  have HWS := hid hws
  have HW6 := hid hw6
  have HNX : Hid (mb ≠ X) := hid (by
    rintro rfl
    obtain ⟨es, clock, hb, -⟩ := hi
    have := lt_laid hb
    omega)
  have hwl := h.w.len
  have hll := h.l.len
  have hbl := hl.len
  obtain ⟨RES, hRES⟩ : ∃ R, meetP M ws met = R := ⟨_, rfl⟩
  rw [hRES]
  have HRES := hid hRES
  unfold memV
  rw [hm] at hV1 hll HX1 ⊢
  have HMM := hid hm
  obtain ⟨n, hn⟩ : ∃ n, M.W.length = n := ⟨_, rfl⟩
  rw [hn] at hV1 hwl hll HX1 HMM ⊢
  have HN := hid hn
  clear h hi hl hws hw6 hb1 hs1 hl1 hRES hm hn
  go_enter Tryd.func112, Tryd.ntmps112
  go_wp2
  go_loopg [10] m (fun g i wr => ∃ (k : Nat) (met2 : List Nat), g + k = m ∧ i = .int .i64 ((k : Nat) : Int) ∧ Hid (V1.grownBy wr (some mb)) ∧ Hid (IdsJ wr mb (ones met2)) ∧ Hid (meetP M (ws.drop k) met2 = RES) ∧ Hid (met2.length = met.length + k))
  case atStart => exact ⟨0, met, rfl, rfl, hid (grownBy_refl _ _), HI1, HRES, hid rfl⟩
  case round =>
    obtain ⟨k, met2, hk, rfl, hG, hI, hR, hlen⟩ := hrel
    have HK := hid hk
    clear hk
    by_cases hlt : k < m
    · obtain ⟨w, hwk⟩ : ∃ x, ws[k]? = some x := ⟨_, List.getElem?_eq_getElem (by rw [HWS.out]; exact hlt)⟩
      have hw6 := HW6.out w (List.mem_of_getElem? hwk)
      have hR2 := hR.out
      rw [List.drop_eq_getElem_cons (by rw [HWS.out]; exact hlt), (List.getElem?_eq_some_iff.1 hwk).2] at hR2
      unfold meetP at hR2
      have HR2 := hid hR2
      obtain ⟨x0, x1, x2⟩ := cells3 (keep_grown HX1.out hG.out (fun e => HNX.out (Option.some.inj e)))
      obtain ⟨bb, bo, rfl, -, hc⟩ := (HL1.out.grownM HI1.out hG.out).at hlt (mcell_at hwk)
      have f0 := hc _ (Below.refl _ _)
      have hrun := hI.out.run (k := w) (by omega) (t := 187) Tryd.underlying187
      rw [atM_ones] at hrun
      have t0 : decide (((w : Nat) : Int) < 0) = false := decide_eq_false (by omega)
      clear hc hwk hR2 hR
      by_cases hwn : w < n
      · have t1 : decide (((n : Nat) : Int) ≤ ((w : Nat) : Int)) = false := decide_eq_false (by omega)
        obtain ⟨bv, hbv⟩ : ∃ x, M.L[w]? = some x := ⟨_, List.getElem?_eq_getElem (by rw [HMM.out]; exact hwn)⟩
        have hML := HM1.out.l.grownM HI1.out hG.out
        rw [HMM.out] at hML
        obtain ⟨lb, lo, rfl, -, hc⟩ := hML.at hwn (bcell_at hbv)
        have f1 := hc _ (Below.refl _ _)
        have HBV := hid hbv
        clear hc hbv hML
        cases bv
        case' false =>
          have HF : Hid (freeB M met2 w = false) := hid (by unfold freeB liveN; rw [HBV.out]; rfl)
          go_wp2
          exact ⟨rfl, grownBy_trans HG1.out hG.out, .inr ⟨by rw [← HR2.out, HF.out]; rfl, rfl⟩⟩
        case' true =>
          by_cases hmem : w ∈ met2
          · rw [if_pos hmem] at hrun
            have HF : Hid (freeB M met2 w = false) := hid (by unfold freeB liveN; rw [HBV.out, decide_eq_true hmem]; rfl)
            clear hmem
            go_wp2
            exact ⟨rfl, grownBy_trans HG1.out hG.out, .inr ⟨by rw [← HR2.out, HF.out]; rfl, rfl⟩⟩
          · rw [if_neg hmem] at hrun
            have HF : Hid (freeB M met2 w = true) := hid (by unfold freeB liveN; rw [HBV.out, decide_eq_false hmem]; rfl)
            have HR3 : Hid (meetP M (ws.drop (k + 1)) (met2 ++ [w]) = RES) := hid (by have := HR2.out; rwa [if_pos HF.out] at this)
            have HI2 := hI
            clear hmem hI
            have q1 : (ones met2).length ≤ 100000 := by simp [ones]; have := hlen.out; omega
            go_wp2_with ((with_reducible show wpList _ _ _ _ _ _); refine wp_putG rfl (.tmp 39) (.tmp 40) (.const (.int .i64 1)) 187 rfl Tryd.underlying187 mb w 1 (ones met2) rfl HI2.out q1 rfl rfl ?c2 ?c3 ?c4)
            case c2 => omega
            case c3 => decide
            case c4 =>
              intro w3 hi hg
              rw [ones_snoc] at hi
              have HI3 := hid hi
              have HG3 := hid (grownBy_trans hG.out hg)
              clear hi hg hrun x0 x1 x2 f0 f1
              go_wp2
              go_roundg (gk - 1)
              case measure => have := HK.out; omega
              case rel => exact ⟨k + 1, _, by have := HK.out; omega, by go_num, HG3, HI3, HR3, hid (by rw [List.length_append, hlen.out]; simp; omega)⟩
      · have t1 : decide (((n : Nat) : Int) ≤ ((w : Nat) : Int)) = true := decide_eq_true (by omega)
        have HF : Hid (freeB M met2 w = false) := hid (by unfold freeB liveN; rw [List.getElem?_eq_none (by rw [HMM.out]; omega)]; rfl)
        go_wp2
        exact ⟨rfl, grownBy_trans HG1.out hG.out, .inr ⟨by rw [← HR2.out, HF.out]; rfl, rfl⟩⟩
    · have e := HK.out
      have HE : Hid (RES = some met2) := hid (by rw [← hR.out, List.drop_of_length_le (by rw [HWS.out]; omega)]; rfl)
      clear e
      go_wp2
      go_end0
      exact ⟨grownBy_trans HG1.out hG.out, .inl ⟨met2, HE.out, rfl, hI.out⟩⟩
end Go.Proofs.YtahicokokfcieaaDoor
namespace Go.Proofs.YtahicokokfcieaaDoor
open Go.RowKit
open Go.Proofs
open Go.Maps (has size Tidy IsMap)
set_option linter.unusedVariables false
attribute [local go_sem] Oper.semAt_some
/-- What is read at a number, of a map that a call has made. -/
def atZ (l : List (Nat × Nat)) (z : Int) : Int := l.foldl (fun a p => if ((p.1 : Nat) : Int) = z then ((p.2 : Nat) : Int) else a) 0
def hasZ (l : List (Nat × Nat)) (z : Int) : Bool := l.any fun p => decide (((p.1 : Nat) : Int) = z)
theorem key_neZ {a b : Int} (h : a ≠ b) : (Lit.int .i64 a) ≠ (Lit.int .i64 b) := by
  intro e
  simp only [Lit.int.injEq, true_and] at e
  exact h e
theorem isKeyZ (k : Int) : WideAt.IsKeyLit (.int .i64 k) := trivial
theorem mapD_hasZ (l : List (Nat × Nat)) (z : Int) : has (mapDJ l) (.int .i64 z) = hasZ l z := by
  refine snocRec (p := fun l => has (mapDJ l) (.int .i64 z) = hasZ l z) rfl (fun l p h => ?_) l
  rw [mapD_snocJ]
  by_cases e : ((p.1 : Nat) : Int) = z
  · rw [← e, Maps.has_put_same (mapD_tidyJ l).isMap (isKeyJ _)]
    simp [hasZ]
  · rw [Maps.has_put_other (key_neZ (Ne.symm e)), h]
    simp [hasZ, e]
theorem mapD_atZ (l : List (Nat × Nat)) (z : Int) : (mapDJ l).atKey (.int .i64 z) (.lit (.int .i64 0)) = .lit (.int .i64 (atZ l z)) := by
  refine snocRec (p := fun l => (mapDJ l).atKey (.int .i64 z) (.lit (.int .i64 0)) = .lit (.int .i64 (atZ l z))) rfl (fun l p h => ?_) l
  have hs : atZ (l ++ [p]) z = if ((p.1 : Nat) : Int) = z then ((p.2 : Nat) : Int) else atZ l z := by simp [atZ, List.foldl_append]
  rw [mapD_snocJ, hs]
  by_cases e : ((p.1 : Nat) : Int) = z
  · rw [← e, Maps.atKey_put_same (mapD_tidyJ l).isMap (isKeyJ _), if_pos rfl]
  · rw [Maps.atKey_put_other (key_neZ (Ne.symm e)), h, if_neg e]
theorem wp_lookZ {w : World} {ops : Array Oper} {rest : List Oper} {o : Oper} {a : Act} {Q : Exit → Act → World → Prop} (hg : o.guard = none) (m x : Operand) (t : TypeId) (hop : o.op = Op.lookup t m x true) (ht : Tryd.prog.underlying t = some (.map 3 3))
    (b : Nat) (z : Int) (l : List (Nat × Nat)) (hm : a.eval m = .map (some b)) (hown : IdsJ w b l) (hx : a.eval x = .int .i64 z) (hz : -9223372036854775808 ≤ z ∧ z ≤ 9223372036854775807)
    (h : wpList Tryd.prog ops Q rest (a.put o.dst (.tuple #[.int .i64 (atZ l z), .bool (hasZ l z)])) w) : wpList Tryd.prog ops Q (o :: rest) a w := by
  have hw : (Lit.int .i64 z).wf = true := by
    simp [Lit.wf, IntKind.min, IntKind.max, IntKind.signed, IntKind.bits]
    omega
  refine wpList_lookup_own_ok_int w hg m x t hop 3 3 .i64 keyedUJ ht Tryd.underlying3 (by kernel_rfl) b l.length (mapDJ l) hm hown _ _ hx (Maps.keyOf_int_mk Tryd.underlying3 hw) ?_
  intro c hc _
  rw [mapD_atZ] at hc
  obtain rfl : c = atZ l z := by simp at hc; exact hc.symm
  rw [mapD_hasZ]
  exact h
/-- A pair of a map's literal. -/
theorem wp_insJ {w : World} {ops : Array Oper} {rest : List Oper} {o : Oper} {a : Act} {Q : Exit → Act → World → Prop} (hg : o.guard = none) (m x v : Operand) (t : TypeId) (hop : o.op = Op.insert t m x v) (ht : Tryd.prog.underlying t = some (.map 3 3))
    (b k u : Nat) (l : List (Nat × Nat)) (hm : a.eval m = .map (some b)) (hown : IdsJ w b l) (hl : l.length ≤ 100000) (hx : a.eval x = .int .i64 ((k : Nat) : Int)) (hv : a.eval v = .int .i64 ((u : Nat) : Int)) (hk : k < 9223372036854775808) (hu : u < 9223372036854775808)
    (base : Nat) (hb : base ≤ b) (h : ∀ w', IdsJ w' b (l ++ [(k, u)]) → Below base w w' → w.heap.size ≤ w'.heap.size → wpList Tryd.prog ops Q rest (a.put o.dst undef) w') : wpList Tryd.prog ops Q (o :: rest) a w := by
  refine wpList_plain hg fun K' hK' => ?_
  obtain ⟨w', hrun, r1, r2⟩ := World.ownsMap.update (R := plainElem Tryd.prog 3) hown keyedUJ ht (by unfold maxLen; omega) (keyUJ hk) (plainElem_int Tryd.underlying3 (wfUJ hu))
  unfold Oper.wp
  simp [execOp, hop, hm, hx, hv, hrun, Result.andThen]
  refine hK' _ _ (h w' ?_ (below_grownJ r2 hb (Nat.le_of_lt (Nat.lt_of_le_of_lt hb (World.ownsMap.lt hown)))) r2.size)
  unfold IdsJ
  rw [mapD_snocJ, List.length_append]
  exact r1
/-- A key's hash. -/
def hashN (k : Nat) : Nat := k * 11400714819323198485 % 18446744073709551616
theorem hashN_lt (k : Nat) : hashN k < 18446744073709551616 := Nat.mod_lt _ (by decide)
theorem Hash_any (k : Nat) (V : World) : Calls Tryd.prog 44 #[.int .u64 ((k : Nat) : Int)] V (Ret (.int .u64 ((hashN k : Nat) : Int)) V) := by
  have e : IntKind.u64.wrap (((k : Nat) : Int) * 11400714819323198485) = ((hashN k : Nat) : Int) := by
    unfold hashN
    rw [IntKind.wrap_u64]
    omega
  go_enter Tryd.func44, Tryd.ntmps44
  go_wp2
  go_ret
  exact ⟨rfl, Below.refl _ _⟩
/-- How many bits tell a bucket. -/
def depZ (b : Int) : Option Nat := if b = 4 then some 2 else if b = 8 then some 3 else if b = 16 then some 4 else none
def deps : List (Nat × Nat) := [(4, 2), (8, 3), (16, 4)]
theorem hasZ_deps (b : Int) : hasZ deps b = (depZ b).isSome := by
  unfold depZ hasZ deps
  by_cases h4 : b = 4
  · subst h4; rfl
  · by_cases h8 : b = 8
    · subst h8; rfl
    · by_cases h16 : b = 16
      · subst h16; rfl
      · rw [if_neg h4, if_neg h8, if_neg h16]
        simp
        omega
theorem atZ_deps {b : Int} {d : Nat} (h : depZ b = some d) : atZ deps b = ((d : Nat) : Int) ∧ 2 ≤ d ∧ d ≤ 4 ∧ b = ((2 ^ d : Nat) : Int) := by
  unfold depZ at h
  split at h
  · cases h; subst b; exact ⟨rfl, by decide, by decide, rfl⟩
  · split at h
    · cases h; subst b; exact ⟨rfl, by decide, by decide, rfl⟩
    · split at h
      · cases h; subst b; exact ⟨rfl, by decide, by decide, rfl⟩
      · cases h
theorem depths_any (V : World) : Calls Tryd.prog 42 #[] V (fun e W => ∃ b, e = .returned (.map (some b)) ∧ IdsJ W b deps ∧ Below V.heap.size V W) := by
  have hmm := @run_makeMap Tryd.prog
  obtain ⟨w1, hw1⟩ : ∃ x, V.alloc (.map #[] 0) = x := ⟨_, rfl⟩
  have hI := IdsJ.made V
  rw [hw1] at hI
  have hb1 : Below V.heap.size V w1 := by rw [← hw1]; exact (Below.refl _ _).alloc (Nat.le_refl _) _
  obtain ⟨B, hB⟩ : ∃ X, V.heap.size = X := ⟨_, rfl⟩
  rw [hB] at hI
  have hVB : V.heap.size ≤ B := by omega
  have HI := hid hI
  have HB := hid hb1
  clear hI hb1
  go_enter Tryd.func42, Tryd.ntmps42
  go_wp2_with (first
    | (refine wp_insJ rfl (.tmp 1) (.const (.int .i64 4)) (.const (.int .i64 2)) 98 rfl Tryd.underlying98 B 4 2 [] rfl HI.out (by decide) rfl rfl (by decide) (by decide) V.heap.size hVB ?_; intro w2 i2 b2 s2; have HI2 := hid i2; have HB2 := hid (HB.out.trans (b2.mono (Nat.le_refl _))); clear i2 b2 s2)
    | (refine wp_insJ rfl (.tmp 1) (.const (.int .i64 8)) (.const (.int .i64 3)) 98 rfl Tryd.underlying98 B 8 3 _ rfl HI2.out (by decide) rfl rfl (by decide) (by decide) V.heap.size hVB ?_; intro w3 i3 b3 s3; have HI3 := hid i3; have HB3 := hid (HB2.out.trans b3); clear i3 b3 s3)
    | (refine wp_insJ rfl (.tmp 1) (.const (.int .i64 16)) (.const (.int .i64 4)) 98 rfl Tryd.underlying98 B 16 4 _ rfl HI3.out (by decide) rfl rfl (by decide) (by decide) V.heap.size hVB ?_; intro w4 i4 b4 s4; have HI4 := hid i4; have HB4 := hid (HB3.out.trans b4); clear i4 b4 s4))
  go_ret
  exact ⟨B, rfl, HI4.out, HB4.out⟩
end Go.Proofs.YtahicokokfcieaaDoor
