/- The walks of package bits: fields. -/
import Derived.Test.YtpehnahmdfoobaaDoorProg
import Derived.Test.YtpehnahmdfoobaaDoorKit
namespace Go.Proofs.YtpehnahmdfoobaaDoor
open Go.RowKit
open Go.Proofs
set_option linter.unusedVariables false

def onesI (n : Int) : Int := 2 ^ n.toNat - 1
def isF (a c : Int) : Bool := decide (0 ≤ a ∧ 1 ≤ c ∧ a ≤ 64 ∧ c ≤ 64 ∧ a + c ≤ 64)
def maskI (a c : Int) : Int := onesI c * 2 ^ a.toNat
def getI (x a c : Int) : Int := x / 2 ^ a.toNat % 2 ^ c.toNat

theorem pow_mono {a b : Nat} (h : a ≤ b) : (2 : Int) ^ a ≤ 2 ^ b := by exact_mod_cast Nat.pow_le_pow_right (by decide) h
theorem pow_pos (a : Nat) : (1 : Int) ≤ 2 ^ a := by exact_mod_cast Nat.one_le_two_pow
theorem onesI_nonneg (n : Int) : 0 ≤ onesI n := by unfold onesI; have := pow_pos n.toNat; omega
theorem onesI_lt (n : Int) (h : n ≤ 64) : onesI n ≤ 18446744073709551615 := by
  unfold onesI
  have := pow_mono (a := n.toNat) (b := 64) (by omega)
  omega

theorem ones_any (n : Int) (w : World) (h0 : 0 ≤ n) (h : n ≤ 64) : Calls Tryd.prog 54 #[.int .i64 n] w (Ret (.int .u64 (onesI n)) w) := by
  by_cases h64 : n = 64
  · subst h64
    go_enter Tryd.func54, Tryd.ntmps54
    go_wp2
    go_ret
    exact ⟨rfl, Below.refl _ _⟩
  · have hlt : n < 64 := by omega
    clear h64
    have e : IntKind.u64.wrap (IntKind.u64.wrap (2 ^ n.toNat) - 1) = onesI n := by
      have h1 := pow_mono (a := n.toNat) (b := 63) (by omega)
      have h2 := pow_pos n.toNat
      unfold onesI
      rw [u64_wrap (n := 2 ^ n.toNat) (by omega) (by omega), u64_wrap (by omega) (by omega)]
    have E := hid e
    clear e
    go_enter Tryd.func54, Tryd.ntmps54
    go_wp2
    go_ret
    refine ⟨?_, Below.refl _ _⟩
    show Ending.returned (.int .u64 (IntKind.u64.wrap (IntKind.u64.wrap (2 ^ n.toNat) - 1))) = _
    rw [E.out]

theorem is_any (a c : Int) (w : World) (ha : -9223372036854775808 ≤ a) (ha' : a ≤ 9223372036854775807) (hc : -9223372036854775808 ≤ c) (hc' : c ≤ 9223372036854775807) :
    Calls Tryd.prog 52 #[.agg #[.int .i64 a, .int .i64 c]] w (Ret (.bool (isF a c)) w) := by
  go_enter Tryd.func52, Tryd.ntmps52
  go_wp2
  all_goals go_ret
  all_goals refine ⟨?_, (Below.refl _ _).alloc (Nat.le_refl _) _⟩
  all_goals (simp [isF, *]; try omega)

theorem maskI_wrap (a c : Int) (h1 : 0 ≤ a) (h2 : a + c ≤ 64) (h3 : 1 ≤ c) : 0 ≤ maskI a c ∧ maskI a c ≤ 18446744073709551615 := by
  unfold maskI onesI
  have e : ((2 : Int) ^ c.toNat - 1) * 2 ^ a.toNat = 2 ^ (c.toNat + a.toNat) - 2 ^ a.toNat := by rw [Int.sub_mul, Int.one_mul, Int.pow_add]
  rw [e]
  have h4 := pow_mono (a := c.toNat + a.toNat) (b := 64) (by omega)
  have h5 := pow_mono (a := a.toNat) (b := c.toNat + a.toNat) (by omega)
  have h6 := pow_pos a.toNat
  omega

theorem mask_any (a c : Int) (w : World) (h0 : 1 ≤ c) (h1 : 0 ≤ a) (h2 : a + c ≤ 64) :
    Calls Tryd.prog 53 #[.agg #[.int .i64 a, .int .i64 c]] w (Ret (.int .u64 (maskI a c)) w) := by
  have E := hid (u64_wrap (maskI_wrap a c h1 h2 h0).1 (maskI_wrap a c h1 h2 h0).2)
  have h3 : a < 64 := by omega
  have h4 : c ≤ 64 := by omega
  go_enter Tryd.func53, Tryd.ntmps53
  go_wp2
  obtain ⟨w1, hw1, hb, hs, hc⟩ := boxed w #[Value.int IntKind.i64 a, Value.int IntKind.i64 c] 92
  have hd := fun x : Ext w1 => hc x.v 0 _ x.b rfl
  have hd1 := fun x : Ext w1 => hc x.v 1 _ x.b rfl
  rw [hw1]; clear hw1 hc
  refine wp_region_ext (by kernel_rfl) (by kernel_rfl) ?_
  repeat (go_big_quiet_step ((go_at_call 54; exact ext_of (ones_any _ _ (by omega) (by omega)))))
  refine wpQuiet_nil ?_
  rintro _ ⟨⟨w2, hb2⟩, rfl⟩
  go_wp2
  go_ret
  refine ⟨?_, step hb hb2⟩
  show Ending.returned (.int .u64 (IntKind.u64.wrap (maskI a c))) = _
  rw [E.out]

abbrev FieldI := Int × Int
def fcells (fs : List FieldI) : List Value := fs.flatMap fun f => [.int .i64 f.1, .int .i64 f.2]
def fok (fs : List FieldI) : Prop := ∀ f ∈ fs, -9223372036854775808 ≤ f.1 ∧ f.1 ≤ 9223372036854775807 ∧ -9223372036854775808 ≤ f.2 ∧ f.2 ≤ 9223372036854775807
def checkGo (t : Int) : List FieldI → Bool
  | [] => true
  | f :: r => isF f.1 f.2 && decide (bits .and .u64 t (maskI f.1 f.2) = 0) && checkGo (bits .or .u64 t (maskI f.1 f.2)) r
def errOf (ok : Bool) (e : Int) : Int := if ok then 0 else e
theorem drop_at {α : Type} (l : List α) (k : Nat) (x : α) (h : l[k]? = some x) : l.drop k = x :: l.drop (k + 1) := by
  obtain ⟨hk, e⟩ := List.getElem?_eq_some_iff.1 h
  rw [List.drop_eq_getElem_cons hk, e]

theorem check_any (fs : List FieldI) (a : Option Addr) (cap : Nat) (w : World) (hl : Leads w a fs.length cap (fcells fs)) (hf : fok fs) (hn : fs.length ≤ 1000) :
    Calls Tryd.prog 49 #[.slice a fs.length cap] w (Ret (.int .i64 (errOf (checkGo 0 fs) 110)) w) := by
  obtain ⟨hc1, hc2, ⟨h1, hcs⟩ | ⟨b, off, rfl, h3, h4⟩⟩ := hl
  · obtain rfl := List.eq_nil_of_length_eq_zero h1
    clear h1 hcs hn hf hc1 hc2
    go_enter Tryd.func49, Tryd.ntmps49
    go_wp2
    go_step3
    go_wp2
    go_step3
    go_wp2
    refine wp_loop_rounds 1 ?_
    rw [rounds_succ]
    go_wp2
    rw [Exit.noGoto_ret]
    go_ret
    exact ⟨rfl, Below.refl _ _⟩
  · obtain ⟨n, en⟩ : ∃ n, n = fs.length := ⟨_, rfl⟩
    rw [← en] at hc1 hn ⊢
    have En := hid en
    have H4 := hid h4
    clear en h4
    go_enter Tryd.func49, Tryd.ntmps49
    go_wp2
    go_step3
    go_wp2
    go_step3
    go_wp2
    go_loopg [3, 4, 10] n (fun g t o i wr => ∃ k tk, g + k = n ∧ i = .int .i64 (k : Nat) ∧ t = .int .u64 tk ∧ o = .bool true ∧ Hid (checkGo 0 fs = checkGo tk (fs.drop k)) ∧ Below w.heap.size w wr)
    case atStart => exact ⟨0, 0, rfl, rfl, rfl, rfl, rfl, Below.refl _ _⟩
    case round =>
      obtain ⟨k, tk, hk, rfl, rfl, rfl, hc, hb⟩ := hrel
      have HK := hid hk
      clear hk
      by_cases hlt : k < n
      · obtain ⟨⟨fa, fc⟩, hfk⟩ : ∃ f, fs[k]? = some f := ⟨_, List.getElem?_eq_getElem (by rw [← En.out]; exact hlt)⟩
        have hfb := hf _ (List.mem_of_getElem? hfk)
        obtain ⟨hf1, hf2, hf3, hf4⟩ := hfb
        dsimp only at hf1 hf2 hf3 hf4
        have hc0 : wr.cell? ⟨b, off + k * 2, none⟩ = some (.int .i64 fa) := (hb.cell (by exact h3)).trans (H4.out (k * 2) _ (flat_at _ 2 (fun _ => rfl) fs k 0 _ hfk (by omega)))
        have hc1 : wr.cell? ⟨b, off + k * 2 + 1, none⟩ = some (.int .i64 fc) := (hb.cell (by exact h3)).trans (H4.out (k * 2 + 1) _ (flat_at _ 2 (fun _ => rfl) fs k 1 _ hfk (by omega)))
        have hcs : checkGo tk (fs.drop k) = (isF fa fc && decide (bits .and .u64 tk (maskI fa fc) = 0) && checkGo (bits .or .u64 tk (maskI fa fc)) (fs.drop (k + 1))) := by rw [drop_at _ _ _ hfk]; rfl
        rw [hcs] at hc
        clear hcs
        have HF := hid hfk
        clear hfk
        obtain ⟨wb, hwb, hbb, hsb, hcb⟩ := boxed wr #[Value.int IntKind.i64 fa, Value.int IntKind.i64 fc] 65
        have hy : Below w.heap.size w wb := step hb hbb
        have hx0 := hcb wb 0 _ (Below.refl _ _) rfl
        have hx1 := hcb wb 1 _ (Below.refl _ _) rfl
        have HC := hid hcb
        clear hcb
        cases hif : isF fa fc with
        | false =>
          go_wp2_with fail
          refine (is_any _ _ _ hf1 hf2 hf3 hf4).mono ?_
          rintro e w1 ⟨rfl, hb1⟩
          go_wp2
          rw [Exit.noGoto_ret]
          go_ret
          exact ⟨by rw [hc.out, hif]; rfl, step hy hb1⟩
        | true => 
          go_wp2_with fail
          refine (is_any _ _ _ hf1 hf2 hf3 hf4).mono ?_
          rintro e w1 ⟨rfl, hb1⟩
          have hd0 := HC.out w1 0 _ hb1 rfl
          have hd1 := HC.out w1 1 _ hb1 rfl
          have hf5 : 0 ≤ fa ∧ 1 ≤ fc ∧ fa ≤ 64 ∧ fc ≤ 64 ∧ fa + fc ≤ 64 := by simpa [isF] using hif
          go_wp2_with fail
          refine (mask_any _ _ _ hf5.2.1 hf5.1 hf5.2.2.2.2).mono ?_
          rintro e w2 ⟨rfl, hb2⟩
          by_cases hz : bits BinOp.and IntKind.u64 tk (maskI fa fc) = 0
          · go_wp2_with fail
            refine (mask_any _ _ _ hf5.2.1 hf5.1 hf5.2.2.2.2).mono ?_
            rintro e w3 ⟨rfl, hb3⟩
            go_wp2
            go_roundg (gk - 1)
            case measure => have := HK.out; omega
            case rel => exact ⟨k + 1, _, by have := HK.out; omega, by go_num, rfl, rfl, hid (by rw [hc.out, hif]; simp [hz]), step (step (step hy hb1) hb2) hb3⟩
          · have hz' : (bits BinOp.and IntKind.u64 tk (maskI fa fc) == 0) = false := by simpa using hz
            have HZ := hid hz
            clear hz
            go_wp2
            rw [Exit.noGoto_ret]
            go_ret
            exact ⟨by rw [hc.out, hif]; simp [HZ.out, errOf], step (step hy hb1) hb2⟩
      · have e2 : k = n := by have := HK.out; omega
        subst e2
        have hc' : checkGo 0 fs = true := by rw [hc.out, List.drop_of_length_le (by rw [← En.out]; exact Nat.le_refl _)]; rfl
        clear hc HK hlt
        go_wp2
        rw [Exit.noGoto_ret]
        go_ret
        exact ⟨by rw [hc']; rfl, hb⟩

end Go.Proofs.YtpehnahmdfoobaaDoor
