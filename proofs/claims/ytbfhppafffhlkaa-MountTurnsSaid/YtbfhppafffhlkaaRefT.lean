/- The walks of the document's answer for layer 1: texts. -/
import Derived.Test.YtbfhppafffhlkaaText
namespace Go.Proofs.Ytbfhppafffhlkaa
open Go.RowKit
open Go.Proofs
set_option linter.unusedVariables false

theorem str_at (s : ByteArray) (k : Nat) (h : k < s.size) : (s[k]'h).toNat = Pl.bt s.data.toList k := by
  unfold Pl.bt
  rw [List.getD_eq_getElem?_getD, List.getElem?_eq_getElem (by rw [← Lib.size_eq]; exact h)]
  rfl

def rBackV (x : Nat) : Value := if Pl.textN (backL x) = x then .tuple #[.string ⟨(backL x).toArray⟩, .bool true] else .tuple #[.string ⟨#[]⟩, .bool false]
theorem textN_snoc (L : List UInt8) (c : UInt8) : Pl.textN (L ++ [c]) = Pl.textN L + c.toNat * 256 ^ L.length := by
  induction L with
  | nil => simp [Pl.textN]
  | cons d r ih =>
    rw [List.cons_append, Pl.textN, Pl.textN, ih, List.length_cons, Nat.pow_succ, Nat.mul_add, ← Nat.add_assoc, Nat.mul_comm (256 ^ r.length) 256, ← Nat.mul_assoc, ← Nat.mul_assoc, Nat.mul_comm c.toNat 256]
theorem backGo_nil (f : Nat) : backGo f 0 = [] := by cases f <;> simp [backGo]

theorem join_bytes (L : List UInt8) (c : UInt8) : (⟨L.toArray⟩ ++ ⟨#[c]⟩ : ByteArray) = ⟨(L ++ [c]).toArray⟩ := by
  apply ByteArray.ext
  rw [ByteArray.data_append]; simp

theorem rBack_any (x : Nat) (w : World) (hx : x < 18446744073709551616) : Calls Try.prog 29 #[.int .u64 (x : Nat)] w (Ret (rBackV x) w) := by
  go_enter Try.func29, Try.ntmps29
  go_wp2
  go_loopg [0, 4] 8 (fun g n t wr => ∃ (k y : Nat) (L : List UInt8), g + k = 8 ∧ y < 256 ^ g ∧ n = .int .u64 (y : Nat) ∧ t = .string ⟨L.toArray⟩ ∧ Hid (backL x = L ++ backGo g y) ∧ Hid (Pl.textN L + y * 256 ^ k = x) ∧ Hid (L.length = k) ∧ Below w.heap.size w wr)
  case atStart => exact ⟨0, x, [], rfl, by omega, rfl, rfl, rfl, by simp [Hid, Pl.textN], rfl, Below.refl _ _⟩
  case round =>
    obtain ⟨k, y, L, hk, hy, rfl, rfl, hb, ht, hL, hw⟩ := hrel
    have hk8 : 256 ^ gk ≤ 256 ^ 8 := Nat.pow_le_pow_right (by decide) (by omega)
    have hy2 : y < 18446744073709551616 := by omega
    have HK := hid hk
    clear hk
    by_cases h0 : y = 0
    · subst h0
      have e : rBackV x = .tuple #[.string ⟨L.toArray⟩, .bool true] := by
        have hb' : backL x = L := by rw [hb.out, backGo_nil, List.append_nil]
        unfold rBackV
        rw [hb', if_pos (by have := ht.out; omega)]
      have E := hid e
      clear e hy hk8
      go_wp2
      go_ret2
      exact ⟨by rw [E.out]; rfl, hw⟩
    · have hy0 : 0 < y := by omega
      clear h0
      obtain ⟨g, rfl⟩ : ∃ g, gk = g + 1 := ⟨gk - 1, by cases gk <;> omega⟩
      have hb1 := hb.out
      unfold backGo at hb1
      by_cases hz : y % 256 = 0
      · rw [if_pos hz, List.append_nil] at hb1
        have e : rBackV x = .tuple #[.string ⟨#[]⟩, .bool false] := by
          unfold rBackV
          have : 1 * 256 ^ k ≤ y * 256 ^ k := Nat.mul_le_mul_right _ hy0
          have hp : 0 < 256 ^ k := Nat.pow_pos (by decide)
          rw [hb1, if_neg (by have := ht.out; omega)]
        have E := hid e
        have hz2 : (((y : Nat) : Int) % 256 == 0) = true := by simp; omega
        clear e hy hk8 hz hb1
        go_wp2
        go_ret2
        exact ⟨by rw [E.out]; rfl, hw⟩
      · rw [if_neg hz] at hb1
        obtain ⟨d, hd⟩ : ∃ d, y % 256 = d := ⟨_, rfl⟩
        obtain ⟨q, hq⟩ : ∃ q, y / 256 = q := ⟨_, rfl⟩
        have hm : ((y : Nat) : Int) % 256 = ((d : Nat) : Int) := by omega
        have hdv : ((y : Nat) : Int) / 256 = ((q : Nat) : Int) := by omega
        have hz2 : (((d : Nat) : Int) == 0) = false := by simp; omega
        have hdl : d < 256 := by omega
        have hc : IntKind.u8.wrap ((d : Nat) : Int) = ((d : Nat) : Int) := by rw [IntKind.wrap_u8]; omega
        rw [hd, hq] at hb1
        have hdn : (UInt8.ofNat d).toNat = d := by simp; omega
        have ht' : Pl.textN (L ++ [UInt8.ofNat d]) + q * 256 ^ (k + 1) = x := by
          have h1 := ht.out
          rw [textN_snoc, hL.out, hdn, Nat.pow_succ, Nat.mul_comm (256 ^ k) 256, ← Nat.mul_assoc, Nat.add_assoc, ← Nat.add_mul]
          rw [show d + q * 256 = y by omega]; exact h1
        have hy' : q < 256 ^ g := by rw [Nat.pow_succ] at hy; omega
        have hlen : L.length ≤ 8 := by have := hL.out; have := HK.out; omega
        have HB := hid hb1
        have HT := hid ht'
        have HY := hid hy'
        clear hb1 ht' hy' hy hk8 hz hd hq hdn
        obtain ⟨w3, hw3, hb3, hs3, hl3⟩ := made wr #[.int .u8 ((d : Nat) : Int)] 5 1 (Lib.byteCells [UInt8.ofNat d]) (by decide) (by
          intro i v hv
          have : (UInt8.ofNat d).toNat = d := by simp; omega
          simpa [Lib.byteCells, this] using hv)
        have hconv : (convert 83 9 (.slice (some ⟨wr.heap.size, 0, none⟩) 1 1)).run Try.prog w3 = .ok (.string ⟨#[UInt8.ofNat d]⟩) w3 := conv_bytes w3 _ 1 [UInt8.ofNat d] hl3
        have HL3 := hid hl3
        clear hl3
        have hsz1 : (⟨L.toArray⟩ : ByteArray).size = L.length := Lib.size_eq _
        have HSZ := hid hsz1
        clear hsz1
        go_wp2
        go_roundg g
        case measure => omega
        case rel => exact ⟨k + 1, q, _, by have := HK.out; omega, HY.out, rfl, congrArg Value.string (join_bytes L (UInt8.ofNat d)), hid (by rw [List.append_assoc]; exact HB.out), HT, hid (by have := hL.out; simp; omega), step hw hb3⟩
end Go.Proofs.Ytbfhppafffhlkaa
