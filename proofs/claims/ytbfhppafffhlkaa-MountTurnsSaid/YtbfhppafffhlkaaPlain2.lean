/- Plain laws on texts as numbers. No program in sight. -/
import Derived.Test.YtbfhppafffhlkaaPlain1
namespace Go.Proofs.Ytbfhppafffhlkaa.Pl

/-- The number of a text: its bytes, the first one lowest. -/
def textN : List UInt8 → Nat
  | [] => 0
  | c :: r => c.toNat + 256 * textN r
/-- Byte j of a text; 0 behind its end. -/
def bt (l : List UInt8) (j : Nat) : Nat := (l.getD j 0).toNat
theorem bt_lt (l : List UInt8) (j : Nat) : bt l j < 256 := (l.getD j 0).toNat_lt
theorem bt_end (l : List UInt8) (j : Nat) (h : l.length ≤ j) : bt l j = 0 := by unfold bt; rw [List.getD_eq_getElem?_getD, List.getElem?_eq_none h]; rfl
theorem textN_lt : ∀ (l : List UInt8), textN l < 256 ^ l.length
  | [] => by simp [textN]
  | c :: r => by
    have h := textN_lt r
    have h2 := c.toNat_lt
    simp only [textN, List.length_cons, Nat.pow_succ]
    omega
theorem textN_take (l : List UInt8) : ∀ k, textN (l.take (k + 1)) = textN (l.take k) + bt l k * 256 ^ k := by
  induction l with
  | nil => intro k; simp [textN, bt]
  | cons c r ih =>
    intro k
    cases k with
    | zero => simp [textN, bt]
    | succ k =>
      rw [List.take_succ_cons, List.take_succ_cons, textN, textN, ih k]
      have e : bt (c :: r) (k + 1) = bt r k := by simp [bt]
      rw [e, Nat.pow_succ, Nat.mul_add, ← Nat.add_assoc, Nat.mul_comm (256 ^ k) 256, ← Nat.mul_assoc (bt r k), Nat.mul_comm (bt r k) 256, Nat.mul_assoc]
theorem textN_take_lt (l : List UInt8) (k : Nat) : textN (l.take k) < 256 ^ k := by
  have h := textN_lt (l.take k)
  have h2 : 256 ^ (l.take k).length ≤ 256 ^ k := Nat.pow_le_pow_right (by decide) (List.length_take_le _ _)
  omega
theorem pow256 (k : Nat) : 256 ^ k = 2 ^ (8 * k) := by rw [Nat.pow_mul]
theorem or_add (x c k : Nat) (h : x < 256 ^ k) : x ||| (c * 256 ^ k) = x + c * 256 ^ k := by
  rw [pow256] at *
  rw [Nat.or_comm, Nat.mul_comm c, ← Nat.two_pow_add_eq_or_of_lt h, Nat.add_comm]
/-- A text's number may be. -/
def isText (l : List UInt8) : Bool := decide (l.length ≤ 8) && !l.contains 0
theorem no_zero_iff (l : List UInt8) : l.contains 0 = false ↔ ∀ j, j < l.length → bt l j ≠ 0 := by
  constructor
  · intro h j hj hb
    have : l.contains 0 = true := by
      rw [List.contains_iff_mem]
      have e : l[j] = 0 := by
        unfold bt at hb
        rw [List.getD_eq_getElem?_getD, List.getElem?_eq_getElem hj] at hb
        exact UInt8.toNat_inj.1 hb
      rw [← e]; exact List.getElem_mem hj
    rw [h] at this; cases this
  · intro h
    cases hc : l.contains 0 with
    | false => rfl
    | true =>
      rw [List.contains_iff_mem] at hc
      obtain ⟨j, hj, e⟩ := List.getElem_of_mem hc
      exact absurd (by unfold bt; rw [List.getD_eq_getElem?_getD, List.getElem?_eq_getElem hj, e]; rfl) (h j hj)
theorem mask8 (x : Nat) : x &&& 255 = x % 256 := Nat.and_two_pow_sub_one_eq_mod x 8
end Go.Proofs.Ytbfhppafffhlkaa.Pl
