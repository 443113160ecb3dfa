/- Plain laws on the parts of a text. No program in sight. -/
import Derived.Lib.Strings
import Derived.Lib.Bytealg
import Derived.Lib.Join
namespace Go.Proofs.Ytbfhppafffhlkaa.Pth
open Go

def fw (l : List UInt8) : List UInt8 := l.takeWhile (· != 47)
def bw (l : List UInt8) : List UInt8 := l.dropWhile (· != 47)
theorem fw_bw (l : List UInt8) : fw l ++ bw l = l := List.takeWhile_append_dropWhile
/-- What stands behind each / of a text that begins with one. -/
def segsF : Nat → List UInt8 → List (List UInt8)
  | 0, _ => []
  | _ + 1, [] => []
  | f + 1, c :: r => if c = 47 then fw r :: segsF f (bw r) else []
def segs (l : List UInt8) : List (List UInt8) := segsF l.length l
theorem bw_le (l : List UInt8) : (bw l).length ≤ l.length := by have := congrArg List.length (fw_bw l); rw [List.length_append] at this; omega
theorem segsF_fuel : ∀ (f g : Nat) (l : List UInt8), l.length ≤ f → l.length ≤ g → segsF f l = segsF g l
  | _, _, [], _, _ => by rename_i f g _ _; cases f <;> cases g <;> rfl
  | 0, _, _ :: _, h, _ => by simp at h
  | _ + 1, 0, _ :: _, _, h => by simp at h
  | f + 1, g + 1, c :: r, h, h' => by
    unfold segsF
    have := bw_le r
    simp at h h'
    rw [segsF_fuel f g (bw r) (by omega) (by omega)]
theorem segs_cons (r : List UInt8) : segs (47 :: r) = fw r :: segs (bw r) := by
  show segsF (r.length + 1) (47 :: r) = _
  unfold segsF
  rw [if_pos rfl, segsF_fuel r.length (bw r).length (bw r) (bw_le r) (Nat.le_refl _)]; rfl
theorem segs_no (l : List UInt8) (h : l.head? ≠ some 47) : segs l = [] := by
  cases l with
  | nil => rfl
  | cons c r =>
    show segsF (r.length + 1) (c :: r) = _
    unfold segsF
    rw [if_neg (by intro e; exact h (by rw [e]; rfl))]

theorem index_fw (l : List UInt8) : Lib.indexByte l 47 = if (fw l).length < l.length then ((fw l).length : Int) else -1 := by
  induction l with
  | nil => rfl
  | cons c r ih =>
    unfold Lib.indexByte
    by_cases h : c = 47
    · subst h; simp [fw]
    · have e : fw (c :: r) = c :: fw r := by simp [fw, h]
      rw [e, ih]
      by_cases h2 : (fw r).length < r.length
      · simp [h, h2]
      · simp [h, h2]
theorem fw_le (l : List UInt8) : (fw l).length ≤ l.length := by have := congrArg List.length (fw_bw l); rw [List.length_append] at this; omega
theorem take_fw (l : List UInt8) : l.take (fw l).length = fw l := by
  have h := List.take_left (l₁ := fw l) (l₂ := bw l)
  rwa [fw_bw] at h
theorem drop_fw (l : List UInt8) : l.drop (fw l).length = bw l := by
  have h := List.drop_left (l₁ := fw l) (l₂ := bw l)
  rwa [fw_bw] at h
theorem head_prefix (l : List UInt8) : Lib.hasPrefix l [47] = true ↔ ∃ r, l = 47 :: r := by
  cases l with
  | nil => simp [Lib.hasPrefix]
  | cons c r => simp [Lib.hasPrefix, List.isPrefixOf]; exact eq_comm

/-- How long texts are together, a / ahead of each. -/
def tot : List (List UInt8) → Nat
  | [] => 0
  | l :: r => l.length + 1 + tot r
theorem tot_append (a b : List (List UInt8)) : tot (a ++ b) = tot a + tot b := by
  induction a with
  | nil => simp [tot]
  | cons x r ih => simp [tot, ih]; omega
theorem join_cons (l : List UInt8) (r : List (List UInt8)) : 47 :: Lib.join (l :: r) [47] = 47 :: l ++ (if r = [] then [] else 47 :: Lib.join r [47]) := by
  unfold Lib.join
  cases r with
  | nil => simp [List.intercalate]
  | cons m r => simp [List.intercalate]
theorem join_tot (ls : List (List UInt8)) : (Lib.join ls [47]).length ≤ tot ls := by
  induction ls with
  | nil => simp [Lib.join, tot, List.intercalate]
  | cons l r ih =>
    have h := congrArg List.length (join_cons l r)
    simp only [List.length_cons, List.length_append] at h
    unfold tot
    by_cases hr : r = []
    · rw [if_pos hr] at h; simp at h; omega
    · rw [if_neg hr] at h; simp at h; omega
theorem segs_tot_go : ∀ (n : Nat) (l : List UInt8), l.length ≤ n → tot (segs l) ≤ l.length
  | _, [], _ => by simp [segs, segsF, tot]
  | 0, _ :: _, h => by simp at h
  | n + 1, c :: r, h => by
    by_cases hc : c = 47
    · subst hc
      rw [segs_cons]
      have h1 := bw_le r
      have h2 := segs_tot_go n (bw r) (by simp at h; omega)
      have h3 := congrArg List.length (fw_bw r)
      rw [List.length_append] at h3
      unfold tot
      simp; omega
    · rw [segs_no _ (by simp; exact hc)]
      simp [tot]
theorem segs_tot (l : List UInt8) : tot (segs l) ≤ l.length := segs_tot_go l.length l (Nat.le_refl _)
theorem len_tot (ls : List (List UInt8)) : ls.length ≤ tot ls := by
  induction ls with
  | nil => simp
  | cons l r ih => simp [tot]; omega
end Go.Proofs.Ytbfhppafffhlkaa.Pth
