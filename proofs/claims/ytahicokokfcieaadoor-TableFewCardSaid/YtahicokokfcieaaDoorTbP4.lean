/- Tables: how far who looks has to go; plain words. -/
import Derived.Test.YtahicokokfcieaaDoorTgBb
namespace Go.Proofs.YtahicokokfcieaaDoor
open Go.RowKit
open Go.Proofs
set_option linter.unusedVariables false
/-- Who looks in a list has begun. -/
def LInv (l : Lk) : Prop := l.ph = 1 → 0 ≤ l.s.ph ∧ l.s.ph ≤ 3
theorem linv_step {M : Mem} {l : Lk} (hok : okM M = true) (hW : ∀ x ∈ M.W, x < 18446744073709551616) (ho : l.Ok) (hi : LInv l) : LInv (lookE M l).2.1 := by
  unfold lookE
  split
  · dsimp only
    split
    · intro h; exact absurd h (by show ¬ (3 : Int) = 1; decide)
    · intro _; exact ⟨by show (0 : Int) ≤ 0; decide, by show (0 : Int) ≤ 3; decide⟩
  · split
    · rename_i h1
      obtain ⟨p0, p3⟩ := hi h1
      obtain ⟨-, -, -, q0, q5⟩ := seekE_ok hok hW ho.s p0 (by omega)
      have hP : sseekP M l.s = ((seekE M l.s).1, (seekE M l.s).2.1, 0) := by
        unfold sseekP
        rw [if_neg (by rw [hok]; decide), if_neg (by omega)]
      rw [hP]
      intro h
      dsimp only at h ⊢
      split at h
      · exact absurd h (by decide)
      · split at h
        · exact absurd h (by decide)
        · omega
    · exact hi
theorem chk_of {M : Mem} {l l' : Lk} (hi : LInv l) (h : lookE M l = (M, l', true)) : chkE l = true := by
  have h01 : l.ph = 0 ∨ l.ph = 1 := by
    by_cases h0 : l.ph = 0
    · exact .inl h0
    · by_cases h1 : l.ph = 1
      · exact .inr h1
      · exfalso
        unfold lookE at h
        rw [if_neg h0, if_neg h1] at h
        simp at h
  unfold chkE
  rcases h01 with h0 | h1
  · rw [if_neg (by omega), h0]; rfl
  · obtain ⟨p0, p3⟩ := hi h1
    rw [if_pos h1, decide_eq_true p0, decide_eq_true (show l.s.ph < 4 by omega)]; rfl
theorem LkRun.uniq {M : Mem} {l e : Lk} {n : Nat} (h : LkRun M l n e) : ∀ {n' e'}, LkRun M l n' e' → n = n' := by
  induction h with
  | done o q =>
    intro n' e' h'
    rcases h'.two with ⟨rfl, -, -⟩ | ⟨l', g, rfl, q', -⟩
    · rfl
    · rw [q] at q'; simp at q'
  | step o q r ih =>
    intro n' e' h'
    rcases h'.two with ⟨rfl, -, q'⟩ | ⟨l', g, rfl, q', r'⟩
    · rw [q] at q'; simp at q'
    · rw [q] at q'
      simp only [Prod.mk.injEq] at q'
      obtain ⟨-, rfl, -⟩ := q'
      rw [ih r']
/-- How many rows a bucket has. -/
def cntB (b : Nat) (xs : List Rw) : Nat := (xs.filter fun r => decide (r.1 = b)).length
theorem cntB_append (b : Nat) (xs ys : List Rw) : cntB b (xs ++ ys) = cntB b xs + cntB b ys := by simp [cntB]
theorem cntB_map (b b' : Nat) : ∀ ns : List Nd, cntB b (ns.map (rwOf b')) = if b' = b then ns.length else 0
  | [] => by simp [cntB]
  | t :: ts => by
    have ih := cntB_map b b' ts
    unfold cntB at ih ⊢
    rw [List.map_cons, List.filter_cons]
    by_cases h : b' = b
    · rw [if_pos (by exact decide_eq_true h), List.length_cons, ih, if_pos h, if_pos h, List.length_cons]
    · rw [if_neg (by exact fun e => h (of_decide_eq_true e)), ih, if_neg h, if_neg h]
theorem cntB_rows (b : Nat) : ∀ (nss : List (List Nd)) (b0 : Nat), cntB b (rowsB b0 nss) = if b0 ≤ b then ((nss[b - b0]?).getD []).length else 0
  | [], b0 => by simp [rowsB, cntB]
  | ns :: q, b0 => by
    simp only [rowsB]
    rw [cntB_append, cntB_map, cntB_rows b q (b0 + 1)]
    by_cases h : b0 = b
    · subst h
      rw [if_pos rfl, if_neg (by omega), if_pos (Nat.le_refl _), Nat.sub_self]
      rfl
    · rw [if_neg h, Nat.zero_add]
      by_cases h2 : b0 ≤ b
      · rw [if_pos (by omega), if_pos h2, show b - b0 = (b - (b0 + 1)) + 1 by omega, List.getElem?_cons_succ]
      · rw [if_neg (by omega), if_neg h2]
theorem cntB_le (b : Nat) (xs : List Rw) : cntB b xs ≤ xs.length := List.length_filter_le _ _
/-- What TableFew asks of who looked. -/
theorem few_law {M : Mem} {root key : Nat} {xs : List Rw} {met : List Nat} (hok : okM M = true) (h : rowsW M root = some (xs, met)) (hk : key < 18446744073709551616) :
    ∃ a d f, 2 ≤ d ∧ d ≤ 4 ∧ (lookT M root key).1 = ⟨2, root, key, a, ((2 ^ d : Nat) : Int), f⟩ ∧ (lookT M root key).2 ≤ 2 + 4 * cntB (ofN key d) xs ∧ (f.found = true ↔ ∃ r ∈ xs, r.2.2.1 = key) ∧ (∀ r ∈ xs, r.2.2.1 = key → r.2.2.2 = f.val) := by
  obtain ⟨a, d, nss, hT, rfl, rfl⟩ := tab_of hok h
  have hfi := found_iff hT hk
  have hfv := fun r (hr : r ∈ rowsB 0 nss) (he : r.2.2.1 = key) => (found_val hT hr he).2.1
  obtain ⟨p, ns, q, rfl, hp, hd2, hd4, ho, hns, hkeys, b1, b4, hA, hlk⟩ := tab_split (key := key) hT
  rw [hlk] at hfi hfv ⊢
  refine ⟨a, d, _, hd2, hd4, rfl, ?_, hfi, fun r hr he => (hfv r hr he).symm⟩
  have hlen := findS_len (hashN key) key (a + ofN key d) ns
  have hc : cntB (ofN key d) (rowsB 0 (p ++ ns :: q)) = ns.length := by
    rw [cntB_rows, if_pos (Nat.zero_le _), Nat.sub_zero, ← hp]
    simp
  rw [hc]
  dsimp only
  omega
end Go.Proofs.YtahicokokfcieaaDoor
