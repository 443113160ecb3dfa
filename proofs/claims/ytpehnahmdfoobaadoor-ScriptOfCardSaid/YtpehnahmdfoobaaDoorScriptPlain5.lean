/- Scripts: plain words: runs as they come, number by number. No program in sight. -/
import Derived.Test.YtpehnahmdfoobaaDoorScriptPlain
namespace Go.Proofs.YtpehnahmdfoobaaDoor
set_option linter.unusedVariables false

theorem sameLen_snoc (x n : Int) : ∀ r : List Int, sameLen x (r ++ [n]) = if sameLen x r = r.length then r.length + (if n = x then 1 else 0) else sameLen x r
  | [] => by simp [sameLen]
  | y :: r => by
    rw [List.cons_append]
    unfold sameLen
    by_cases h : y = x
    · rw [if_pos h, if_pos h, sameLen_snoc x n r, List.length_cons]
      by_cases h2 : sameLen x r = r.length
      · rw [if_pos h2, if_pos (show sameLen x r + 1 = r.length + 1 by omega)]; split <;> omega
      · rw [if_neg h2, if_neg (show ¬ sameLen x r + 1 = r.length + 1 by omega)]
    · rw [if_neg h, if_neg h, if_neg (show ¬ 0 = (y :: r).length by rw [List.length_cons]; omega)]
/-- A further number behind runs. -/
def stepR : List (Int × Nat) → Int → List (Int × Nat)
  | [], n => [(n, 1)]
  | [(c, k)], n => if c = n ∧ k < 256 then [(c, k + 1)] else [(c, k), (n, 1)]
  | p :: q :: r, n => p :: stepR (q :: r) n
theorem stepR_cons (p : Int × Nat) (l : List (Int × Nat)) (n : Int) (h : l ≠ []) : stepR (p :: l) n = p :: stepR l n := by
  cases l with
  | nil => exact absurd rfl h
  | cons q r => rfl
theorem stepR_last (pre : List (Int × Nat)) (c : Int) (k : Nat) (n : Int) : stepR (pre ++ [(c, k)]) n = if c = n ∧ k < 256 then pre ++ [(c, k + 1)] else pre ++ [(c, k), (n, 1)] := by
  induction pre with
  | nil => rfl
  | cons p pre ih =>
    rw [List.cons_append, stepR_cons p _ n (by simp), ih]
    split <;> rfl
theorem runs_one (n : Int) : runsL [n] = [(n, 1)] := rfl
theorem runs_snoc (n : Int) : ∀ (m : Nat) (l : List Int), l.length ≤ m → runsL (l ++ [n]) = stepR (runsL l) n
  | _, [], _ => rfl
  | 0, x :: r, h => by simp at h
  | m + 1, x :: r, h => by
    have h1 := runLen_pos x r
    have h2 := runLen_le x r
    have h3 := sameLen_le x r
    have e1 := runLen_eq x r
    have e2 := runLen_eq x (r ++ [n])
    have e3 := sameLen_snoc x n r
    rw [List.length_cons] at h h2
    rw [List.cons_append, runsL_cons, runsL_cons x r]
    by_cases hk : runLen (x :: r) < r.length + 1
    · have e : runLen (x :: (r ++ [n])) = runLen (x :: r) := by
        rw [e2, e1, e3]
        split
        · split <;> omega
        · rfl
      have ed : (x :: (r ++ [n])).drop (runLen (x :: r)) = (x :: r).drop (runLen (x :: r)) ++ [n] := by
        rw [← List.cons_append, List.drop_append_of_le_length (by rw [List.length_cons]; omega)]
      have hl : ((x :: r).drop (runLen (x :: r))).length ≤ m := by rw [List.length_drop, List.length_cons]; omega
      have hne : runsL ((x :: r).drop (runLen (x :: r))) ≠ [] := by
        cases hd : (x :: r).drop (runLen (x :: r)) with
        | nil => have := congrArg List.length hd; rw [List.length_drop, List.length_cons, List.length_nil] at this; omega
        | cons y t => rw [runsL_cons]; simp
      rw [e, ed, runs_snoc n m _ hl, stepR_cons _ _ _ hne]
    · have hs : sameLen x r = r.length := by omega
      have hr : r.length + 1 ≤ 256 := by omega
      rw [if_pos hs] at e3
      have ed : (x :: r).drop (runLen (x :: r)) = [] := List.drop_eq_nil_of_le (by rw [List.length_cons]; omega)
      have ek : runLen (x :: r) = r.length + 1 := by omega
      rw [ed, runsL_nil, ek]
      show _ = if x = n ∧ r.length + 1 < 256 then [(x, r.length + 1 + 1)] else [(x, r.length + 1), (n, 1)]
      by_cases hn : n = x
      · rw [if_pos hn] at e3
        by_cases h256 : r.length + 1 < 256
        · rw [if_pos (show x = n ∧ r.length + 1 < 256 from ⟨hn.symm, h256⟩)]
          have ek2 : runLen (x :: (r ++ [n])) = r.length + 1 + 1 := by omega
          rw [ek2, List.drop_eq_nil_of_le (by simp), runsL_nil]
        · rw [if_neg (show ¬ (x = n ∧ r.length + 1 < 256) from fun h => h256 h.2)]
          have ek2 : runLen (x :: (r ++ [n])) = r.length + 1 := by omega
          rw [ek2]
          have ed2 : (x :: (r ++ [n])).drop (r.length + 1) = [n] := by rw [List.drop_succ_cons, List.drop_left]
          rw [ed2, runs_one]
      · rw [if_neg hn] at e3
        rw [if_neg (fun h => hn h.1.symm)]
        have ek2 : runLen (x :: (r ++ [n])) = r.length + 1 := by omega
        rw [ek2]
        have ed2 : (x :: (r ++ [n])).drop (r.length + 1) = [n] := by rw [List.drop_succ_cons, List.drop_left]
        rw [ed2, runs_one]
theorem runs_next {l : List Int} {k : Nat} {n : Int} (h : l[k]? = some n) : runsL (l.take (k + 1)) = stepR (runsL (l.take k)) n := by
  rw [List.take_add_one, h]
  exact runs_snoc n _ _ (Nat.le_refl _)
end Go.Proofs.YtpehnahmdfoobaaDoor
