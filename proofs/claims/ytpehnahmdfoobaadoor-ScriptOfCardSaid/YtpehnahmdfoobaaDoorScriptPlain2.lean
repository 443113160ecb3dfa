/- Scripts: plain words: the runs of a row, one behind the other, are the row; none can be longer. No program in sight. -/
import Derived.Test.YtpehnahmdfoobaaDoorScriptPlain
namespace Go.Proofs.YtpehnahmdfoobaaDoor
set_option linter.unusedVariables false

def flatR (l : List (Int × Nat)) : List Int := l.flatMap fun p => List.replicate p.2 p.1
theorem runLen_take (x : Int) (r : List Int) : (x :: r).take (runLen (x :: r)) = List.replicate (runLen (x :: r)) x := by
  apply List.ext_getElem?
  intro k
  by_cases h : k < runLen (x :: r)
  · rw [List.getElem?_take_of_lt h, (runIn h).2.2, List.getElem?_replicate, if_pos h]
  · rw [List.getElem?_eq_none (by rw [List.length_take]; omega), List.getElem?_eq_none (by rw [List.length_replicate]; omega)]
/-- The runs of a row, one behind the other, are the row. -/
theorem runs_flat : ∀ (f : Nat) (l : List Int), l.length ≤ f → flatR (runsF f l) = l
  | 0, [], _ => rfl
  | _ + 1, [], _ => rfl
  | 0, x :: r, h => by simp at h
  | f + 1, x :: r, h => by
    have h1 := runLen_pos x r
    have hl : ((x :: r).drop (runLen (x :: r))).length ≤ f := by rw [List.length_drop]; omega
    show List.replicate (runLen (x :: r)) x ++ flatR (runsF f ((x :: r).drop (runLen (x :: r)))) = x :: r
    rw [runs_flat f _ hl, ← runLen_take, List.take_append_drop]
theorem runs_memL {l : List Int} {p : Int × Nat} (h : p ∈ runsL l) : 1 ≤ p.2 ∧ p.2 ≤ 256 := by
  have go : ∀ (f : Nat) (l : List Int) (p : Int × Nat), p ∈ runsF f l → 1 ≤ p.2 ∧ p.2 ≤ 256 := by
    intro f
    induction f with
    | zero => intro l p h; simp [runsF] at h
    | succ f ih =>
      intro l p h
      cases l with
      | nil => simp [runsF] at h
      | cons x r =>
        rcases List.mem_cons.mp (show p ∈ (x, runLen (x :: r)) :: runsF f ((x :: r).drop (runLen (x :: r))) from h) with rfl | h
        · exact runLen_pos x r
        · exact ih _ _ h
  exact go _ _ _ h
theorem runs_head (f : Nat) (l : List Int) (p : Int × Nat) (h : (runsF f l)[0]? = some p) : l[0]? = some p.1 := by
  cases f with
  | zero => simp [runsF] at h
  | succ f =>
    cases l with
    | nil => simp [runsF] at h
    | cons x r =>
      have : (x, runLen (x :: r)) = p := by simpa [runsF] using h
      rw [← this]; rfl
/-- Of two runs beside each other with the same number the first one is as long as can be. -/
theorem runs_adj : ∀ (f : Nat) (l : List Int) (i : Nat) (p q : Int × Nat), (runsF f l)[i]? = some p → (runsF f l)[i + 1]? = some q → p.1 = q.1 → p.2 = 256
  | 0, _, _, _, _, h, _, _ => by simp [runsF] at h
  | f + 1, [], _, _, _, h, _, _ => by simp [runsF] at h
  | f + 1, x :: r, i, p, q, hp, hq, he => by
    have hq' : (runsF f ((x :: r).drop (runLen (x :: r))))[i]? = some q := by simpa [runsF] using hq
    cases i with
    | zero =>
      have hpe : (x, runLen (x :: r)) = p := by simpa [runsF] using hp
      have hqh := runs_head f _ q hq'
      rw [List.getElem?_drop] at hqh
      subst hpe
      show runLen (x :: r) = 256
      rcases run_end (x := x) (r := r) rfl with h | ⟨-, h⟩ | ⟨-, -, y, hy, hne⟩
      · rw [List.getElem?_eq_none (by omega)] at hqh; cases hqh
      · exact h
      · rw [Nat.add_zero, hy] at hqh
        injection hqh with hqh
        exact absurd (hqh.trans he.symm) hne
    | succ i =>
      exact runs_adj f _ i p q (by simpa [runsF] using hp) hq' he
theorem runs_flatL (l : List Int) : flatR (runsL l) = l := runs_flat _ l (Nat.le_refl _)
theorem runs_adjL (l : List Int) (i : Nat) (p q : Int × Nat) (h : (runsL l)[i]? = some p) (h' : (runsL l)[i + 1]? = some q) (he : p.1 = q.1) : p.2 = 256 := runs_adj _ l i p q h h' he
theorem flatR_snoc (l : List (Int × Nat)) (p : Int × Nat) : flatR (l ++ [p]) = flatR l ++ List.replicate p.2 p.1 := by simp [flatR]
theorem flatR_take_le (l : List (Int × Nat)) (k : Nat) : (flatR (l.take k)).length ≤ (flatR l).length := by
  have : flatR l = flatR (l.take k) ++ flatR (l.drop k) := by
    show _ = (l.take k).flatMap _ ++ (l.drop k).flatMap _
    rw [← List.flatMap_append, List.take_append_drop]; rfl
  rw [this, List.length_append]; omega
end Go.Proofs.YtpehnahmdfoobaaDoor
