/- Scripts: plain words: the runs of a row of numbers. No program in sight. -/
namespace Go.Proofs.YtpehnahmdfoobaaDoor
set_option linter.unusedVariables false

def sameLen (x : Int) : List Int → Nat
  | [] => 0
  | y :: r => if y = x then sameLen x r + 1 else 0
def runLen : List Int → Nat
  | [] => 0
  | x :: r => min 256 (sameLen x r + 1)
def runsF : Nat → List Int → List (Int × Nat)
  | 0, _ => []
  | _ + 1, [] => []
  | f + 1, x :: r => (x, runLen (x :: r)) :: runsF f ((x :: r).drop (runLen (x :: r)))
/-- The runs of a row. -/
def runsL (l : List Int) : List (Int × Nat) := runsF l.length l
theorem runLen_eq (x : Int) (r : List Int) : runLen (x :: r) = min 256 (sameLen x r + 1) := rfl
theorem runLen_pos (x : Int) (r : List Int) : 1 ≤ runLen (x :: r) ∧ runLen (x :: r) ≤ 256 := by rw [runLen_eq]; omega
theorem sameLen_le (x : Int) : ∀ r : List Int, sameLen x r ≤ r.length
  | [] => Nat.le_refl _
  | y :: r => by
    unfold sameLen
    split
    · have := sameLen_le x r; simp; omega
    · omega
theorem runLen_le (x : Int) (r : List Int) : runLen (x :: r) ≤ (x :: r).length := by
  have := sameLen_le x r
  rw [runLen_eq]
  simp only [List.length_cons]
  omega
theorem runsF_same : ∀ (f g : Nat) (l : List Int), l.length ≤ f → l.length ≤ g → runsF f l = runsF g l
  | 0, 0, [], _, _ => rfl
  | 0, g + 1, [], _, _ => rfl
  | f + 1, 0, [], _, _ => rfl
  | f + 1, g + 1, [], _, _ => rfl
  | 0, _, x :: r, h, _ => by simp at h
  | _ + 1, 0, x :: r, _, h => by simp at h
  | f + 1, g + 1, x :: r, h, h' => by
    have h1 := runLen_pos x r
    have hl : ((x :: r).drop (runLen (x :: r))).length ≤ f := by rw [List.length_drop]; omega
    have hl2 : ((x :: r).drop (runLen (x :: r))).length ≤ g := by rw [List.length_drop]; omega
    show (x, runLen (x :: r)) :: runsF f ((x :: r).drop (runLen (x :: r))) = (x, runLen (x :: r)) :: runsF g ((x :: r).drop (runLen (x :: r)))
    rw [runsF_same f g _ hl hl2]
theorem runsF_enough (f : Nat) (l : List Int) (h : l.length ≤ f) : runsF f l = runsL l := runsF_same f l.length l h (Nat.le_refl _)
theorem runsL_nil : runsL [] = [] := rfl
theorem runsL_cons (x : Int) (r : List Int) : runsL (x :: r) = (x, runLen (x :: r)) :: runsL ((x :: r).drop (runLen (x :: r))) := by
  have h1 := runLen_pos x r
  have hl2 : ((x :: r).drop (runLen (x :: r))).length ≤ r.length := by rw [List.length_drop, List.length_cons]; omega
  show (x, runLen (x :: r)) :: runsF r.length ((x :: r).drop (runLen (x :: r))) = _
  rw [runsF_enough r.length _ hl2]
theorem sameLen_at (x : Int) : ∀ (r : List Int) (k : Nat), k < sameLen x r → r[k]? = some x
  | [], k, h => by simp [sameLen] at h
  | y :: r, k, h => by
    unfold sameLen at h
    split at h
    · rename_i e
      subst e
      cases k with
      | zero => rfl
      | succ k => simpa using sameLen_at y r k (by omega)
    · omega
theorem sameLen_end (x : Int) : ∀ (r : List Int) (y : Int), r[sameLen x r]? = some y → y ≠ x
  | [], y, h => by simp at h
  | z :: r, y, h => by
    unfold sameLen at h
    split at h
    · rename_i e
      exact sameLen_end x r y (by simpa using h)
    · rename_i e
      simp at h
      rw [← h]; exact e
/-- Ahead of a run's end there is its number. -/
theorem runIn {x : Int} {r : List Int} {k : Nat} (h : k < runLen (x :: r)) : k < 256 ∧ k < (x :: r).length ∧ (x :: r)[k]? = some x := by
  have hle := runLen_le x r
  rw [runLen_eq] at h
  refine ⟨by omega, ?_, ?_⟩
  · have := sameLen_le x r; simp only [List.length_cons]; omega
  · cases k with
    | zero => rfl
    | succ k => simpa using sameLen_at x r k (by omega)
theorem run_end {x : Int} {r : List Int} {k : Nat} (h : k = runLen (x :: r)) : k = (x :: r).length ∨ (k < (x :: r).length ∧ k = 256) ∨ (k < (x :: r).length ∧ k < 256 ∧ ∃ y, (x :: r)[k]? = some y ∧ y ≠ x) := by
  have hle := runLen_le x r
  have hs := sameLen_le x r
  by_cases h1 : k = (x :: r).length
  · exact .inl h1
  · have hlt : k < (x :: r).length := by omega
    rw [runLen_eq] at h
    by_cases h2 : k = 256
    · exact .inr (.inl ⟨hlt, h2⟩)
    · refine .inr (.inr ⟨hlt, by omega, ?_⟩)
      have e : k = sameLen x r + 1 := by omega
      subst e
      simp only [List.length_cons] at hlt
      obtain ⟨y, hy⟩ : ∃ y, r[sameLen x r]? = some y := ⟨_, List.getElem?_eq_getElem (by omega)⟩
      exact ⟨y, by simpa using hy, sameLen_end x r y hy⟩
end Go.Proofs.YtpehnahmdfoobaaDoor
