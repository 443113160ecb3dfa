/- Mounts: plain laws. -/
import Derived.Test.YtbfhppafffhlkaaMount13
namespace Go.Proofs.Ytbfhppafffhlkaa
open Go.RowKit
open Go.Proofs
set_option linter.unusedVariables false

theorem chkGo_pos (nx : Nat) : ∀ (ms : List (Nat × Nat)) (last : Nat), chkGo nx last ms = true → ∀ p ∈ ms, last < p.2 ∧ p.2 < nx ∧ (rd p.1).isSome = true
  | [], _, _, p, hp => by cases hp
  | q :: r, last, h, p, hp => by
    simp only [chkGo, Bool.and_eq_true, decide_eq_true_eq] at h
    obtain ⟨⟨⟨h1, h2⟩, h3⟩, h4⟩ := h
    rcases List.mem_cons.1 hp with rfl | hp
    · exact ⟨h2, h3, h1⟩
    · obtain ⟨k1, k2, k3⟩ := chkGo_pos nx r q.2 h4 p hp
      exact ⟨by omega, k2, k3⟩
theorem good_pos {ms : List (Nat × Nat)} {nx : Nat} (h : goodM ms nx = true) : ∀ p ∈ ms, 0 < p.2 ∧ p.2 < nx ∧ (rd p.1).isSome = true := by
  unfold goodM at h
  simp only [Bool.and_eq_true] at h
  exact chkGo_pos nx ms 0 h.1.1.1.1
/-- Where ids are no 0, what is read tells whether there is something. -/
theorem atM_pos (ms : List (Nat × Nat)) (u : Nat) : (∀ p ∈ ms, 0 < p.2) → decide (0 < atM ms u) = hasM ms u := by
  refine snocRec (p := fun ms => (∀ p ∈ ms, 0 < p.2) → decide (0 < atM ms u) = hasM ms u) (fun _ => rfl) (fun l p ih h => ?_) ms
  rw [atM_snoc]
  have h1 := ih (fun q hq => h q (List.mem_append_left _ hq))
  have hp := h p (List.mem_append_right _ (List.mem_singleton.2 rfl))
  by_cases e : p.1 = u
  · rw [if_pos e, decide_eq_true hp]
    simp [hasM, e]
  · rw [if_neg e, h1]
    simp [hasM, e]
end Go.Proofs.Ytbfhppafffhlkaa
