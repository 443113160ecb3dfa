/- Memories: New; Live of all words. -/
import Derived.Test.YtipohagcppfgiaaGreatMem5
namespace Go.Proofs.YtipohagcppfgiaaGreat
open Go.RowKit
open Go.Proofs
set_option linter.unusedVariables false
theorem row_new {V : World} {base g n : Nat} {e : TypeId} {cs : List Value} (h : V.heap[g]? = some (.cells cs.toArray e (0, 0))) (hl : cs.length = n) (hn : n ≤ 100000) (hb : base ≤ g) : V.ownsRow base e 1 (.slice (some ⟨g, 0, none⟩) n n) n cs := by
 refine ⟨by omega, .inr ⟨g, n, _, rfl, hb, h, Nat.le_refl _, by unfold maxLen; omega, by simp [hl], ?_⟩⟩
 rw [List.take_of_length_le (by simp [hl])]
structure RT (T : Nat) where
 v : World
 t0 : v.cell? ⟨T, 0, none⟩ = some (.bool true)
end Go.Proofs.YtipohagcppfgiaaGreat
